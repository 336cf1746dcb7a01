/-
  Walks in the abstract reading: critical components, periods and the cyclicity, by the program.
-/
import Derived.Test.YtkpoclbnnpglfaaGreatKqU11
import Derived.Test.YtkpoclbnnpglfaaGreatKqU12
set_option linter.unusedSimpArgs false
set_option linter.unusedVariables false
namespace Go.Proofs.YtkpoclbnnpglfaaGreat
open Go Go.RowKit
section
variable {P : Program} {o : Oper} {A : Operand → AV} {H : Heap} {new : Nat} {t t' : TypeId} {x y : Operand}
theorem Ok.quoN [Mode] {a b:Nat} (ho:o.op = .binOp .quo t x y t') (hx:A x=I (a:Nat)) (hy:A y=I (b:Nat)) (h:0<b) (h1:a≤1000000000000000000):OpOk P o A [] H new (I ((a / b:Nat):Int)) []:=Ok.quo (a:=(a:Int)) (b:=(b:Int)) ho hx hy (by omega) (by omega) (by omega)
theorem Ok.quoD [Mode] {a b c:Nat} (he:a / b=c) (ho:o.op = .binOp .quo t x y t') (hx:A x=I (a:Nat)) (hy:A y=I (b:Nat)) (h:0<b) (h1:a≤1000000000000000000):OpOk P o A [] H new (I (c:Nat)) []:=he▸Ok.quoN ho hx hy h h1
end
theorem find_cs [Mode] {α:Type} (q:α→Bool):∀ xs:List α,(xs.find? q=none∧∀ (i:Nat) x,xs[i]? = some x→q x=false)∨∃ j x,xs[j]? = some x∧q x=true∧xs.find? q=some x∧∀ (i:Nat) y,i<j→xs[i]? = some y→q y=false
 | []=>.inl ⟨rfl,fun i x h=>by simp at h⟩
 | w :: ws=>by
  cases hw:q w with
  | true=>exact .inr ⟨0,w,rfl,hw,by simp[hw],fun i y hi=>absurd hi (Nat.not_lt_zero i)⟩
  | false=>
   rcases find_cs q ws with ⟨h1,h2⟩|⟨j,v,h1,h2,h3,h4⟩
   ·refine .inl ⟨by simp[hw,h1],fun i x hx=>?_⟩
    cases i with
    | zero=>simp at hx;subst hx;exact hw
    | succ i=>exact h2 i x (by simpa using hx)
   ·refine .inr ⟨j+1,v,by simpa using h1,h2,by simp[hw,h3],fun i y hi hy=>?_⟩
    cases i with
    | zero=>simp at hy;subst hy;exact hw
    | succ i=>exact h4 i y (by omega) (by simpa using hy)
attribute [local irreducible] AL AD AW OpOk Le AC thenQ blockQ EndQ
abbrev kpR (W:Nat→Nat→Int) (n:Nat):List (List D):=(kpL W n).map fun v=>[D.sl 1 (IR (cN (cmp W n v)))]
theorem kpL_le [Mode] {W:Nat→Nat→Int}{n:Nat}:(kpL W n).length≤n:=Nat.le_trans (List.length_filter_le _ _) ldrN_le
theorem kpR_len [Mode] {W:Nat→Nat→Int}{n:Nat}:(kpR W n).length=(kpL W n).length:=by simp
theorem kpR_get [Mode] {W:Nat→Nat→Int}{n i v:Nat} (h:(kpL W n)[i]? = some v):(kpR W n)[((i:Nat):Int).toNat]? = some [D.sl 1 (IR (cN (cmp W n v)))]:=by
 rw[Int.toNat_natCast,List.getElem?_map,h];rfl
theorem cmp_len [Mode] {W:Nat→Nat→Int}{n v:Nat}:(cmp W n v).length≤n:=clsN_le
set_option maxHeartbeats 2000000 in
theorem criticalComponents_ac [Mode] (T:List (List Int)) (n:Nat) (hT:Sq T n) (hn:n≤10) (hback:∀ u v,u<n→v<n→entN T v u≠BOT→RchP (entN T) n v u) (hk:kpL (entN T) n≠[]):AC Tryz.prog 64 [TL T] H0 (.d (.sl 1 (kpR (entN T) n))) H0:=by
 have hCo:=(componentsOf_ac T n hT (by omega) (rcB (entN T) n) (fun u v hu hv=>wsB_rch hu hv) (fun v hv=>rc_refl hv)).frzR
 have e1:rwT (cmpR (rcB (entN T) n) n n)=rwD (fun v=>IR (cN (cmp (entN T) n v))) (lds (entN T) n):=by simp[rwT,rwD,cmpR]
 rw[e1] at hCo
 have hll:(lds (entN T) n).length≤n:=ldrN_le
 have hkp:kpF (fun v=>decide ((cmp (entN T) n v).length=1∧entN T (hdN (cmp (entN T) n v)) (hdN (cmp (entN T) n v))=BOT)) (lds (entN T) n) (lds (entN T) n).length=kpL (entN T) n:=by
  unfold kpF
  rw[List.take_length]
  exact List.filter_congr fun v hv=>kept_eq hback hv
 have hDl:=delRows_ac (fun v=>IR (cN (cmp (entN T) n v))) (lds (entN T) n) (TD T) (fun v=>decide ((cmp (entN T) n v).length=1∧entN T (hdN (cmp (entN T) n v)) (hdN (cmp (entN T) n v))=BOT)) (by omega) (by rw[hkp];exact hk) (fun v hv=>by
  obtain ⟨v1,v2,v3,v4⟩:=lds_mem hv
  exact ccFn_ac T n hT (by omega) (cmp (entN T) n v) (fun h=>by rw[h] at v3;cases v3) cmp_lt (by have:=cmp_len (W:=entN T) (n:=n) (v:=v);omega))
 rw[hkp] at hDl
 refine AC.frz (res:=own1 1 (kpL (entN T) n).length) (H':=hp1 (dobj 1 (kpR (entN T) n))) ?_ (AR.whole rfl trivial kpR_len)
 have e2:rwD (fun v=>IR (cN (cmp (entN T) n v))) (kpL (entN T) n)=kpR (entN T) n:=rfl
 rw[e2] at hDl
 generalize kpR (entN T) n=K1 at *
 generalize (kpL (entN T) n).length=m at *
 rw[show (ldrN (rcB (entN T) n) n n).length=(lds (entN T) n).length from rfl] at hCo
 generalize lds (entN T) n=L at *
 clear hkp e1
 refine AC.of_body 0 Tryz.func64 rfl (fun l h=>absurd rfl h) (fun C hC=>?_)
 have hD:∀ l,¬ C.D0 l:=fun l h=>(hC l).1 h rfl
 simp only[startFr,Tryz.ntmps64,List.length_cons,List.length_nil,Nat.reduceAdd,Nat.reduceSub,List.replicate_succ,List.replicate_zero,List.cons_append,List.nil_append]
 repeat' (first|((first|apply Ba|(apply Bb;(· rfl);(· rfl))|(apply Bc;(· exact nxE))|(apply Bd;(· rfl);(· rfl);(· exact nxE)));(· first|exact OpOk.call1n (res':=.own 1 ⟨3,[0]⟩ 0 L.length) [] rfl rfl hCo (.inl rfl) (fun g=>rnO_dobj g 1 _) (Sd Sn) (by first|(rw[rn];done)|(rw[rn];rfl))|exact Ok.callV (res':=.own 1 ⟨5,[2]⟩ 0 m) [(⟨0,[]⟩,⟨3,[0]⟩,dobj 1 (rwD (fun v=>IR (cN (cmp (entN T) n v))) L)),(⟨1,[]⟩,⟨0,[]⟩,⟨1,[[TL T]]⟩)] 2 rfl rfl hDl (by simp) (by simp) (by simp) ⟨⟨⟨_,_,rfl⟩,rfl⟩,⟨⟨1,[[TD T]],rfl⟩,rfl⟩,trivial⟩ (fun _=>by simp[rnO_dobj]) (ARs.cons (AR.own 1 ⟨0,[]⟩ 0 L.length (by simp)) (ARs.cons (AR.clo' .nil (.cons (AR.ptr _ _ _ _ (by simp)) .nil)) ARs.nil)) (by first|(rw[rn];done)|(rw[rn];rfl))|exact Ok.pe))|((first|apply Ca|(apply Cb;(· exact nxE)));(· first|exact OpOk.call1n (res':=.own 1 ⟨3,[0]⟩ 0 L.length) [] rfl rfl hCo (.inl rfl) (fun g=>rnO_dobj g 1 _) (Sd Sn) (by first|(rw[rn];done)|(rw[rn];rfl))|exact Ok.callV (res':=.own 1 ⟨5,[2]⟩ 0 m) [(⟨0,[]⟩,⟨3,[0]⟩,dobj 1 (rwD (fun v=>IR (cN (cmp (entN T) n v))) L)),(⟨1,[]⟩,⟨0,[]⟩,⟨1,[[TL T]]⟩)] 2 rfl rfl hDl (by simp) (by simp) (by simp) ⟨⟨⟨_,_,rfl⟩,rfl⟩,⟨⟨1,[[TD T]],rfl⟩,rfl⟩,trivial⟩ (fun _=>by simp[rnO_dobj]) (ARs.cons (AR.own 1 ⟨0,[]⟩ 0 L.length (by simp)) (ARs.cons (AR.clo' .nil (.cons (AR.ptr _ _ _ _ (by simp)) .nil)) ARs.nil)) (by first|(rw[rn];done)|(rw[rn];rfl))|exact Ok.e0))|refine Sx ?_|(refine Sy (fun h=>?_) (fun h=>?_)<;>try (exfalso;omega;done))|refine Sz (fun h=>?_) (fun h=>?_))
 refine Ya ?_
 (apply Le.head [(⟨0,[]⟩,_,_)])
 (case' hfr|hob=>(repeat' (first|refine La ?_ ?_|exact Lc|refine Lo ?_|refine ⟨⟨_,rfl,?_⟩,?_⟩|refine Lx ?_)))
 all_goals (first|exact Ld|(rfl))
noncomputable abbrev crT (t:List (List Int)):List (List Int):=if bmC t=0 then ccT t t.length else []
set_option maxHeartbeats 1000000 in
theorem criticalOf_ac [Mode] (t:List (List Int)) (ht:t.length≤100000000) (hr:∀ r∈t,r.length≤100000000):AC Tryz.prog 62 [TL t] H0 (.tup [TL (crT t),I (bmC t)]) H0:=by
 have hQ:=iIsSquare_ac t ht hr
 rcases bmC_cases t with ⟨e,hs⟩|⟨hs,hc,e⟩|⟨hs,hc,e⟩
 ·rw[hs] at hQ
  unfold crT
  rw[e,if_neg (by decide)]
  refine AC.of_body 0 Tryz.func62 rfl (fun l h=>absurd rfl h) (fun C hC=>?_)
  have hD:∀ l,¬ C.D0 l:=fun l h=>(hC l).1 h rfl
  simp only[startFr,Tryz.ntmps62,List.length_cons,List.length_nil,Nat.reduceAdd,Nat.reduceSub,List.replicate_succ,List.replicate_zero,List.cons_append,List.nil_append]
  repeat' (first|((first|apply Ba|(apply Bb;(· rfl);(· rfl))|(apply Bc;(· exact nxE))|(apply Bd;(· rfl);(· rfl);(· exact nxE)));(· first|exact Kz rfl rfl (hQ) (Ad An)|exact Ok.pe))|((first|apply Ca|(apply Cb;(· exact nxE)));(· first|exact Ok.e0))|refine Sx ?_|(refine Sy (fun h=>?_) (fun h=>?_)<;>try (exfalso;omega;done))|refine Sz (fun h=>?_) (fun h=>?_))
  refine Yb ?_
  (apply Le.headZ (hs:=[]) [] rfl)
  all_goals (try dsimp only[srcs])
  (case' hfr=>(repeat' (first|refine La ?_ ?_|exact Lc|refine Lo ?_|refine ⟨⟨_,rfl,?_⟩,?_⟩|refine Lx ?_)))
  all_goals (first|exact Ld|exact trivial|(rfl))
 ·rw[hs] at hQ
  have hM:=isSq_ok hs
  have hCm:=cycleMean_ac t t.length hM
  rw[kmR_get hM hc] at hCm
  simp only[Option.getD,Option.isSome] at hCm
  obtain ⟨h1,h2,h3,h4⟩:=kmR_ok hM.b hM.le hc
  have hCr:AC Tryz.prog 117 [TL t,.agg [I (kmR (entN t) t.length).1,I (kmR (entN t) t.length).2]] H0 (TL (ccT t t.length)) H0:=(criticalMatrix_ac t t.length hM (kmR (entN t) t.length).1 (kmR (entN t) t.length).2 h3 h4 (starM_k hM hc)).frzT (by rw[TR_len];exact tabF_len)
  unfold crT
  rw[e,if_pos rfl]
  generalize ccT t t.length=cm at *
  generalize kmR (entN t) t.length=m at *
  obtain ⟨p,q⟩:=m
  simp only at *
  refine AC.of_body 0 Tryz.func62 rfl (fun l h=>absurd rfl h) (fun C hC=>?_)
  have hD:∀ l,¬ C.D0 l:=fun l h=>(hC l).1 h rfl
  simp only[startFr,Tryz.ntmps62,List.length_cons,List.length_nil,Nat.reduceAdd,Nat.reduceSub,List.replicate_succ,List.replicate_zero,List.cons_append,List.nil_append]
  repeat' (first|((first|apply Ba|(apply Bb;(· rfl);(· rfl))|(apply Bc;(· exact nxE))|(apply Bd;(· rfl);(· rfl);(· exact nxE)));(· first|exact Kz rfl rfl (hQ) (Ad An)|exact Kz rfl rfl (hCm) (Ad An)|exact Kz rfl rfl (hCr) (Ad (Aa (Ad (Ad An)) An))|exact Ok.pe))|((first|apply Ca|(apply Cb;(· exact nxE)));(· first|exact Ok.e0))|refine Sx ?_|(refine Sy (fun h=>?_) (fun h=>?_)<;>try (exfalso;omega;done))|refine Sz (fun h=>?_) (fun h=>?_))
  refine Yb ?_
  (apply Le.headZ (hs:=[]) [] rfl)
  all_goals (try dsimp only[srcs])
  (case' hfr=>(repeat' (first|refine La ?_ ?_|exact Lc|refine Lo ?_|refine ⟨⟨_,rfl,?_⟩,?_⟩|refine Lx ?_)))
  all_goals (first|exact Ld|exact trivial|(rfl))
 ·rw[hs] at hQ
  have hM:=isSq_ok hs
  have hCm:=cycleMean_ac t t.length hM
  rw[karp_no hM.b hM.le hc] at hCm
  simp only[Option.getD,Option.isSome] at hCm
  unfold crT
  rw[e,if_neg (by decide)]
  refine AC.of_body 0 Tryz.func62 rfl (fun l h=>absurd rfl h) (fun C hC=>?_)
  have hD:∀ l,¬ C.D0 l:=fun l h=>(hC l).1 h rfl
  simp only[startFr,Tryz.ntmps62,List.length_cons,List.length_nil,Nat.reduceAdd,Nat.reduceSub,List.replicate_succ,List.replicate_zero,List.cons_append,List.nil_append]
  repeat' (first|((first|apply Ba|(apply Bb;(· rfl);(· rfl))|(apply Bc;(· exact nxE))|(apply Bd;(· rfl);(· rfl);(· exact nxE)));(· first|exact Kz rfl rfl (hQ) (Ad An)|exact Kz rfl rfl (hCm) (Ad An)|exact Ok.pe))|((first|apply Ca|(apply Cb;(· exact nxE)));(· first|exact Ok.e0))|refine Sx ?_|(refine Sy (fun h=>?_) (fun h=>?_)<;>try (exfalso;omega;done))|refine Sz (fun h=>?_) (fun h=>?_))
  refine Yb ?_
  (apply Le.headZ (hs:=[]) [] rfl)
  all_goals (try dsimp only[srcs])
  (case' hfr=>(repeat' (first|refine La ?_ ?_|exact Lc|refine Lo ?_|refine ⟨⟨_,rfl,?_⟩,?_⟩|refine Lx ?_)))
  all_goals (first|exact Ld|exact trivial|(rfl))
theorem cr_ok [Mode] {t:List (List Int)} (h:bmC t=0):MatOk t t.length∧hasK (entN t) t.length∧crT t=ccT t t.length∧Sq (ccT t t.length) t.length∧(∀ u v,u<t.length→v<t.length→entN (ccT t t.length) v u≠BOT→RchP (entN (ccT t t.length)) t.length v u)∧kpL (entN (ccT t t.length)) t.length≠[]:=by
 rcases bmC_cases t with ⟨e,_⟩|⟨hs,hc,e⟩|⟨_,_,e⟩
 ·rw[e] at h;cases h
 ·have hM:=isSq_ok hs
  have hb:=fun u v hu hv hW=>cm_back hM hc (u:=u) (v:=v) hu hv hW
  refine ⟨hM,hc,if_pos h,⟨tabF_len,tabF_rc.r⟩,hb,fun hk=>?_⟩
  obtain ⟨f,r,_,hw⟩:=best_wcy hM hc
  have hof:otB (entN (ccT t t.length)) t.length f=true:=by
   cases r with
   | nil=>exact otB_iff.2 ⟨f,hw.lt,hw.close⟩
   | cons i r=>exact otB_iff.2 ⟨i,(hw.gt i (by simp)).2,hw.path.1⟩
  obtain ⟨v,hv,_⟩:=kp_of hb hw.lt hof
  rw[hk] at hv;cases hv
 ·rw[e] at h;cases h
theorem iPeriod_ac [Mode] (C:List (List Int)) (n:Nat) (hC:Sq C n) (hn:n≤10) {v:Nat} (hv:v∈kpL (entN C) n):AC Tryz.prog 66 [TL C,IL (cN (cmp (entN C) n v))] H0 (I (pdV (entN C) n v:Nat)) H0:=by
 have hl:=(List.mem_filter.1 hv).1
 obtain ⟨v1,v2,v3,v4⟩:=lds_mem hl
 obtain ⟨N,h1,h2,h3⟩:=pd_bf (W:=entN C) hl
 have:=periodOf_ac C n hC (by omega) (cmp (entN C) n v) v v4 cmp_lt (by have:=cmp_len (W:=entN C) (n:=n) (v:=v);omega) N h1 h2
 rwa [h3] at this
def paF (W:Nat→Nat→Int) (n:Nat) (e:Int):Option Nat:=(kpL W n).find? fun v=>(cN (cmp W n v)).any fun x=>decide (x=e)
noncomputable def paC (t:List (List Int)) (e:Int):Int:=if bmC t=0 then (if nodB t e=true then (if (paF (entN (ccT t t.length)) t.length e).isSome=true then 0 else 5) else 2) else bmC t
noncomputable def paV (t:List (List Int)) (e:Int):Nat:=if paC t e=0 then ((paF (entN (ccT t t.length)) t.length e).map (pdV (entN (ccT t t.length)) t.length)).getD 0 else 0
set_option maxHeartbeats 2000000 in
theorem iPeriodAt_ac [Mode] (t:List (List Int)) (e:Int) (ht:t.length≤100000000) (hr:∀ r∈t,r.length≤100000000):AC Tryz.prog 22 [TL t,I e] H0 (.tup [I (paV t e:Nat),I (paC t e)]) H0:=by
 have hCr:=criticalOf_ac t ht hr
 have hNd:=isNode_ac t e ht
 by_cases h0:bmC t=0
 case neg=>
  have e1:paC t e=bmC t:=by unfold paC;rw[if_neg h0]
  have e2:paV t e=0:=by unfold paV;rw[e1,if_neg h0]
  rw[e1,e2]
  have e3:crT t=[]:=if_neg h0
  rw[e3] at hCr
  generalize bmC t=b at *
  refine AC.of_body 0 Tryz.func22 rfl (fun l h=>absurd rfl h) (fun C hC=>?_)
  have hD:∀ l,¬ C.D0 l:=fun l h=>(hC l).1 h rfl
  simp only[startFr,Tryz.ntmps22,List.length_cons,List.length_nil,Nat.reduceAdd,Nat.reduceSub,List.replicate_succ,List.replicate_zero,List.cons_append,List.nil_append]
  repeat' (first|((first|apply Ba|(apply Bb;(· rfl);(· rfl))|(apply Bc;(· exact nxE))|(apply Bd;(· rfl);(· rfl);(· exact nxE)));(· first|exact Kz rfl rfl (hCr) (Ad An)|exact Ok.pe))|((first|apply Ca|(apply Cb;(· exact nxE)));(· first|exact Ok.e0))|refine Sx ?_|(refine Sy (fun h=>?_) (fun h=>?_)<;>try (exfalso;omega;done))|refine Sz (fun h=>?_) (fun h=>?_))
  refine Yb ?_
  (apply Le.headZ (hs:=[]) [] rfl)
  all_goals (try dsimp only[srcs])
  (case' hfr=>(repeat' (first|refine La ?_ ?_|exact Lc|refine Lo ?_|refine ⟨⟨_,rfl,?_⟩,?_⟩|refine Lx ?_)))
  all_goals (first|exact Ld|exact trivial|(rfl))
 obtain ⟨hM,hc,e3,hSq,hb,hne⟩:=cr_ok h0
 rw[e3,h0] at hCr
 have hn:=hM.le
 cases hnb:nodB t e with
 | false=>
  have e1:paC t e=2:=by unfold paC;rw[if_pos h0,hnb];rfl
  have e2:paV t e=0:=by unfold paV;rw[e1];rfl
  rw[e1,e2]
  rw[hnb] at hNd
  generalize ccT t t.length=cm at *
  refine AC.of_body 0 Tryz.func22 rfl (fun l h=>absurd rfl h) (fun C hC=>?_)
  have hD:∀ l,¬ C.D0 l:=fun l h=>(hC l).1 h rfl
  simp only[startFr,Tryz.ntmps22,List.length_cons,List.length_nil,Nat.reduceAdd,Nat.reduceSub,List.replicate_succ,List.replicate_zero,List.cons_append,List.nil_append]
  repeat' (first|((first|apply Ba|(apply Bb;(· rfl);(· rfl))|(apply Bc;(· exact nxE))|(apply Bd;(· rfl);(· rfl);(· exact nxE)));(· first|exact Kz rfl rfl (hCr) (Ad An)|exact Kz rfl rfl (hNd) (Ad (Ad An))|exact Ok.pe))|((first|apply Ca|(apply Cb;(· exact nxE)));(· first|exact Ok.e0))|refine Sx ?_|(refine Sy (fun h=>?_) (fun h=>?_)<;>try (exfalso;omega;done))|refine Sz (fun h=>?_) (fun h=>?_))
  refine Yb ?_
  (apply Le.headZ (hs:=[]) [] rfl)
  all_goals (try dsimp only[srcs])
  (case' hfr=>(repeat' (first|refine La ?_ ?_|exact Lc|refine Lo ?_|refine ⟨⟨_,rfl,?_⟩,?_⟩|refine Lx ?_)))
  all_goals (first|exact Ld|exact trivial|(rfl))
 | true=>
  rw[hnb] at hNd
  have hCo:=criticalComponents_ac (ccT t t.length) t.length hSq hn hb hne
  have hPd:=fun v hv=>iPeriod_ac (ccT t t.length) t.length hSq hn (v:=v) hv
  have hCn:=fun v=>containsInt_ac (cN (cmp (entN (ccT t t.length)) t.length v)) e (by have:=cmp_len (W:=entN (ccT t t.length)) (n:=t.length) (v:=v);simp only[cN,List.length_map];omega)
  have hRl:=kpR_len (W:=entN (ccT t t.length)) (n:=t.length)
  have hRg:=fun i v h=>kpR_get (W:=entN (ccT t t.length)) (n:=t.length) (i:=i) (v:=v) h
  have hcs:=find_cs (fun v=>(cN (cmp (entN (ccT t t.length)) t.length v)).any fun x=>decide (x=e)) (kpL (entN (ccT t t.length)) t.length)
  have e1:paC t e=(if (paF (entN (ccT t t.length)) t.length e).isSome=true then 0 else 5):=by unfold paC;rw[if_pos h0,hnb];rfl
  have hkl:=kpL_le (W:=entN (ccT t t.length)) (n:=t.length)
  unfold paV
  rw[e1]
  unfold paF
  clear e1 e3
  generalize pdV (entN (ccT t t.length)) t.length=pf at *
  generalize cmp (entN (ccT t t.length)) t.length=cf at *
  generalize kpR (entN (ccT t t.length)) t.length=R at *
  generalize kpL (entN (ccT t t.length)) t.length=L at *
  generalize ccT t t.length=cm at *
  rcases hcs with ⟨f1,f2⟩|⟨j,v,f1,f2,f3,f4⟩
  ·rw[f1]
   simp only[Option.isSome_none,Bool.false_eq_true,if_false]
   refine AC.of_body 0 Tryz.func22 rfl (fun l h=>absurd rfl h) (fun C hC=>?_)
   have hD:∀ l,¬ C.D0 l:=fun l h=>(hC l).1 h rfl
   simp only[startFr,Tryz.ntmps22,List.length_cons,List.length_nil,Nat.reduceAdd,Nat.reduceSub,List.replicate_succ,List.replicate_zero,List.cons_append,List.nil_append]
   repeat' (first|((first|apply Ba|(apply Bb;(· rfl);(· rfl))|(apply Bc;(· exact nxE))|(apply Bd;(· rfl);(· rfl);(· exact nxE)));(· first|exact Kz rfl rfl (hCr) (Ad An)|exact Kz rfl rfl (hNd) (Ad (Ad An))|exact Kz rfl rfl (hCo) (Ad An)|exact Ok.lenD rfl rfl hRl|exact Ok.pe))|((first|apply Ca|(apply Cb;(· exact nxE)));(· first|exact Ok.e0))|refine Sx ?_|(refine Sy (fun h=>?_) (fun h=>?_)<;>try (exfalso;omega;done))|refine Sz (fun h=>?_) (fun h=>?_))
   refine AW.loop (X:={k:Nat // k≤L.length}) (fun k=>⟨[Oo,I e,Oo,Oo,Oo,Oo,TL cm,Oo,Oo,Oo,Oo,Oo,Oo,Oo,Oo,Oo,Oo,Oo,Oo,Oo,Oo,Oo,Oo,.d (.sl 1 R),I L.length,I (k.1:Nat),Oo,Oo,Oo,Oo,Oo,Oo,Oo,Oo,Oo,Oo],heapL [],900⟩) (fun k=>L.length - k.1) ⟨0,Nat.zero_le _⟩ ?_ (fun k=>?_)
   ·
    (apply Le.headZ [] rfl)
    all_goals (try dsimp only[srcs])
    (case' hfr|hob=>(repeat' (first|refine La ?_ ?_|exact Lc|refine Lo ?_|refine ⟨⟨_,rfl,?_⟩,?_⟩|refine Lx ?_)))
    all_goals (first|(rfl)|exact Ld)
   obtain ⟨i,hi⟩:=k
   simp only
   by_cases hlt:i<L.length
   ·obtain ⟨w,hw⟩:∃ w,L[i]? = some w:=⟨L[i],List.getElem?_eq_getElem hlt⟩
    have hrow:=hRg i w hw
    have hC1:=hCn w
    rw[f2 i w hw] at hC1
    repeat' (first|((first|apply Ba|(apply Bb;(· rfl);(· rfl))|(apply Bc;(· exact nxE))|(apply Bd;(· rfl);(· rfl);(· exact nxE)));(· first|exact Kz rfl rfl (hC1) (Ad (Ad An))|exact Ok.pe))|((first|apply Ca|(apply Cb;(· exact nxE)));(· first|exact Ok.e0))|refine Sx ?_|(refine Sy (fun h=>?_) (fun h=>?_)<;>try (exfalso;omega;done))|refine Sz (fun h=>?_) (fun h=>?_))
    refine ⟨⟨i+1,by omega⟩,?_,by simp only;omega⟩
    (apply Le.headZ [] rfl)
    all_goals (try dsimp only[srcs])
    (case' hfr|hob=>(repeat' (first|refine La ?_ ?_|exact Lc|refine Lo ?_|refine ⟨⟨_,rfl,?_⟩,?_⟩|refine Lx ?_)))
    all_goals (first|(rfl)|exact Ld)
   ·
    repeat' (first|((first|apply Ba|(apply Bb;(· rfl);(· rfl))|(apply Bc;(· exact nxE))|(apply Bd;(· rfl);(· rfl);(· exact nxE)));(· first|exact Ok.pe))|((first|apply Ca|(apply Cb;(· exact nxE)));(· first|exact Ok.e0))|refine Sx ?_|(refine Sy (fun h=>?_) (fun h=>?_)<;>try (exfalso;omega;done))|refine Sz (fun h=>?_) (fun h=>?_))
    refine Yb ?_
    (apply Le.headZ (hs:=[]) [] rfl)
    all_goals (try dsimp only[srcs])
    (case' hfr=>(repeat' (first|refine La ?_ ?_|exact Lc|refine Lo ?_|refine ⟨⟨_,rfl,?_⟩,?_⟩|refine Lx ?_)))
    all_goals (first|exact Ld|exact trivial|(rfl))
  ·rw[f3]
   simp only[Option.isSome_some,if_true,Option.map_some,Option.getD_some]
   have hjl:=(List.getElem?_eq_some_iff.1 f1).1
   refine AC.of_body 0 Tryz.func22 rfl (fun l h=>absurd rfl h) (fun C hC=>?_)
   have hD:∀ l,¬ C.D0 l:=fun l h=>(hC l).1 h rfl
   simp only[startFr,Tryz.ntmps22,List.length_cons,List.length_nil,Nat.reduceAdd,Nat.reduceSub,List.replicate_succ,List.replicate_zero,List.cons_append,List.nil_append]
   repeat' (first|((first|apply Ba|(apply Bb;(· rfl);(· rfl))|(apply Bc;(· exact nxE))|(apply Bd;(· rfl);(· rfl);(· exact nxE)));(· first|exact Kz rfl rfl (hCr) (Ad An)|exact Kz rfl rfl (hNd) (Ad (Ad An))|exact Kz rfl rfl (hCo) (Ad An)|exact Ok.lenD rfl rfl hRl|exact Ok.pe))|((first|apply Ca|(apply Cb;(· exact nxE)));(· first|exact Ok.e0))|refine Sx ?_|(refine Sy (fun h=>?_) (fun h=>?_)<;>try (exfalso;omega;done))|refine Sz (fun h=>?_) (fun h=>?_))
   refine AW.loop (X:={k:Nat // k≤j}) (fun k=>⟨[Oo,I e,Oo,Oo,Oo,Oo,TL cm,Oo,Oo,Oo,Oo,Oo,Oo,Oo,Oo,Oo,Oo,Oo,Oo,Oo,Oo,Oo,Oo,.d (.sl 1 R),I L.length,I (k.1:Nat),Oo,Oo,Oo,Oo,Oo,Oo,Oo,Oo,Oo,Oo],heapL [],900⟩) (fun k=>j - k.1) ⟨0,Nat.zero_le _⟩ ?_ (fun k=>?_)
   ·
    (apply Le.headZ [] rfl)
    all_goals (try dsimp only[srcs])
    (case' hfr|hob=>(repeat' (first|refine La ?_ ?_|exact Lc|refine Lo ?_|refine ⟨⟨_,rfl,?_⟩,?_⟩|refine Lx ?_)))
    all_goals (first|(rfl)|exact Ld)
   obtain ⟨i,hi⟩:=k
   simp only
   by_cases hlt:i<j
   ·obtain ⟨w,hw⟩:∃ w,L[i]? = some w:=⟨L[i],List.getElem?_eq_getElem (by omega)⟩
    have hrow:=hRg i w hw
    have hC1:=hCn w
    rw[f4 i w hlt hw] at hC1
    repeat' (first|((first|apply Ba|(apply Bb;(· rfl);(· rfl))|(apply Bc;(· exact nxE))|(apply Bd;(· rfl);(· rfl);(· exact nxE)));(· first|exact Kz rfl rfl (hC1) (Ad (Ad An))|exact Ok.pe))|((first|apply Ca|(apply Cb;(· exact nxE)));(· first|exact Ok.e0))|refine Sx ?_|(refine Sy (fun h=>?_) (fun h=>?_)<;>try (exfalso;omega;done))|refine Sz (fun h=>?_) (fun h=>?_))
    refine ⟨⟨i+1,by omega⟩,?_,by simp only;omega⟩
    (apply Le.headZ [] rfl)
    all_goals (try dsimp only[srcs])
    (case' hfr|hob=>(repeat' (first|refine La ?_ ?_|exact Lc|refine Lo ?_|refine ⟨⟨_,rfl,?_⟩,?_⟩|refine Lx ?_)))
    all_goals (first|(rfl)|exact Ld)
   ·obtain rfl:i=j:=by omega
    have hrow:=hRg i v f1
    have hC1:=hCn v
    rw[f2] at hC1
    have hP1:=hPd v (List.mem_of_getElem? f1)
    repeat' (first|((first|apply Ba|(apply Bb;(· rfl);(· rfl))|(apply Bc;(· exact nxE))|(apply Bd;(· rfl);(· rfl);(· exact nxE)));(· first|exact Kz rfl rfl (hC1) (Ad (Ad An))|exact Kz rfl rfl (hP1) (Ad (Ad An))|exact Ok.pe))|((first|apply Ca|(apply Cb;(· exact nxE)));(· first|exact Ok.e0))|refine Sx ?_|(refine Sy (fun h=>?_) (fun h=>?_)<;>try (exfalso;omega;done))|refine Sz (fun h=>?_) (fun h=>?_))
    refine Yb ?_
    (apply Le.headZ (hs:=[]) [] rfl)
    all_goals (try dsimp only[srcs])
    (case' hfr=>(repeat' (first|refine La ?_ ?_|exact Lc|refine Lo ?_|refine ⟨⟨_,rfl,?_⟩,?_⟩|refine Lx ?_)))
    all_goals (first|exact Ld|exact trivial|(rfl))
noncomputable def cyC (t:List (List Int)):Nat:=if bmC t=0 then cyF (entN (ccT t t.length)) t.length (kpL (entN (ccT t t.length)) t.length) else 0
theorem cy_bd [Mode] {W:Nat→Nat→Int}{n:Nat} (hn:1≤n∧n≤10) (hback:∀ u v,u<n→v<n→W v u≠BOT→RchP W n v u):∀ k,k≤(kpL W n).length→1≤((kpL W n).take k).foldl (cyS1 W n) 1∧((kpL W n).take k).foldl (cyS1 W n) 1≤10000000000:=fun k hk=>by
 have hkl:=kpL_le (W:=W) (n:=n)
 obtain ⟨h1,h2⟩:=cyF_bd (W:=W) (n:=n) (B:=10) (by decide) (vs:=kpL W n) (fun v hv=>by have:=pd_pos hback hv;omega) k hk
 refine ⟨h1,Nat.le_trans h2 ?_⟩
 have:(10:Nat) ^ k≤10 ^ 10:=Nat.pow_le_pow_right (by decide) (by omega)
 exact this
set_option maxHeartbeats 2000000 in
theorem iCyclicity_ac [Mode] (t:List (List Int)) (ht:t.length≤100000000) (hr:∀ r∈t,r.length≤100000000):AC Tryz.prog 24 [TL t] H0 (.tup [I (cyC t:Nat),I (bmC t)]) H0:=by
 have hCr:=criticalOf_ac t ht hr
 by_cases h0:bmC t=0
 case neg=>
  have e2:cyC t=0:=by unfold cyC;rw[if_neg h0]
  have e3:crT t=[]:=if_neg h0
  rw[e2]
  rw[e3] at hCr
  generalize bmC t=b at *
  refine AC.of_body 0 Tryz.func24 rfl (fun l h=>absurd rfl h) (fun C hC=>?_)
  have hD:∀ l,¬ C.D0 l:=fun l h=>(hC l).1 h rfl
  simp only[startFr,Tryz.ntmps24,List.length_cons,List.length_nil,Nat.reduceAdd,Nat.reduceSub,List.replicate_succ,List.replicate_zero,List.cons_append,List.nil_append]
  repeat' (first|((first|apply Ba|(apply Bb;(· rfl);(· rfl))|(apply Bc;(· exact nxE))|(apply Bd;(· rfl);(· rfl);(· exact nxE)));(· first|exact Kz rfl rfl (hCr) (Ad An)|exact Ok.pe))|((first|apply Ca|(apply Cb;(· exact nxE)));(· first|exact Ok.e0))|refine Sx ?_|(refine Sy (fun h=>?_) (fun h=>?_)<;>try (exfalso;omega;done))|refine Sz (fun h=>?_) (fun h=>?_))
  refine Yb ?_
  (apply Le.headZ (hs:=[]) [] rfl)
  all_goals (try dsimp only[srcs])
  (case' hfr=>(repeat' (first|refine La ?_ ?_|exact Lc|refine Lo ?_|refine ⟨⟨_,rfl,?_⟩,?_⟩|refine Lx ?_)))
  all_goals (first|exact Ld|exact trivial|(rfl))
 obtain ⟨hM,hc,e3,hSq,hb,hne⟩:=cr_ok h0
 have e2:cyC t=cyF (entN (ccT t t.length)) t.length (kpL (entN (ccT t t.length)) t.length):=by unfold cyC;rw[if_pos h0]
 rw[e2,h0]
 rw[e3,h0] at hCr
 have hn:=hM.le
 have hCo:=criticalComponents_ac (ccT t t.length) t.length hSq hn hb hne
 have hPd:=fun v hv=>iPeriod_ac (ccT t t.length) t.length hSq hn (v:=v) hv
 have hRl:=kpR_len (W:=entN (ccT t t.length)) (n:=t.length)
 have hRg:=fun i v h=>kpR_get (W:=entN (ccT t t.length)) (n:=t.length) (i:=i) (v:=v) h
 have hkl:=kpL_le (W:=entN (ccT t t.length)) (n:=t.length)
 have hbd:=cy_bd ⟨hM.pos,hn⟩ hb
 have hpp:=fun v hv=>pd_pos (W:=entN (ccT t t.length)) (n:=t.length) hb (v:=v) hv
 have hst:=fun k v (h:(kpL (entN (ccT t t.length)) t.length)[k]? = some v)=>take_fold (f:=cyS1 (entN (ccT t t.length)) t.length) (b:=1) h
 have hs1:∀ c v,cyS1 (entN (ccT t t.length)) t.length c v=c / Nat.gcd c (pdV (entN (ccT t t.length)) t.length v)*pdV (entN (ccT t t.length)) t.length v:=fun _ _=>rfl
 unfold cyF
 clear e2 e3
 generalize cyS1 (entN (ccT t t.length)) t.length=sf at *
 generalize pdV (entN (ccT t t.length)) t.length=pf at *
 generalize cmp (entN (ccT t t.length)) t.length=cf at *
 generalize kpR (entN (ccT t t.length)) t.length=R at *
 generalize kpL (entN (ccT t t.length)) t.length=L at *
 generalize ccT t t.length=cm at *
 refine AC.of_body 0 Tryz.func24 rfl (fun l h=>absurd rfl h) (fun C hC=>?_)
 have hD:∀ l,¬ C.D0 l:=fun l h=>(hC l).1 h rfl
 simp only[startFr,Tryz.ntmps24,List.length_cons,List.length_nil,Nat.reduceAdd,Nat.reduceSub,List.replicate_succ,List.replicate_zero,List.cons_append,List.nil_append]
 repeat' (first|((first|apply Ba|(apply Bb;(· rfl);(· rfl))|(apply Bc;(· exact nxE))|(apply Bd;(· rfl);(· rfl);(· exact nxE)));(· first|exact Kz rfl rfl (hCr) (Ad An)|exact Kz rfl rfl (hCo) (Ad An)|exact Ok.lenD rfl rfl hRl|exact Ok.pe))|((first|apply Ca|(apply Cb;(· exact nxE)));(· first|exact Ok.e0))|refine Sx ?_|(refine Sy (fun h=>?_) (fun h=>?_)<;>try (exfalso;omega;done))|refine Sz (fun h=>?_) (fun h=>?_))
 refine AW.loop (X:={k:Nat // k≤L.length}) (fun k=>⟨[Oo,Oo,Oo,Oo,TL cm,Oo,I (((L.take (k.1:Nat)).foldl sf 1:Nat):Int),Oo,Oo,Oo,Oo,Oo,Oo,Oo,Oo,Oo,Oo,Oo,Oo,.d (.sl 1 R),I L.length,I (k.1:Nat),Oo,Oo,Oo,Oo,Oo,Oo,Oo,Oo,Oo,Oo,Oo,Oo,Oo,Oo,Oo],heapL [],900⟩) (fun k=>L.length - k.1) ⟨0,Nat.zero_le _⟩ ?_ (fun k=>?_)
 ·
  (apply Le.headZ [] rfl)
  all_goals (try dsimp only[srcs])
  (case' hfr|hob=>(repeat' (first|refine La ?_ ?_|exact Lc|refine Lo ?_|refine ⟨⟨_,rfl,?_⟩,?_⟩|refine Lx ?_)))
  all_goals (first|(rfl)|exact Ld)
 obtain ⟨i,hi⟩:=k
 simp only
 by_cases hlt:i<L.length
 ·obtain ⟨w,hw⟩:∃ w,L[i]? = some w:=⟨L[i],List.getElem?_eq_getElem hlt⟩
  have hrow:=hRg i w hw
  have hP1:=hPd w (List.mem_of_getElem? hw)
  have hp1:=hpp w (List.mem_of_getElem? hw)
  have hs:=hst i w hw
  rw[hs1] at hs
  have hb1:=hbd i (by omega)
  have hb2:=hbd (i+1) (by omega)
  rw[hs] at hb2
  generalize (L.take i).foldl sf 1=c at *
  generalize pf w=p at *
  have hDv:=divisorOf_ac c p (by omega) (by omega)
  have hg:0<Nat.gcd c p:=Nat.gcd_pos_of_pos_left _ (by omega)
  have hdl:c / Nat.gcd c p≤c:=Nat.div_le_self _ _
  generalize Nat.gcd c p=g at *
  generalize hdg:c / g=d at *
  have hcast:((d*p:Nat):Int)=(d:Int)*(p:Int):=Int.natCast_mul _ _
  have hb3:0≤(d:Int)*(p:Int)∧(d:Int)*(p:Int)≤10000000000:=by omega
  have hqa:((c / g:Nat):Int)=(d:Int):=by rw[hdg]
  repeat' (first|((first|apply Ba|(apply Bb;(· rfl);(· rfl))|(apply Bc;(· exact nxE))|(apply Bd;(· rfl);(· rfl);(· exact nxE)));(· first|exact Kz rfl rfl (hP1) (Ad (Ad An))|exact Kz rfl rfl (hDv) (Ad (Ad An))|exact Ok.quoD hdg rfl rfl rfl hg (by omega)|exact Ok.pe))|((first|apply Ca|(apply Cb;(· exact nxE)));(· first|exact Ok.e0))|refine Sx ?_|(refine Sy (fun h=>?_) (fun h=>?_)<;>try (exfalso;omega;done))|refine Sz (fun h=>?_) (fun h=>?_))
  refine ⟨⟨i+1,by omega⟩,?_,by simp only;omega⟩
  rw[hs,hcast]
  (apply Le.headZ [] rfl)
  all_goals (try dsimp only[srcs])
  (case' hfr|hob=>(repeat' (first|refine La ?_ ?_|exact Lc|refine Lo ?_|refine ⟨⟨_,rfl,?_⟩,?_⟩|refine Lx ?_)))
  all_goals (first|((first|rfl|(rw[hqa];done)|(rw[hdg];done)))|exact Ld)
 ·obtain rfl:i=L.length:=by omega
  rw[List.take_length]
  repeat' (first|((first|apply Ba|(apply Bb;(· rfl);(· rfl))|(apply Bc;(· exact nxE))|(apply Bd;(· rfl);(· rfl);(· exact nxE)));(· first|exact Ok.pe))|((first|apply Ca|(apply Cb;(· exact nxE)));(· first|exact Ok.e0))|refine Sx ?_|(refine Sy (fun h=>?_) (fun h=>?_)<;>try (exfalso;omega;done))|refine Sz (fun h=>?_) (fun h=>?_))
  refine Yb ?_
  (apply Le.headZ (hs:=[]) [] rfl)
  all_goals (try dsimp only[srcs])
  (case' hfr=>(repeat' (first|refine La ?_ ?_|exact Lc|refine Lo ?_|refine ⟨⟨_,rfl,?_⟩,?_⟩|refine Lx ?_)))
  all_goals (first|exact Ld|exact trivial|(rfl))
noncomputable abbrev ccR (t:List (List Int)):List (List D):=if bmC t=0 then kpR (entN (ccT t t.length)) t.length else []
theorem iCriticalComponents_ac [Mode] (t:List (List Int)) (ht:t.length≤100000000) (hr:∀ r∈t,r.length≤100000000):AC Tryz.prog 26 [TL t] H0 (.tup [.d (.sl 1 (ccR t)),I (bmC t)]) H0:=by
 have hCr:=criticalOf_ac t ht hr
 by_cases h0:bmC t=0
 case neg=>
  have e2:ccR t=[]:=if_neg h0
  have e3:crT t=[]:=if_neg h0
  rw[e2]
  rw[e3] at hCr
  generalize bmC t=b at *
  refine AC.of_body 0 Tryz.func26 rfl (fun l h=>absurd rfl h) (fun C hC=>?_)
  have hD:∀ l,¬ C.D0 l:=fun l h=>(hC l).1 h rfl
  simp only[startFr,Tryz.ntmps26,List.length_cons,List.length_nil,Nat.reduceAdd,Nat.reduceSub,List.replicate_succ,List.replicate_zero,List.cons_append,List.nil_append]
  repeat' (first|((first|apply Ba|(apply Bb;(· rfl);(· rfl))|(apply Bc;(· exact nxE))|(apply Bd;(· rfl);(· rfl);(· exact nxE)));(· first|exact Kz rfl rfl (hCr) (Ad An)|exact Ok.pe))|((first|apply Ca|(apply Cb;(· exact nxE)));(· first|exact Ok.e0))|refine Sx ?_|(refine Sy (fun h=>?_) (fun h=>?_)<;>try (exfalso;omega;done))|refine Sz (fun h=>?_) (fun h=>?_))
  refine Yb ?_
  (apply Le.headZ (hs:=[]) [] rfl)
  all_goals (try dsimp only[srcs])
  (case' hfr=>(repeat' (first|refine La ?_ ?_|exact Lc|refine Lo ?_|refine ⟨⟨_,rfl,?_⟩,?_⟩|refine Lx ?_)))
  all_goals (first|exact Ld|exact trivial|(rfl))
 obtain ⟨hM,hc,e3,hSq,hb,hne⟩:=cr_ok h0
 have e2:ccR t=kpR (entN (ccT t t.length)) t.length:=if_pos h0
 rw[e2,h0]
 rw[e3,h0] at hCr
 have hCo:=criticalComponents_ac (ccT t t.length) t.length hSq hM.le hb hne
 generalize kpR (entN (ccT t t.length)) t.length=R at *
 generalize ccT t t.length=cm at *
 refine AC.of_body 0 Tryz.func26 rfl (fun l h=>absurd rfl h) (fun C hC=>?_)
 have hD:∀ l,¬ C.D0 l:=fun l h=>(hC l).1 h rfl
 simp only[startFr,Tryz.ntmps26,List.length_cons,List.length_nil,Nat.reduceAdd,Nat.reduceSub,List.replicate_succ,List.replicate_zero,List.cons_append,List.nil_append]
 repeat' (first|((first|apply Ba|(apply Bb;(· rfl);(· rfl))|(apply Bc;(· exact nxE))|(apply Bd;(· rfl);(· rfl);(· exact nxE)));(· first|exact Kz rfl rfl (hCr) (Ad An)|exact Kz rfl rfl (hCo) (Ad An)|exact Ok.pe))|((first|apply Ca|(apply Cb;(· exact nxE)));(· first|exact Ok.e0))|refine Sx ?_|(refine Sy (fun h=>?_) (fun h=>?_)<;>try (exfalso;omega;done))|refine Sz (fun h=>?_) (fun h=>?_))
 refine Yb ?_
 (apply Le.headZ (hs:=[]) [] rfl)
 all_goals (try dsimp only[srcs])
 (case' hfr=>(repeat' (first|refine La ?_ ?_|exact Lc|refine Lo ?_|refine ⟨⟨_,rfl,?_⟩,?_⟩|refine Lx ?_)))
 all_goals (first|exact Ld|exact trivial|(rfl))
end Go.Proofs.YtkpoclbnnpglfaaGreat
