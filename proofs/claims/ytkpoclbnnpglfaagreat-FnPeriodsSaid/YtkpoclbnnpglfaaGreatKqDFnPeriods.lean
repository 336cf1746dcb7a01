/-
  The law FnPeriods, in the abstract reading.
-/
import Derived.Test.YtkpoclbnnpglfaaGreatKqE105
import Derived.Test.YtkpoclbnnpglfaaGreatKqR38
import Derived.Test.YtkpoclbnnpglfaaGreatKqU14
set_option linter.unusedSimpArgs false
set_option linter.unusedVariables false
namespace Go.Proofs.YtkpoclbnnpglfaaGreat
open Go Go.RowKit
theorem tm0 [Mode] {a b:Nat} (h:b ∣ a):(a:Int).tmod (b:Int)=0:=by
 show ((a % b:Nat):Int)=0
 rw[Nat.mod_eq_zero_of_dvd h];rfl
theorem Ok.rem0 [Mode] {P:Program}{o:Oper}{A:Operand→AV}{H:Heap}{new:Nat}{t t':TypeId}{x y:Operand}{a b:Int} (he:a.tmod b=0) (ho:o.op = .binOp .rem t x y t') (hx:A x=I a) (hy:A y=I b) (h:b≠0):OpOk P o A [] H new (I 0) []:=by
 have:=Ok.rem (P:=P) (H:=H) (new:=new) ho hx hy h
 rwa [he] at this
noncomputable def ccL (t:List (List Int)):List (List Int):=if bmC t=0 then (kpL (entN (ccT t t.length)) t.length).map fun v=>cN (cmp (entN (ccT t t.length)) t.length v) else []
theorem ccL_eq [Mode] {t:List (List Int)}:AV.d (.sl 1 (ccR t))=TL (ccL t):=by
 unfold ccR ccL
 split
 ·simp[mRows,TR,TD]
 ·rfl
theorem ccL_len [Mode] {t:List (List Int)}:(ccL t).length≤100000000∧∀ r∈ccL t,r.length≤100000000:=by
 unfold ccL
 split
 ·rename_i h
  obtain ⟨hM,_⟩:=cr_ok h
  have hn:=hM.le
  have h1:=kpL_le (W:=entN (ccT t t.length)) (n:=t.length)
  refine ⟨by rw[List.length_map];omega,fun r hr=>?_⟩
  obtain ⟨v,_,rfl⟩:=List.mem_map.1 hr
  have:=cmp_len (W:=entN (ccT t t.length)) (n:=t.length) (v:=v)
  simp;omega
 ·simp
theorem pa_bad [Mode] {t:List (List Int)}{e:Int} (h:bmC t≠0):paC t e≠0:=by
 unfold paC
 rw[if_neg h];exact h
theorem pa_any [Mode] {t:List (List Int)}{e:Int} (h0:bmC t=0) (h:paC t e=0):1≤paV t e∧paV t e ∣ cyC t:=by
 obtain ⟨hM,hc,_,_,hb,_⟩:=cr_ok h0
 have ep:paV t e=((paF (entN (ccT t t.length)) t.length e).map (pdV (entN (ccT t t.length)) t.length)).getD 0:=by unfold paV;rw[if_pos h]
 have ec:cyC t=cyF (entN (ccT t t.length)) t.length (kpL (entN (ccT t t.length)) t.length):=by unfold cyC;rw[if_pos h0]
 cases hf:paF (entN (ccT t t.length)) t.length e with
 | none=>
  unfold paC at h
  rw[if_pos h0,hf] at h
  by_cases hn:nodB t e=true
  ·rw[if_pos hn] at h;simp at h
  ·rw[if_neg hn] at h;cases h
 | some v=>
  rw[hf] at ep
  simp only[Option.map_some,Option.getD_some] at ep
  have hv:v∈kpL (entN (ccT t t.length)) t.length:=List.mem_of_find?_eq_some hf
  rw[ep,ec]
  exact ⟨(pd_pos hb hv).1,(cyF_dvd _ _).2 v hv⟩
theorem pa_best [Mode] {t:List (List Int)} (h0:bmC t=0):∃ (f:Nat) (r:List Nat),bmL t=f :: r∧paC t f=0∧paV t f ∣ r.length+1:=by
 obtain ⟨hM,hc,_,_,hb,_⟩:=cr_ok h0
 obtain ⟨f,r,e,hw⟩:=best_wcy hM hc
 have hof:otB (entN (ccT t t.length)) t.length f=true:=by
  cases r with
  | nil=>exact otB_iff.2 ⟨f,hw.lt,hw.close⟩
  | cons i r=>exact otB_iff.2 ⟨i,(hw.gt i (by simp)).2,hw.path.1⟩
 obtain ⟨v,hv,hvf⟩:=kp_of hb hw.lt hof
 have hlt:=hw.lt
 have hnd:nodB t (f:Int)=true:=wi_iff.2 ⟨by omega,by omega⟩
 refine ⟨f,r,?_,?_⟩
 ·unfold bmL;rw[if_pos h0];exact e
 cases hf:paF (entN (ccT t t.length)) t.length (f:Int) with
 | none=>
  have:=List.find?_eq_none.1 hf v hv
  refine absurd ?_ this
  rw[List.any_eq_true]
  exact ⟨(f:Int),List.mem_map.2 ⟨f,hvf,rfl⟩,decide_eq_true rfl⟩
 | some w=>
  have hC:paC t (f:Int)=0:=by
   unfold paC
   rw[if_pos h0,if_pos hnd,hf];rfl
  refine ⟨hC,?_⟩
  have ep:paV t (f:Int)=pdV (entN (ccT t t.length)) t.length w:=by
   unfold paV;rw[if_pos hC,hf];rfl
  have hw2:=List.find?_some hf
  rw[List.any_eq_true] at hw2
  obtain ⟨x,hx,hxe⟩:=hw2
  obtain ⟨g,hg,rfl⟩:=List.mem_map.1 hx
  have hgf:(g:Int)=f:=of_decide_eq_true hxe
  obtain rfl:g=f:=by omega
  rw[ep]
  exact pd_cy hg hw
attribute [local irreducible] AL AD AW OpOk Le AC thenQ blockQ EndQ
set_option maxRecDepth 100000 in
set_option maxHeartbeats 16000000 in
theorem lawFnPeriods_ac [Mode] (code:List Int) (hl:code.length≤9223372036854775807) (hb:∀ b∈code,0≤b∧b≤255):AC Tryz.prog 4 [.d (BD code)] H0 (Bo true) H0:=by
 have hBig:=big_ac code hl
 by_cases hbig:4096<(code.length:Int)
 ·
  refine AC.of_body 0 Tryz.func4 rfl (fun l h=>absurd rfl h) (fun C hC=>?_)
  have hD:∀ l,¬ C.D0 l:=fun l h=>(hC l).1 h rfl
  simp only[startFr,Tryz.ntmps4,List.length_cons,List.length_nil,Nat.reduceAdd,Nat.reduceSub,List.replicate_succ,List.replicate_zero,List.cons_append,List.nil_append]
  repeat' (first|((first|apply Ba|(apply Bb;(· rfl);(· rfl))|(apply Bc;(· exact nxE))|(apply Bd;(· rfl);(· rfl);(· exact nxE)));(· first|exact Kz rfl rfl (hBig) (Ad An)|exact Ok.pe))|((first|apply Ca|(apply Cb;(· exact nxE)));(· first|exact Ok.e0))|refine Sx ?_|(refine Sy (fun h=>?_) (fun h=>?_)<;>try (exfalso;omega;done))|refine Sz (fun h=>?_) (fun h=>?_))
  refine Ya ?_
  (apply Le.headZ (hs:=[]) [] rfl)
  all_goals (try dsimp only[srcs])
  (case' hfr=>(repeat' (first|refine La ?_ ?_|exact Lc|refine Lo ?_|refine ⟨⟨_,rfl,?_⟩,?_⟩|refine Lx ?_)))
  all_goals (first|exact Ld|exact trivial|(rfl))
 have hc:CodeOk code:=⟨by omega,hb⟩
 obtain ⟨t,e,hT,hG⟩:=drawPeriodAt_ex code hc
 have ht:t.length≤100000000:=by have:=hT.l;omega
 have hr:∀ r∈t,r.length≤100000000:=fun r h=>by have:=hT.r r h;omega
 have hI:=iPeriodAt_ac t e ht hr
 have hS:=sPeriodAt_ac t e ht hr
 have hI1:=iCyclicity_ac t ht hr
 have hS1:=sCyclicity_ac t ht hr
 have hI2:=iCriticalComponents_ac t ht hr
 have hS2:=sCriticalComponents_ac t ht hr
 have hB:=(iBestCycle_ac t ht hr).frz (resD:=.tup [IL (cN (bmL t)),I (bmC t)]) (ARs.tup (.cons (AR.whole (l:=⟨0,[]⟩) rfl trivial (by simp)) (.cons (.dd _) .nil)))
 rw[ccL_eq] at hI2 hS2
 have hLk:=likeTables9_refl (ccL t) ccL_len.1 ccL_len.2
 by_cases h0:bmC t=0
 case neg=>
  clear hB
  have hbad:=pa_bad (e:=e) h0
  generalize ccL t=cc at *
  generalize paC t e=b at *
  generalize paV t e=p at *
  generalize cyC t=c at *
  generalize bmC t=z at *
  refine AC.of_body 0 Tryz.func4 rfl (fun l h=>absurd rfl h) (fun C hC=>?_)
  have hD:∀ l,¬ C.D0 l:=fun l h=>(hC l).1 h rfl
  simp only[startFr,Tryz.ntmps4,List.length_cons,List.length_nil,Nat.reduceAdd,Nat.reduceSub,List.replicate_succ,List.replicate_zero,List.cons_append,List.nil_append]
  repeat' (first|((first|apply Ba|(apply Bb;(· rfl);(· rfl))|(apply Bc;(· exact nxE))|(apply Bd;(· rfl);(· rfl);(· exact nxE)));(· first|exact Kz rfl rfl (hBig) (Ad An)|exact Kz rfl rfl (hG) (Ad An)|exact Kz rfl rfl (hI) (Ad (Ad An))|exact Kz rfl rfl (hS) (Ad (Ad An))|exact Kz rfl rfl (hI1) (Ad An)|exact Kz rfl rfl (hS1) (Ad An)|exact Kz rfl rfl (hI2) (Ad An)|exact Kz rfl rfl (hS2) (Ad An)|exact Kz rfl rfl (hLk) (Ad (Ad An))|exact Ok.pe))|((first|apply Ca|(apply Cb;(· exact nxE)));(· first|exact Ok.e0))|refine Sx ?_|(refine Sy (fun h=>?_) (fun h=>?_)<;>try (exfalso;omega;done))|refine Sz (fun h=>?_) (fun h=>?_))
  all_goals
   refine Ya ?_
   (apply Le.headZ (hs:=[]) [] rfl)
   all_goals (try dsimp only[srcs])
   (case' hfr=>(repeat' (first|refine La ?_ ?_|exact Lc|refine Lo ?_|refine ⟨⟨_,rfl,?_⟩,?_⟩|refine Lx ?_)))
   all_goals (first|exact Ld|exact trivial|(first|rfl|exact (decide_eq_true (by omega)).symm))
 obtain ⟨f,r,e1,e2,e3⟩:=pa_best h0
 obtain ⟨e4,e5⟩:=pa_any h0 e2
 have hI3:=iPeriodAt_ac t f ht hr
 rw[e2] at hI3
 have hany:=fun h=>pa_any (e:=e) h0 h
 have hl1:(IR (cN (bmL t))).length=r.length+1:=by rw[e1];simp
 have hf0:(IR (cN (bmL t)))[((0:Int)).toNat]? = some [DI (f:Nat)]:=by rw[e1];rfl
 have hq1:=tm0 e3
 have hq2:=tm0 e5
 have hq3:=fun h=>tm0 (hany h).2
 have hq4:=fun h=>(hany h).1
 rw[h0] at hI1 hS1 hI2 hS2 hB
 clear hany e1 e2 e3 e5
 generalize ccL t=cc at *
 generalize paC t e=b at *
 generalize paV t e=p at *
 generalize paV t (f:Int)=q at *
 generalize cyC t=c at *
 generalize r.length+1=L at *
 generalize cN (bmL t)=x at *
 by_cases hb0:b=0
 ·subst hb0
  have hp1:=hq4 rfl
  have hp2:=hq3 rfl
  clear hq3 hq4
  refine AC.of_body 0 Tryz.func4 rfl (fun l h=>absurd rfl h) (fun C hC=>?_)
  have hD:∀ l,¬ C.D0 l:=fun l h=>(hC l).1 h rfl
  simp only[startFr,Tryz.ntmps4,List.length_cons,List.length_nil,Nat.reduceAdd,Nat.reduceSub,List.replicate_succ,List.replicate_zero,List.cons_append,List.nil_append]
  repeat' (first|((first|apply Ba|(apply Bb;(· rfl);(· rfl))|(apply Bc;(· exact nxE))|(apply Bd;(· rfl);(· rfl);(· exact nxE)));(· first|exact Kz rfl rfl (hBig) (Ad An)|exact Kz rfl rfl (hG) (Ad An)|exact Kz rfl rfl (hI) (Ad (Ad An))|exact Kz rfl rfl (hS) (Ad (Ad An))|exact Kz rfl rfl (hI1) (Ad An)|exact Kz rfl rfl (hS1) (Ad An)|exact Kz rfl rfl (hI2) (Ad An)|exact Kz rfl rfl (hS2) (Ad An)|exact Kz rfl rfl (hLk) (Ad (Ad An))|exact Kz rfl rfl (hB) (Ad An)|exact Kz rfl rfl (hI3) (Ad (Ad An))|exact Ok.lenD rfl rfl hl1|exact Ok.rem0 hq1 rfl rfl rfl (by omega)|exact Ok.rem0 hq2 rfl rfl rfl (by omega)|exact Ok.rem0 hp2 rfl rfl rfl (by omega)|exact Ok.pe))|((first|apply Ca|(apply Cb;(· exact nxE)));(· first|exact Ok.e0))|refine Sx ?_|(refine Sy (fun h=>?_) (fun h=>?_)<;>try (exfalso;omega;done))|refine Sz (fun h=>?_) (fun h=>?_))
  all_goals
   refine Ya ?_
   (apply Le.headZ (hs:=[]) [] rfl)
   all_goals (try dsimp only[srcs])
   (case' hfr=>(repeat' (first|refine La ?_ ?_|exact Lc|refine Lo ?_|refine ⟨⟨_,rfl,?_⟩,?_⟩|refine Lx ?_)))
   all_goals (first|exact Ld|exact trivial|(first|rfl|exact (decide_eq_true (by omega)).symm))
 ·clear hq3 hq4
  refine AC.of_body 0 Tryz.func4 rfl (fun l h=>absurd rfl h) (fun C hC=>?_)
  have hD:∀ l,¬ C.D0 l:=fun l h=>(hC l).1 h rfl
  simp only[startFr,Tryz.ntmps4,List.length_cons,List.length_nil,Nat.reduceAdd,Nat.reduceSub,List.replicate_succ,List.replicate_zero,List.cons_append,List.nil_append]
  repeat' (first|((first|apply Ba|(apply Bb;(· rfl);(· rfl))|(apply Bc;(· exact nxE))|(apply Bd;(· rfl);(· rfl);(· exact nxE)));(· first|exact Kz rfl rfl (hBig) (Ad An)|exact Kz rfl rfl (hG) (Ad An)|exact Kz rfl rfl (hI) (Ad (Ad An))|exact Kz rfl rfl (hS) (Ad (Ad An))|exact Kz rfl rfl (hI1) (Ad An)|exact Kz rfl rfl (hS1) (Ad An)|exact Kz rfl rfl (hI2) (Ad An)|exact Kz rfl rfl (hS2) (Ad An)|exact Kz rfl rfl (hLk) (Ad (Ad An))|exact Kz rfl rfl (hB) (Ad An)|exact Kz rfl rfl (hI3) (Ad (Ad An))|exact Ok.lenD rfl rfl hl1|exact Ok.rem0 hq1 rfl rfl rfl (by omega)|exact Ok.rem0 hq2 rfl rfl rfl (by omega)|exact Ok.pe))|((first|apply Ca|(apply Cb;(· exact nxE)));(· first|exact Ok.e0))|refine Sx ?_|(refine Sy (fun h=>?_) (fun h=>?_)<;>try (exfalso;omega;done))|refine Sz (fun h=>?_) (fun h=>?_))
  all_goals
   refine Ya ?_
   (apply Le.headZ (hs:=[]) [] rfl)
   all_goals (try dsimp only[srcs])
   (case' hfr=>(repeat' (first|refine La ?_ ?_|exact Lc|refine Lo ?_|refine ⟨⟨_,rfl,?_⟩,?_⟩|refine Lx ?_)))
   all_goals (first|exact Ld|exact trivial|(first|rfl|exact (decide_eq_true (by omega)).symm))
end Go.Proofs.YtkpoclbnnpglfaaGreat
