/-
  Walks in the abstract reading: periods and the cyclicity, by the reference.
-/
import Derived.Test.YtkpoclbnnpglfaaGreatKqE104
set_option linter.unusedSimpArgs false
set_option linter.unusedVariables false
namespace Go.Proofs.YtkpoclbnnpglfaaGreat
open Go Go.RowKit
def stL (W:Nat→Nat→Int) (n m:Nat) (l:List Nat) (g v:Nat):Nat:=if W v (lsN l)=BOT∨v∈l then g else lnF W n m (l++[v]) g
def lnZ (W:Nat→Nat→Int) (l:List Nat) (g:Nat):Nat:=if W (hdN l) (lsN l)=BOT then g else Nat.gcd g l.length
theorem lnF_s [Mode] {W:Nat→Nat→Int}{n m:Nat}{l:List Nat}{g:Nat}:lnF W n (m+1) l g=(List.range' (hdN l+1) (n - (hdN l+1))).foldl (stL W n m l) (lnZ W l g):=rfl
theorem fold_le [Mode] {f:Nat→Nat→Nat}{B:Nat} (h:∀ g v,g≤B→f g v≤B):∀ (vs:List Nat) (g:Nat),g≤B→vs.foldl f g≤B
 | [],g,hg=>hg
 | v :: vs,g,hg=>fold_le h vs _ (h g v hg)
theorem lnZ_le [Mode] {W:Nat→Nat→Int}{l:List Nat}{g B:Nat} (hl:l.length≤B) (hg:g≤B):lnZ W l g≤B:=by
 unfold lnZ
 split
 ·exact hg
 ·rcases Nat.eq_zero_or_pos g with h|h
  ·rw[h,Nat.gcd_zero_left];exact hl
  ·exact Nat.le_trans (Nat.gcd_le_left _ h) hg
theorem lnF_le [Mode] {W:Nat→Nat→Int}{n B:Nat} (hB:n≤B):∀ (m:Nat) (l:List Nat) (g:Nat),l.length+m≤n+1→g≤B→lnF W n m l g≤B
 | 0,l,g,_,hg=>hg
 | m+1,l,g,hl,hg=>by
  rw[lnF_s]
  refine fold_le (fun g v hg=>?_) _ _ (lnZ_le (by omega) hg)
  unfold stL
  split
  ·exact hg
  ·exact lnF_le hB m _ _ (by simp;omega) hg
attribute [local irreducible] AL AD AW OpOk Le AC thenQ blockQ EndQ
set_option maxHeartbeats 4000000 in
theorem l06Lengths_ac [Mode] (T:List (List Int)) (n:Nat) (hT:Sq T n) (hn:n≤10):∀ (m:Nat) (f:Nat) (r:List Nat) (g:Nat),f<n→(∀ x∈r,x<n)→(f :: r).Nodup→r.length+1+m=n+1→g≤1000→AC Tryz.prog 126 [TL T,IL (cN (f :: r)),I (g:Nat)] H0 (I (lnF (entN T) n m (f :: r) g:Nat)) H0
 | 0,f,r,g,hf,hr,hnd,hl,hg=>by
  have:=nodup_le n (f :: r) hnd (fun x hx=>by
   rcases List.mem_cons.1 hx with rfl|hx
   ·exact hf
   ·exact hr x hx)
  simp at this
  omega
 | m+1,f,r,g,hf,hr,hnd,hl,hg=>by
  have ih:=l06Lengths_ac T n hT hn m
  have htl:(mRows 1 (TR T)).length=n:=by rw[mTR_len,hT.l]
  have hlen:(IR (cN (f :: r))).length=r.length+1:=by simp
  have hf0:(IR (cN (f :: r)))[((0:Int)).toNat]? = some [DI (f:Nat)]:=rfl
  have hlast:(IR (cN (f :: r)))[(((r.length+1:Nat):Int) - 1).toNat]? = some [DI (kE f r:Nat)]:=by
   rw[show (((r.length+1:Nat):Int) - 1).toNat=r.length by omega]
   have:=kE_take (f:=f) (r:=r) (k:=r.length) (Nat.le_refl _)
   rw[List.take_length] at this
   simp only[IR,cN,List.getElem?_map,this,Option.map_some]
  have hkn:=kE_lt hf hr
  have hls:lsN (f :: r)=kE f r:=lsN_kE
  have hsg:=fun i j (hi:i<n) (hj:j<n)=>hT.get hi hj
  have hD1:=l01Divisor_ac g (r.length+1) (by omega) (by omega)
  have hOw:=l01Own_ac (cN (f :: r)) (by simp;omega)
  rw[show (cN (f :: r)).length=r.length+1 by simp] at hOw
  have hHs:=fun y=>l01Has_ac (cN (f :: r)) y (by simp;omega)
  have hZ:lnZ (entN T) (f :: r) g=if entN T f (kE f r)=BOT then g else Nat.gcd g (r.length+1):=by unfold lnZ;rw[hls];rfl
  have hZl:lnZ (entN T) (f :: r) g≤1000:=lnZ_le (by simp;omega) hg
  have hgl:∀ i,((List.range' (f+1) (n - (f+1))).take i).foldl (stL (entN T) n m (f :: r)) (lnZ (entN T) (f :: r) g)≤1000:=fun i=>fold_le (fun g v hg=>by
   unfold stL
   split
   ·exact hg
   ·exact lnF_le (by omega) m _ _ (by simp;omega) hg) _ _ hZl
  have hst:=fun i v (h:(List.range' (f+1) (n - (f+1)))[i]? = some v)=>take_fold (f:=stL (entN T) n m (f :: r)) (b:=lnZ (entN T) (f :: r) g) h
  have hrl:(List.range' (f+1) (n - (f+1))).length=n - (f+1):=by simp
  have hsv:∀ a v,stL (entN T) n m (f :: r) a v=if entN T v (kE f r)=BOT∨v∈f :: r then a else lnF (entN T) n m (f :: r++[v]) a:=fun a v=>by unfold stL;rw[hls]
  rw[lnF_s]
  rw[show hdN (f :: r)=f from rfl]
  have hrg:∀ i,i<n - (f+1)→(List.range' (f+1) (n - (f+1)))[i]? = some (f+1+i):=fun i hi=>by
   rw[List.getElem?_range' hi];simp
  generalize stL (entN T) n m (f :: r)=sf at *
  generalize hz0:lnZ (entN T) (f :: r) g=z0 at *
  generalize List.range' (f+1) (n - (f+1))=rg at *
  obtain ⟨R1,a1,a2,a3⟩:=hsg f (kE f r) hf hkn
  have b1:=TR_get a1
  have b2:=IR_get a2
  have b3:(IR R1).length=n:=by rw[IR_len,a3]
  generalize hlst:kE f r=lst at *
  have key:∀ z:Nat,z=z0→True:=fun _ _=>trivial
  refine AC.of_body 0 Tryz.func126 rfl (fun l h=>absurd rfl h) (fun C hC=>?_)
  have hD:∀ l,¬ C.D0 l:=fun l h=>(hC l).1 h rfl
  simp only[startFr,Tryz.ntmps126,List.length_cons,List.length_nil,Nat.reduceAdd,Nat.reduceSub,List.replicate_succ,List.replicate_zero,List.cons_append,List.nil_append]
  by_cases hB:entN T f lst=BOT
  ·rw[if_pos hB] at hZ
   rw[hB] at b2
   unfold BOT at b2
   repeat' (first|((first|apply Ba|(apply Bb;(· rfl);(· rfl))|(apply Bc;(· exact nxE))|(apply Bd;(· rfl);(· rfl);(· exact nxE)));(· first|exact Ok.lenD rfl rfl hlen|exact Ok.pe))|((first|apply Ca|(apply Cb;(· exact nxE)));(· first|exact Ok.e0))|refine Sx ?_|(refine Sy (fun h=>?_) (fun h=>?_)<;>try (exfalso;omega;done))|refine Sz (fun h=>?_) (fun h=>?_))
   refine AW.loop (X:={k:Nat // k≤n - (f+1)}) (fun k=>⟨[TL T,IL (cN (f :: r)),I (((rg.take (k.1:Nat)).foldl sf z0:Nat):Int),Oo,Oo,Oo,Oo,Oo,I lst,I ((f+1+(k.1:Nat):Nat)),Oo,Oo,Oo,Oo,Oo,Oo,Oo,Oo,Oo,Oo,Oo,Oo,Oo,Oo,Oo,Oo,Oo,Oo,Oo,Oo,Oo,Oo,Oo,Oo,Oo,Oo,Oo,Oo,Oo,Oo,Oo,Oo,Oo,Oo,Oo,Oo,Oo,Oo,Oo,Oo,Oo,Oo,Oo,Oo,Oo,Oo,Oo,Oo,Oo,Oo,Oo,Oo],heapL [],900⟩) (fun k=>n - (f+1) - k.1) ⟨0,Nat.zero_le _⟩ ?_ (fun k=>?_)
   ·
    (apply Le.headZ [] rfl)
    all_goals (try dsimp only[srcs])
    (case' hfr|hob=>(repeat' (first|refine La ?_ ?_|exact Lc|refine Lo ?_|refine ⟨⟨_,rfl,?_⟩,?_⟩|refine Lx ?_)))
    all_goals (first|((first|rfl|(rw[hZ];done)|(simp[hZ];done)))|exact Ld)
   obtain ⟨i,hi⟩:=k
   simp only
   by_cases hil:i<n - (f+1)
   case neg=>
    obtain rfl:i=n - (f+1):=by omega
    rw[List.take_of_length_le (by omega)]
    repeat' (first|((first|apply Ba|(apply Bb;(· rfl);(· rfl))|(apply Bc;(· exact nxE))|(apply Bd;(· rfl);(· rfl);(· exact nxE)));(· first|exact Ok.lenD rfl rfl htl|exact Ok.pe))|((first|apply Ca|(apply Cb;(· exact nxE)));(· first|exact Ok.e0))|refine Sx ?_|(refine Sy (fun h=>?_) (fun h=>?_)<;>try (exfalso;omega;done))|refine Sz (fun h=>?_) (fun h=>?_))
    refine Ya ?_
    (apply Le.headZ (hs:=[]) [] rfl)
    all_goals (try dsimp only[srcs])
    (case' hfr=>(repeat' (first|refine La ?_ ?_|exact Lc|refine Lo ?_|refine ⟨⟨_,rfl,?_⟩,?_⟩|refine Lx ?_)))
    all_goals (first|exact Ld|exact trivial|(rfl))
   have hv:=hrg i hil
   have hs:=hst i _ hv
   rw[hsv] at hs
   have hgi:=hgl i
   generalize (rg.take i).foldl sf z0=gi at *
   have hvn:f+1+i<n:=by omega
   obtain ⟨R2,c1,c2,c3⟩:=hsg (f+1+i) lst hvn hkn
   have d1:=TR_get c1
   have d2:=IR_get c2
   have d3:(IR R2).length=n:=by rw[IR_len,c3]
   have hH1:=hHs ((f+1+i:Nat):Int)
   rw[any_cN] at hH1
   have hj:f+1+(i+1)=f+1+i+1:=by omega
   generalize hvv:f+1+i=v at *
   by_cases hB2:entN T v lst=BOT
   ·rw[if_pos (.inl hB2)] at hs
    rw[hB2] at d2
    unfold BOT at d2
    repeat' (first|((first|apply Ba|(apply Bb;(· rfl);(· rfl))|(apply Bc;(· exact nxE))|(apply Bd;(· rfl);(· rfl);(· exact nxE)));(· first|exact Ok.lenD rfl rfl htl|exact Ok.pe))|((first|apply Ca|(apply Cb;(· exact nxE)));(· first|exact Ok.e0))|refine Sx ?_|(refine Sy (fun h=>?_) (fun h=>?_)<;>try (exfalso;omega;done))|refine Sz (fun h=>?_) (fun h=>?_))
    refine ⟨⟨i+1,by omega⟩,?_,by simp only;omega⟩
    simp only[hs,hj]
    (apply Le.headZ [] rfl)
    all_goals (try dsimp only[srcs])
    (case' hfr|hob=>(repeat' (first|refine La ?_ ?_|exact Lc|refine Lo ?_|refine ⟨⟨_,rfl,?_⟩,?_⟩|refine Lx ?_)))
    all_goals (first|((first|rfl|exact congrArg (fun x:Int=>I x) (by omega)))|exact Ld)
   ·have hB2':¬ entN T v lst=-1000000000000000:=hB2
    by_cases hm:v∈f :: r
    ·rw[if_pos (.inr hm)] at hs
     rw[decide_eq_true hm] at hH1
     repeat' (first|((first|apply Ba|(apply Bb;(· rfl);(· rfl))|(apply Bc;(· exact nxE))|(apply Bd;(· rfl);(· rfl);(· exact nxE)));(· first|exact Ok.lenD rfl rfl htl|exact Kz rfl rfl (hH1) (Ad (Ad An))|exact Ok.pe))|((first|apply Ca|(apply Cb;(· exact nxE)));(· first|exact Ok.e0))|refine Sx ?_|(refine Sy (fun h=>?_) (fun h=>?_)<;>try (exfalso;omega;done))|refine Sz (fun h=>?_) (fun h=>?_))
     refine ⟨⟨i+1,by omega⟩,?_,by simp only;omega⟩
     simp only[hs,hj]
     (apply Le.headZ [] rfl)
     all_goals (try dsimp only[srcs])
     (case' hfr|hob=>(repeat' (first|refine La ?_ ?_|exact Lc|refine Lo ?_|refine ⟨⟨_,rfl,?_⟩,?_⟩|refine Lx ?_)))
     all_goals (first|((first|rfl|exact congrArg (fun x:Int=>I x) (by omega)))|exact Ld)
    ·rw[if_neg (by rintro (h1|h1);exact hB2 h1;exact hm h1)] at hs
     rw[decide_eq_false hm] at hH1
     have hRc:=ih f (r++[v]) gi hf (fun x hx=>by
      rcases List.mem_append.1 hx with hx|hx
      ·exact hr x hx
      ·simp at hx;omega) (by
      rw[← List.cons_append,List.nodup_append]
      exact ⟨hnd,by simp,fun x hx y hy e=>by simp at hy;subst hy;subst e;exact hm hx⟩) (by simp;omega) hgi
     rw[show IL (cN (f :: (r++[v]))) = .d (.sl 1 (IR (cN (f :: r))++[[DI (v:Nat)]])) by simp] at hRc
     have hap:(IR (cN (f :: r))++[[DI (v:Nat)]]).length=r.length+1+1:=by rw[List.length_append,hlen];rfl
     rw[show f :: r++[v]=f :: (r++[v]) from rfl] at hs
     generalize lnF (entN T) n m (f :: (r++[v])) gi=g2 at *
     repeat' (first|((first|apply Ba|(apply Bb;(· rfl);(· rfl))|(apply Bc;(· exact nxE))|(apply Bd;(· rfl);(· rfl);(· exact nxE)));(· first|exact Ok.lenD rfl rfl htl|exact Kz rfl rfl (hH1) (Ad (Ad An))|exact Ez rfl rfl (hRc) (Sd (Sw (hn:=by assumption) (Sd Sn)))|exact Eo rfl rfl (hOw) (Sd Sn)|exact Ok.append1 (row:=[DI (v:Nat)]) rfl rfl (by decide) rfl rfl hlen rfl rfl rfl (by rfl) (by omega) (by omega)|exact Ok.pe))|((first|apply Ca|(apply Cb;(· exact nxE)));(· first|exact Eo rfl rfl (hOw) (Sd Sn)|exact Ok.append1 (row:=[DI (v:Nat)]) rfl rfl (by decide) rfl rfl hlen rfl rfl rfl (by rfl) (by omega) (by omega)|exact Ok.e0))|refine Sx ?_|(refine Sy (fun h=>?_) (fun h=>?_)<;>try (exfalso;omega;done))|refine Sz (fun h=>?_) (fun h=>?_))
     refine ⟨⟨i+1,by omega⟩,?_,by simp only;omega⟩
     simp only[hs,hj]
     (apply Le.headZ [] rfl)
     all_goals (try dsimp only[srcs])
     (case' hfr|hob=>(repeat' (first|refine La ?_ ?_|exact Lc|refine Lo ?_|refine ⟨⟨_,rfl,?_⟩,?_⟩|refine Lx ?_)))
     all_goals (first|((first|rfl|exact congrArg (fun x:Int=>I x) (by omega)))|exact Ld)
  ·rw[if_neg hB] at hZ
   have hB':¬ entN T f lst=-1000000000000000:=hB
   rw[← hZ] at hD1
   repeat' (first|((first|apply Ba|(apply Bb;(· rfl);(· rfl))|(apply Bc;(· exact nxE))|(apply Bd;(· rfl);(· rfl);(· exact nxE)));(· first|exact Ok.lenD rfl rfl hlen|exact Kz rfl rfl (hD1) (Ad (Ad An))|exact Ok.pe))|((first|apply Ca|(apply Cb;(· exact nxE)));(· first|exact Ok.e0))|refine Sx ?_|(refine Sy (fun h=>?_) (fun h=>?_)<;>try (exfalso;omega;done))|refine Sz (fun h=>?_) (fun h=>?_))
   refine AW.loop (X:={k:Nat // k≤n - (f+1)}) (fun k=>⟨[TL T,IL (cN (f :: r)),I (((rg.take (k.1:Nat)).foldl sf z0:Nat):Int),Oo,Oo,Oo,Oo,Oo,I lst,I ((f+1+(k.1:Nat):Nat)),Oo,Oo,Oo,Oo,Oo,Oo,Oo,Oo,Oo,Oo,Oo,Oo,Oo,Oo,Oo,Oo,Oo,Oo,Oo,Oo,Oo,Oo,Oo,Oo,Oo,Oo,Oo,Oo,Oo,Oo,Oo,Oo,Oo,Oo,Oo,Oo,Oo,Oo,Oo,Oo,Oo,Oo,Oo,Oo,Oo,Oo,Oo,Oo,Oo,Oo,Oo,Oo],heapL [],900⟩) (fun k=>n - (f+1) - k.1) ⟨0,Nat.zero_le _⟩ ?_ (fun k=>?_)
   ·
    (apply Le.headZ [] rfl)
    all_goals (try dsimp only[srcs])
    (case' hfr|hob=>(repeat' (first|refine La ?_ ?_|exact Lc|refine Lo ?_|refine ⟨⟨_,rfl,?_⟩,?_⟩|refine Lx ?_)))
    all_goals (first|(rfl)|exact Ld)
   obtain ⟨i,hi⟩:=k
   simp only
   by_cases hil:i<n - (f+1)
   case neg=>
    obtain rfl:i=n - (f+1):=by omega
    rw[List.take_of_length_le (by omega)]
    repeat' (first|((first|apply Ba|(apply Bb;(· rfl);(· rfl))|(apply Bc;(· exact nxE))|(apply Bd;(· rfl);(· rfl);(· exact nxE)));(· first|exact Ok.lenD rfl rfl htl|exact Ok.pe))|((first|apply Ca|(apply Cb;(· exact nxE)));(· first|exact Ok.e0))|refine Sx ?_|(refine Sy (fun h=>?_) (fun h=>?_)<;>try (exfalso;omega;done))|refine Sz (fun h=>?_) (fun h=>?_))
    refine Ya ?_
    (apply Le.headZ (hs:=[]) [] rfl)
    all_goals (try dsimp only[srcs])
    (case' hfr=>(repeat' (first|refine La ?_ ?_|exact Lc|refine Lo ?_|refine ⟨⟨_,rfl,?_⟩,?_⟩|refine Lx ?_)))
    all_goals (first|exact Ld|exact trivial|(rfl))
   have hv:=hrg i hil
   have hs:=hst i _ hv
   rw[hsv] at hs
   have hgi:=hgl i
   generalize (rg.take i).foldl sf z0=gi at *
   have hvn:f+1+i<n:=by omega
   obtain ⟨R2,c1,c2,c3⟩:=hsg (f+1+i) lst hvn hkn
   have d1:=TR_get c1
   have d2:=IR_get c2
   have d3:(IR R2).length=n:=by rw[IR_len,c3]
   have hH1:=hHs ((f+1+i:Nat):Int)
   rw[any_cN] at hH1
   have hj:f+1+(i+1)=f+1+i+1:=by omega
   generalize hvv:f+1+i=v at *
   by_cases hB2:entN T v lst=BOT
   ·rw[if_pos (.inl hB2)] at hs
    rw[hB2] at d2
    unfold BOT at d2
    repeat' (first|((first|apply Ba|(apply Bb;(· rfl);(· rfl))|(apply Bc;(· exact nxE))|(apply Bd;(· rfl);(· rfl);(· exact nxE)));(· first|exact Ok.lenD rfl rfl htl|exact Ok.pe))|((first|apply Ca|(apply Cb;(· exact nxE)));(· first|exact Ok.e0))|refine Sx ?_|(refine Sy (fun h=>?_) (fun h=>?_)<;>try (exfalso;omega;done))|refine Sz (fun h=>?_) (fun h=>?_))
    refine ⟨⟨i+1,by omega⟩,?_,by simp only;omega⟩
    simp only[hs,hj]
    (apply Le.headZ [] rfl)
    all_goals (try dsimp only[srcs])
    (case' hfr|hob=>(repeat' (first|refine La ?_ ?_|exact Lc|refine Lo ?_|refine ⟨⟨_,rfl,?_⟩,?_⟩|refine Lx ?_)))
    all_goals (first|((first|rfl|exact congrArg (fun x:Int=>I x) (by omega)))|exact Ld)
   ·have hB2':¬ entN T v lst=-1000000000000000:=hB2
    by_cases hm:v∈f :: r
    ·rw[if_pos (.inr hm)] at hs
     rw[decide_eq_true hm] at hH1
     repeat' (first|((first|apply Ba|(apply Bb;(· rfl);(· rfl))|(apply Bc;(· exact nxE))|(apply Bd;(· rfl);(· rfl);(· exact nxE)));(· first|exact Ok.lenD rfl rfl htl|exact Kz rfl rfl (hH1) (Ad (Ad An))|exact Ok.pe))|((first|apply Ca|(apply Cb;(· exact nxE)));(· first|exact Ok.e0))|refine Sx ?_|(refine Sy (fun h=>?_) (fun h=>?_)<;>try (exfalso;omega;done))|refine Sz (fun h=>?_) (fun h=>?_))
     refine ⟨⟨i+1,by omega⟩,?_,by simp only;omega⟩
     simp only[hs,hj]
     (apply Le.headZ [] rfl)
     all_goals (try dsimp only[srcs])
     (case' hfr|hob=>(repeat' (first|refine La ?_ ?_|exact Lc|refine Lo ?_|refine ⟨⟨_,rfl,?_⟩,?_⟩|refine Lx ?_)))
     all_goals (first|((first|rfl|exact congrArg (fun x:Int=>I x) (by omega)))|exact Ld)
    ·rw[if_neg (by rintro (h1|h1);exact hB2 h1;exact hm h1)] at hs
     rw[decide_eq_false hm] at hH1
     have hRc:=ih f (r++[v]) gi hf (fun x hx=>by
      rcases List.mem_append.1 hx with hx|hx
      ·exact hr x hx
      ·simp at hx;omega) (by
      rw[← List.cons_append,List.nodup_append]
      exact ⟨hnd,by simp,fun x hx y hy e=>by simp at hy;subst hy;subst e;exact hm hx⟩) (by simp;omega) hgi
     rw[show IL (cN (f :: (r++[v]))) = .d (.sl 1 (IR (cN (f :: r))++[[DI (v:Nat)]])) by simp] at hRc
     have hap:(IR (cN (f :: r))++[[DI (v:Nat)]]).length=r.length+1+1:=by rw[List.length_append,hlen];rfl
     rw[show f :: r++[v]=f :: (r++[v]) from rfl] at hs
     generalize lnF (entN T) n m (f :: (r++[v])) gi=g2 at *
     repeat' (first|((first|apply Ba|(apply Bb;(· rfl);(· rfl))|(apply Bc;(· exact nxE))|(apply Bd;(· rfl);(· rfl);(· exact nxE)));(· first|exact Ok.lenD rfl rfl htl|exact Kz rfl rfl (hH1) (Ad (Ad An))|exact Ez rfl rfl (hRc) (Sd (Sw (hn:=by assumption) (Sd Sn)))|exact Eo rfl rfl (hOw) (Sd Sn)|exact Ok.append1 (row:=[DI (v:Nat)]) rfl rfl (by decide) rfl rfl hlen rfl rfl rfl (by rfl) (by omega) (by omega)|exact Ok.pe))|((first|apply Ca|(apply Cb;(· exact nxE)));(· first|exact Eo rfl rfl (hOw) (Sd Sn)|exact Ok.append1 (row:=[DI (v:Nat)]) rfl rfl (by decide) rfl rfl hlen rfl rfl rfl (by rfl) (by omega) (by omega)|exact Ok.e0))|refine Sx ?_|(refine Sy (fun h=>?_) (fun h=>?_)<;>try (exfalso;omega;done))|refine Sz (fun h=>?_) (fun h=>?_))
     refine ⟨⟨i+1,by omega⟩,?_,by simp only;omega⟩
     simp only[hs,hj]
     (apply Le.headZ [] rfl)
     all_goals (try dsimp only[srcs])
     (case' hfr|hob=>(repeat' (first|refine La ?_ ?_|exact Lc|refine Lo ?_|refine ⟨⟨_,rfl,?_⟩,?_⟩|refine Lx ?_)))
     all_goals (first|((first|rfl|exact congrArg (fun x:Int=>I x) (by omega)))|exact Ld)
set_option maxHeartbeats 1000000 in
theorem l06Period_ac [Mode] (t:List (List Int)) (n:Nat) (hM:MatOk t n) (hc:hasK (entN t) n) (c:List Nat) (hlt:∀ x∈c,x<n) (hcl:c.length≤1000):AC Tryz.prog 71 [TL t,IL (cN c)] H0 (I (pdF (entN (ccT t n)) n c:Nat)) H0:=by
 have hMx:=l06Matrix_ac t n hM hc
 have hn:=hM.le
 have hSq:Sq (ccT t n) n:=⟨tabF_len,tabF_rc.r⟩
 generalize ccT t n=cm at *
 have hL:=fun f g (hf:f<n) hg=>l06Lengths_ac cm n hSq hn n f [] g hf (by simp) (by simp) (by simp;omega) hg
 have hlen:(IR (cN c)).length=c.length:=by simp
 have hst:=fun i v (h:c[i]? = some v)=>take_fold (f:=fun g f=>lnF (entN cm) n n [f] g) (b:=0) h
 have hbd:∀ i,(c.take i).foldl (fun g f=>lnF (entN cm) n n [f] g) 0≤1000:=fun i=>fold_le (fun g v hg=>lnF_le (by omega) n [v] g (by simp;omega) hg) _ _ (by decide)
 unfold pdF
 generalize hsf:(fun g f=>lnF (entN cm) n n [f] g)=sf at *
 refine AC.of_body 0 Tryz.func71 rfl (fun l h=>absurd rfl h) (fun C hC=>?_)
 have hD:∀ l,¬ C.D0 l:=fun l h=>(hC l).1 h rfl
 simp only[startFr,Tryz.ntmps71,List.length_cons,List.length_nil,Nat.reduceAdd,Nat.reduceSub,List.replicate_succ,List.replicate_zero,List.cons_append,List.nil_append]
 repeat' (first|((first|apply Ba|(apply Bb;(· rfl);(· rfl))|(apply Bc;(· exact nxE))|(apply Bd;(· rfl);(· rfl);(· exact nxE)));(· first|exact Kz rfl rfl (hMx) (Ad An)|exact Ok.pe))|((first|apply Ca|(apply Cb;(· exact nxE)));(· first|exact Ok.e0))|refine Sx ?_|(refine Sy (fun h=>?_) (fun h=>?_)<;>try (exfalso;omega;done))|refine Sz (fun h=>?_) (fun h=>?_))
 refine AW.loop (X:={k:Nat // k≤c.length}) (fun k=>⟨[Oo,IL (cN c),Oo,Oo,Oo,TL cm,I (((c.take (k.1:Nat)).foldl sf 0:Nat):Int),I (k.1:Nat),Oo,Oo,Oo,Oo,Oo,Oo,Oo,Oo,Oo,Oo,Oo,Oo,Oo,Oo,Oo,Oo,Oo],heapL [],900⟩) (fun k=>c.length - k.1) ⟨0,Nat.zero_le _⟩ ?_ (fun k=>?_)
 ·
  (apply Le.headZ [] rfl)
  all_goals (try dsimp only[srcs])
  (case' hfr|hob=>(repeat' (first|refine La ?_ ?_|exact Lc|refine Lo ?_|refine ⟨⟨_,rfl,?_⟩,?_⟩|refine Lx ?_)))
  all_goals (first|(rfl)|exact Ld)
 obtain ⟨i,hi⟩:=k
 simp only
 by_cases hil:i<c.length
 case neg=>
  obtain rfl:i=c.length:=by omega
  rw[List.take_length]
  repeat' (first|((first|apply Ba|(apply Bb;(· rfl);(· rfl))|(apply Bc;(· exact nxE))|(apply Bd;(· rfl);(· rfl);(· exact nxE)));(· first|exact Ok.lenD rfl rfl hlen|exact Ok.pe))|((first|apply Ca|(apply Cb;(· exact nxE)));(· first|exact Ok.e0))|refine Sx ?_|(refine Sy (fun h=>?_) (fun h=>?_)<;>try (exfalso;omega;done))|refine Sz (fun h=>?_) (fun h=>?_))
  refine Ya ?_
  (apply Le.headZ (hs:=[]) [] rfl)
  all_goals (try dsimp only[srcs])
  (case' hfr=>(repeat' (first|refine La ?_ ?_|exact Lc|refine Lo ?_|refine ⟨⟨_,rfl,?_⟩,?_⟩|refine Lx ?_)))
  all_goals (first|exact Ld|exact trivial|(rfl))
 obtain ⟨v,hv⟩:∃ v,c[i]? = some v:=⟨c[i],List.getElem?_eq_getElem hil⟩
 have hs:=hst i v hv
 have hrow:(IR (cN c))[((i:Nat):Int).toNat]? = some [DI (v:Nat)]:=by simp[hv]
 have hgi:=hbd i
 have hRc:=hL v ((c.take i).foldl sf 0) (hlt v (List.mem_of_getElem? hv)) hgi
 generalize (c.take i).foldl sf 0=gi at *
 generalize lnF (entN cm) n n [v] gi=g2 at *
 rw[show IL (cN [v]) = .d (.sl 1 [[DI (v:Nat)]]) by simp] at hRc
 repeat' (first|((first|apply Ba|(apply Bb;(· rfl);(· rfl))|(apply Bc;(· exact nxE))|(apply Bd;(· rfl);(· rfl);(· exact nxE)));(· first|exact Ok.lenD rfl rfl hlen|exact Ez rfl rfl (hRc) (Sd (Sw (Sd Sn)))|exact Ok.bs1 rfl rfl rfl rfl rfl (by decide)|exact Ok.pe))|((first|apply Ca|(apply Cb;(· exact nxE)));(· first|exact Ok.bs1 rfl rfl rfl rfl rfl (by decide)|exact Ok.e0))|refine Sx ?_|(refine Sy (fun h=>?_) (fun h=>?_)<;>try (exfalso;omega;done))|refine Sz (fun h=>?_) (fun h=>?_))
 refine ⟨⟨i+1,by omega⟩,?_,by simp only;omega⟩
 simp only[hs]
 (apply Le.headZ [] rfl)
 all_goals (try dsimp only[srcs])
 (case' hfr|hob=>(repeat' (first|refine La ?_ ?_|exact Lc|refine Lo ?_|refine ⟨⟨_,rfl,?_⟩,?_⟩|refine Lx ?_)))
 all_goals (first|(rfl)|exact Ld)
theorem sPeriod_ac [Mode] (t:List (List Int)) (n:Nat) (hM:MatOk t n) (hc:hasK (entN t) n) {v:Nat}:AC Tryz.prog 71 [TL t,IL (cN (cmp (entN (ccT t n)) n v))] H0 (I (pdV (entN (ccT t n)) n v:Nat)) H0:=
 l06Period_ac t n hM hc _ cmp_lt (by have:=cmp_len (W:=entN (ccT t n)) (n:=n) (v:=v);have:=hM.le;omega)
set_option maxHeartbeats 2000000 in
theorem sPeriodAt_ac [Mode] (t:List (List Int)) (e:Int) (ht:t.length≤100000000) (hr:∀ r∈t,r.length≤100000000):AC Tryz.prog 23 [TL t,I e] H0 (.tup [I (paV t e:Nat),I (paC t e)]) H0:=by
 have hCr:=l06Code_ac t ht hr
 have hNd:=l03Node_ac t e ht
 by_cases h0:bmC t=0
 case neg=>
  have e1:paC t e=bmC t:=by unfold paC;rw[if_neg h0]
  have e2:paV t e=0:=by unfold paV;rw[e1,if_neg h0]
  rw[e1,e2]
  generalize bmC t=b at *
  refine AC.of_body 0 Tryz.func23 rfl (fun l h=>absurd rfl h) (fun C hC=>?_)
  have hD:∀ l,¬ C.D0 l:=fun l h=>(hC l).1 h rfl
  simp only[startFr,Tryz.ntmps23,List.length_cons,List.length_nil,Nat.reduceAdd,Nat.reduceSub,List.replicate_succ,List.replicate_zero,List.cons_append,List.nil_append]
  repeat' (first|((first|apply Ba|(apply Bb;(· rfl);(· rfl))|(apply Bc;(· exact nxE))|(apply Bd;(· rfl);(· rfl);(· exact nxE)));(· first|exact Kz rfl rfl (hCr) (Ad An)|exact Ok.pe))|((first|apply Ca|(apply Cb;(· exact nxE)));(· first|exact Ok.e0))|refine Sx ?_|(refine Sy (fun h=>?_) (fun h=>?_)<;>try (exfalso;omega;done))|refine Sz (fun h=>?_) (fun h=>?_))
  refine Yb ?_
  (apply Le.headZ (hs:=[]) [] rfl)
  all_goals (try dsimp only[srcs])
  (case' hfr=>(repeat' (first|refine La ?_ ?_|exact Lc|refine Lo ?_|refine ⟨⟨_,rfl,?_⟩,?_⟩|refine Lx ?_)))
  all_goals (first|exact Ld|exact trivial|(rfl))
 obtain ⟨hM,hc,e3,hSq,hb,hne⟩:=cr_ok h0
 rw[h0] at hCr
 have hn:=hM.le
 cases hnb:nodB t e with
 | false=>
  have e1:paC t e=2:=by unfold paC;rw[if_pos h0,hnb];rfl
  have e2:paV t e=0:=by unfold paV;rw[e1];rfl
  rw[e1,e2]
  rw[hnb] at hNd
  refine AC.of_body 0 Tryz.func23 rfl (fun l h=>absurd rfl h) (fun C hC=>?_)
  have hD:∀ l,¬ C.D0 l:=fun l h=>(hC l).1 h rfl
  simp only[startFr,Tryz.ntmps23,List.length_cons,List.length_nil,Nat.reduceAdd,Nat.reduceSub,List.replicate_succ,List.replicate_zero,List.cons_append,List.nil_append]
  repeat' (first|((first|apply Ba|(apply Bb;(· rfl);(· rfl))|(apply Bc;(· exact nxE))|(apply Bd;(· rfl);(· rfl);(· exact nxE)));(· first|exact Kz rfl rfl (hCr) (Ad An)|exact Kz rfl rfl (hNd) (Ad (Ad An))|exact Ok.pe))|((first|apply Ca|(apply Cb;(· exact nxE)));(· first|exact Ok.e0))|refine Sx ?_|(refine Sy (fun h=>?_) (fun h=>?_)<;>try (exfalso;omega;done))|refine Sz (fun h=>?_) (fun h=>?_))
  refine Yb ?_
  (apply Le.headZ (hs:=[]) [] rfl)
  all_goals (try dsimp only[srcs])
  (case' hfr=>(repeat' (first|refine La ?_ ?_|exact Lc|refine Lo ?_|refine ⟨⟨_,rfl,?_⟩,?_⟩|refine Lx ?_)))
  all_goals (first|exact Ld|exact trivial|(rfl))
 | true=>
  rw[hnb] at hNd
  have hCo:=l06Components_ac t t.length hM hc
  have hPd:=fun v=>sPeriod_ac t t.length hM hc (v:=v)
  have hCn:=fun v=>l01Has_ac (cN (cmp (entN (ccT t t.length)) t.length v)) e (by have:=cmp_len (W:=entN (ccT t t.length)) (n:=t.length) (v:=v);simp only[cN,List.length_map];omega)
  have hRl:=kpR_len (W:=entN (ccT t t.length)) (n:=t.length)
  have hRg:=fun i v h=>kpR_get (W:=entN (ccT t t.length)) (n:=t.length) (i:=i) (v:=v) h
  have hcs:=find_cs (fun v=>(cN (cmp (entN (ccT t t.length)) t.length v)).any fun x=>decide (x=e)) (kpL (entN (ccT t t.length)) t.length)
  have e1:paC t e=(if (paF (entN (ccT t t.length)) t.length e).isSome=true then 0 else 5):=by unfold paC;rw[if_pos h0,hnb];rfl
  have hkl:=kpL_le (W:=entN (ccT t t.length)) (n:=t.length)
  unfold paV
  rw[e1]
  unfold paF
  clear e1 e3
  generalize pdV (entN (ccT t t.length)) t.length=pf at *
  generalize cmp (entN (ccT t t.length)) t.length=cf at *
  generalize kpR (entN (ccT t t.length)) t.length=R at *
  generalize kpL (entN (ccT t t.length)) t.length=L at *
  rcases hcs with ⟨f1,f2⟩|⟨j,v,f1,f2,f3,f4⟩
  ·rw[f1]
   simp only[Option.isSome_none,Bool.false_eq_true,if_false]
   refine AC.of_body 0 Tryz.func23 rfl (fun l h=>absurd rfl h) (fun C hC=>?_)
   have hD:∀ l,¬ C.D0 l:=fun l h=>(hC l).1 h rfl
   simp only[startFr,Tryz.ntmps23,List.length_cons,List.length_nil,Nat.reduceAdd,Nat.reduceSub,List.replicate_succ,List.replicate_zero,List.cons_append,List.nil_append]
   repeat' (first|((first|apply Ba|(apply Bb;(· rfl);(· rfl))|(apply Bc;(· exact nxE))|(apply Bd;(· rfl);(· rfl);(· exact nxE)));(· first|exact Kz rfl rfl (hCr) (Ad An)|exact Kz rfl rfl (hNd) (Ad (Ad An))|exact Kz rfl rfl (hCo) (Ad An)|exact Ok.pe))|((first|apply Ca|(apply Cb;(· exact nxE)));(· first|exact Ok.e0))|refine Sx ?_|(refine Sy (fun h=>?_) (fun h=>?_)<;>try (exfalso;omega;done))|refine Sz (fun h=>?_) (fun h=>?_))
   refine AW.loop (X:={k:Nat // k≤L.length}) (fun k=>⟨[TL t,I e,Oo,Oo,Oo,Oo,Oo,.d (.sl 1 R),I (k.1:Nat),Oo,Oo,Oo,Oo,Oo,Oo,Oo,Oo,Oo,Oo,Oo,Oo,Oo,Oo,Oo,Oo,Oo,Oo,Oo,Oo,Oo,Oo,Oo,Oo,Oo,Oo,Oo,Oo,Oo,Oo,Oo],heapL [],900⟩) (fun k=>L.length - k.1) ⟨0,Nat.zero_le _⟩ ?_ (fun k=>?_)
   ·
    (apply Le.headZ [] rfl)
    all_goals (try dsimp only[srcs])
    (case' hfr|hob=>(repeat' (first|refine La ?_ ?_|exact Lc|refine Lo ?_|refine ⟨⟨_,rfl,?_⟩,?_⟩|refine Lx ?_)))
    all_goals (first|(rfl)|exact Ld)
   obtain ⟨i,hi⟩:=k
   simp only
   by_cases hlt:i<L.length
   ·obtain ⟨w,hw⟩:∃ w,L[i]? = some w:=⟨L[i],List.getElem?_eq_getElem hlt⟩
    have hrow:=hRg i w hw
    have hC1:=hCn w
    rw[f2 i w hw] at hC1
    repeat' (first|((first|apply Ba|(apply Bb;(· rfl);(· rfl))|(apply Bc;(· exact nxE))|(apply Bd;(· rfl);(· rfl);(· exact nxE)));(· first|exact Ok.lenD rfl rfl hRl|exact Kz rfl rfl (hC1) (Ad (Ad An))|exact Ok.pe))|((first|apply Ca|(apply Cb;(· exact nxE)));(· first|exact Ok.e0))|refine Sx ?_|(refine Sy (fun h=>?_) (fun h=>?_)<;>try (exfalso;omega;done))|refine Sz (fun h=>?_) (fun h=>?_))
    refine ⟨⟨i+1,by omega⟩,?_,by simp only;omega⟩
    (apply Le.headZ [] rfl)
    all_goals (try dsimp only[srcs])
    (case' hfr|hob=>(repeat' (first|refine La ?_ ?_|exact Lc|refine Lo ?_|refine ⟨⟨_,rfl,?_⟩,?_⟩|refine Lx ?_)))
    all_goals (first|(rfl)|exact Ld)
   ·
    repeat' (first|((first|apply Ba|(apply Bb;(· rfl);(· rfl))|(apply Bc;(· exact nxE))|(apply Bd;(· rfl);(· rfl);(· exact nxE)));(· first|exact Ok.lenD rfl rfl hRl|exact Ok.pe))|((first|apply Ca|(apply Cb;(· exact nxE)));(· first|exact Ok.e0))|refine Sx ?_|(refine Sy (fun h=>?_) (fun h=>?_)<;>try (exfalso;omega;done))|refine Sz (fun h=>?_) (fun h=>?_))
    refine Yb ?_
    (apply Le.headZ (hs:=[]) [] rfl)
    all_goals (try dsimp only[srcs])
    (case' hfr=>(repeat' (first|refine La ?_ ?_|exact Lc|refine Lo ?_|refine ⟨⟨_,rfl,?_⟩,?_⟩|refine Lx ?_)))
    all_goals (first|exact Ld|exact trivial|(rfl))
  ·rw[f3]
   simp only[Option.isSome_some,if_true,Option.map_some,Option.getD_some]
   have hjl:=(List.getElem?_eq_some_iff.1 f1).1
   refine AC.of_body 0 Tryz.func23 rfl (fun l h=>absurd rfl h) (fun C hC=>?_)
   have hD:∀ l,¬ C.D0 l:=fun l h=>(hC l).1 h rfl
   simp only[startFr,Tryz.ntmps23,List.length_cons,List.length_nil,Nat.reduceAdd,Nat.reduceSub,List.replicate_succ,List.replicate_zero,List.cons_append,List.nil_append]
   repeat' (first|((first|apply Ba|(apply Bb;(· rfl);(· rfl))|(apply Bc;(· exact nxE))|(apply Bd;(· rfl);(· rfl);(· exact nxE)));(· first|exact Kz rfl rfl (hCr) (Ad An)|exact Kz rfl rfl (hNd) (Ad (Ad An))|exact Kz rfl rfl (hCo) (Ad An)|exact Ok.pe))|((first|apply Ca|(apply Cb;(· exact nxE)));(· first|exact Ok.e0))|refine Sx ?_|(refine Sy (fun h=>?_) (fun h=>?_)<;>try (exfalso;omega;done))|refine Sz (fun h=>?_) (fun h=>?_))
   refine AW.loop (X:={k:Nat // k≤j}) (fun k=>⟨[TL t,I e,Oo,Oo,Oo,Oo,Oo,.d (.sl 1 R),I (k.1:Nat),Oo,Oo,Oo,Oo,Oo,Oo,Oo,Oo,Oo,Oo,Oo,Oo,Oo,Oo,Oo,Oo,Oo,Oo,Oo,Oo,Oo,Oo,Oo,Oo,Oo,Oo,Oo,Oo,Oo,Oo,Oo],heapL [],900⟩) (fun k=>j - k.1) ⟨0,Nat.zero_le _⟩ ?_ (fun k=>?_)
   ·
    (apply Le.headZ [] rfl)
    all_goals (try dsimp only[srcs])
    (case' hfr|hob=>(repeat' (first|refine La ?_ ?_|exact Lc|refine Lo ?_|refine ⟨⟨_,rfl,?_⟩,?_⟩|refine Lx ?_)))
    all_goals (first|(rfl)|exact Ld)
   obtain ⟨i,hi⟩:=k
   simp only
   by_cases hlt:i<j
   ·obtain ⟨w,hw⟩:∃ w,L[i]? = some w:=⟨L[i],List.getElem?_eq_getElem (by omega)⟩
    have hrow:=hRg i w hw
    have hC1:=hCn w
    rw[f4 i w hlt hw] at hC1
    repeat' (first|((first|apply Ba|(apply Bb;(· rfl);(· rfl))|(apply Bc;(· exact nxE))|(apply Bd;(· rfl);(· rfl);(· exact nxE)));(· first|exact Ok.lenD rfl rfl hRl|exact Kz rfl rfl (hC1) (Ad (Ad An))|exact Ok.pe))|((first|apply Ca|(apply Cb;(· exact nxE)));(· first|exact Ok.e0))|refine Sx ?_|(refine Sy (fun h=>?_) (fun h=>?_)<;>try (exfalso;omega;done))|refine Sz (fun h=>?_) (fun h=>?_))
    refine ⟨⟨i+1,by omega⟩,?_,by simp only;omega⟩
    (apply Le.headZ [] rfl)
    all_goals (try dsimp only[srcs])
    (case' hfr|hob=>(repeat' (first|refine La ?_ ?_|exact Lc|refine Lo ?_|refine ⟨⟨_,rfl,?_⟩,?_⟩|refine Lx ?_)))
    all_goals (first|(rfl)|exact Ld)
   ·obtain rfl:i=j:=by omega
    have hrow:=hRg i v f1
    have hC1:=hCn v
    rw[f2] at hC1
    have hP1:=hPd v
    repeat' (first|((first|apply Ba|(apply Bb;(· rfl);(· rfl))|(apply Bc;(· exact nxE))|(apply Bd;(· rfl);(· rfl);(· exact nxE)));(· first|exact Ok.lenD rfl rfl hRl|exact Kz rfl rfl (hC1) (Ad (Ad An))|exact Kz rfl rfl (hP1) (Ad (Ad An))|exact Ok.pe))|((first|apply Ca|(apply Cb;(· exact nxE)));(· first|exact Ok.e0))|refine Sx ?_|(refine Sy (fun h=>?_) (fun h=>?_)<;>try (exfalso;omega;done))|refine Sz (fun h=>?_) (fun h=>?_))
    refine Yb ?_
    (apply Le.headZ (hs:=[]) [] rfl)
    all_goals (try dsimp only[srcs])
    (case' hfr=>(repeat' (first|refine La ?_ ?_|exact Lc|refine Lo ?_|refine ⟨⟨_,rfl,?_⟩,?_⟩|refine Lx ?_)))
    all_goals (first|exact Ld|exact trivial|(rfl))
set_option maxHeartbeats 2000000 in
theorem l06Cyclicity_ac [Mode] (t:List (List Int)) (h0:bmC t=0):AC Tryz.prog 73 [TL t] H0 (I (cyC t:Nat)) H0:=by
 obtain ⟨hM,hc,e3,hSq,hb,hne⟩:=cr_ok h0
 have e2:cyC t=cyF (entN (ccT t t.length)) t.length (kpL (entN (ccT t t.length)) t.length):=by unfold cyC;rw[if_pos h0]
 rw[e2]
 have hn:=hM.le
 have hCo:=l06Components_ac t t.length hM hc
 have hPd:=fun v=>sPeriod_ac t t.length hM hc (v:=v)
 have hRl:=kpR_len (W:=entN (ccT t t.length)) (n:=t.length)
 have hRg:=fun i v h=>kpR_get (W:=entN (ccT t t.length)) (n:=t.length) (i:=i) (v:=v) h
 have hkl:=kpL_le (W:=entN (ccT t t.length)) (n:=t.length)
 have hbd:=cy_bd ⟨hM.pos,hn⟩ hb
 have hpp:=fun v hv=>pd_pos (W:=entN (ccT t t.length)) (n:=t.length) hb (v:=v) hv
 have hst:=fun k v (h:(kpL (entN (ccT t t.length)) t.length)[k]? = some v)=>take_fold (f:=cyS1 (entN (ccT t t.length)) t.length) (b:=1) h
 have hs1:∀ c v,cyS1 (entN (ccT t t.length)) t.length c v=c / Nat.gcd c (pdV (entN (ccT t t.length)) t.length v)*pdV (entN (ccT t t.length)) t.length v:=fun _ _=>rfl
 unfold cyF
 clear e2 e3
 generalize cyS1 (entN (ccT t t.length)) t.length=sf at *
 generalize pdV (entN (ccT t t.length)) t.length=pf at *
 generalize cmp (entN (ccT t t.length)) t.length=cf at *
 generalize kpR (entN (ccT t t.length)) t.length=R at *
 generalize kpL (entN (ccT t t.length)) t.length=L at *
 refine AC.of_body 0 Tryz.func73 rfl (fun l h=>absurd rfl h) (fun C hC=>?_)
 have hD:∀ l,¬ C.D0 l:=fun l h=>(hC l).1 h rfl
 simp only[startFr,Tryz.ntmps73,List.length_cons,List.length_nil,Nat.reduceAdd,Nat.reduceSub,List.replicate_succ,List.replicate_zero,List.cons_append,List.nil_append]
 repeat' (first|((first|apply Ba|(apply Bb;(· rfl);(· rfl))|(apply Bc;(· exact nxE))|(apply Bd;(· rfl);(· rfl);(· exact nxE)));(· first|exact Kz rfl rfl (hCo) (Ad An)|exact Ok.pe))|((first|apply Ca|(apply Cb;(· exact nxE)));(· first|exact Ok.e0))|refine Sx ?_|(refine Sy (fun h=>?_) (fun h=>?_)<;>try (exfalso;omega;done))|refine Sz (fun h=>?_) (fun h=>?_))
 refine AW.loop (X:={k:Nat // k≤L.length}) (fun k=>⟨[TL t,Oo,Oo,.d (.sl 1 R),I (((L.take (k.1:Nat)).foldl sf 1:Nat):Int),I (k.1:Nat),Oo,Oo,Oo,Oo,Oo,Oo,Oo,Oo,Oo,Oo,Oo,Oo,Oo,Oo,Oo,Oo,Oo,Oo,Oo,Oo,Oo,Oo,Oo],heapL [],900⟩) (fun k=>L.length - k.1) ⟨0,Nat.zero_le _⟩ ?_ (fun k=>?_)
 ·
  (apply Le.headZ [] rfl)
  all_goals (try dsimp only[srcs])
  (case' hfr|hob=>(repeat' (first|refine La ?_ ?_|exact Lc|refine Lo ?_|refine ⟨⟨_,rfl,?_⟩,?_⟩|refine Lx ?_)))
  all_goals (first|(rfl)|exact Ld)
 obtain ⟨i,hi⟩:=k
 simp only
 by_cases hlt:i<L.length
 ·obtain ⟨w,hw⟩:∃ w,L[i]? = some w:=⟨L[i],List.getElem?_eq_getElem hlt⟩
  have hrow:=hRg i w hw
  have hP1:=hPd w
  have hp1:=hpp w (List.mem_of_getElem? hw)
  have hs:=hst i w hw
  rw[hs1] at hs
  have hb1:=hbd i (by omega)
  have hb2:=hbd (i+1) (by omega)
  rw[hs] at hb2
  generalize (L.take i).foldl sf 1=c at *
  generalize pf w=p at *
  have hDv:=l01Divisor_ac c p (by omega) (by omega)
  have hg:0<Nat.gcd c p:=Nat.gcd_pos_of_pos_left _ (by omega)
  have hdl:c / Nat.gcd c p≤c:=Nat.div_le_self _ _
  generalize Nat.gcd c p=g at *
  generalize hdg:c / g=d at *
  have hcast:((d*p:Nat):Int)=(d:Int)*(p:Int):=Int.natCast_mul _ _
  have hb3:0≤(d:Int)*(p:Int)∧(d:Int)*(p:Int)≤10000000000:=by omega
  repeat' (first|((first|apply Ba|(apply Bb;(· rfl);(· rfl))|(apply Bc;(· exact nxE))|(apply Bd;(· rfl);(· rfl);(· exact nxE)));(· first|exact Ok.lenD rfl rfl hRl|exact Kz rfl rfl (hP1) (Ad (Ad An))|exact Kz rfl rfl (hDv) (Ad (Ad An))|exact Ok.quoD hdg rfl rfl rfl hg (by omega)|exact Ok.pe))|((first|apply Ca|(apply Cb;(· exact nxE)));(· first|exact Ok.e0))|refine Sx ?_|(refine Sy (fun h=>?_) (fun h=>?_)<;>try (exfalso;omega;done))|refine Sz (fun h=>?_) (fun h=>?_))
  refine ⟨⟨i+1,by omega⟩,?_,by simp only;omega⟩
  rw[hs,hcast]
  (apply Le.headZ [] rfl)
  all_goals (try dsimp only[srcs])
  (case' hfr|hob=>(repeat' (first|refine La ?_ ?_|exact Lc|refine Lo ?_|refine ⟨⟨_,rfl,?_⟩,?_⟩|refine Lx ?_)))
  all_goals (first|(rfl)|exact Ld)
 ·obtain rfl:i=L.length:=by omega
  rw[List.take_length]
  repeat' (first|((first|apply Ba|(apply Bb;(· rfl);(· rfl))|(apply Bc;(· exact nxE))|(apply Bd;(· rfl);(· rfl);(· exact nxE)));(· first|exact Ok.lenD rfl rfl hRl|exact Ok.pe))|((first|apply Ca|(apply Cb;(· exact nxE)));(· first|exact Ok.e0))|refine Sx ?_|(refine Sy (fun h=>?_) (fun h=>?_)<;>try (exfalso;omega;done))|refine Sz (fun h=>?_) (fun h=>?_))
  refine Ya ?_
  (apply Le.headZ (hs:=[]) [] rfl)
  all_goals (try dsimp only[srcs])
  (case' hfr=>(repeat' (first|refine La ?_ ?_|exact Lc|refine Lo ?_|refine ⟨⟨_,rfl,?_⟩,?_⟩|refine Lx ?_)))
  all_goals (first|exact Ld|exact trivial|(rfl))
theorem sCyclicity_ac [Mode] (t:List (List Int)) (ht:t.length≤100000000) (hr:∀ r∈t,r.length≤100000000):AC Tryz.prog 25 [TL t] H0 (.tup [I (cyC t:Nat),I (bmC t)]) H0:=by
 have hCr:=l06Code_ac t ht hr
 by_cases h0:bmC t=0
 case neg=>
  have e2:cyC t=0:=by unfold cyC;rw[if_neg h0]
  rw[e2]
  generalize bmC t=b at *
  refine AC.of_body 0 Tryz.func25 rfl (fun l h=>absurd rfl h) (fun C hC=>?_)
  have hD:∀ l,¬ C.D0 l:=fun l h=>(hC l).1 h rfl
  simp only[startFr,Tryz.ntmps25,List.length_cons,List.length_nil,Nat.reduceAdd,Nat.reduceSub,List.replicate_succ,List.replicate_zero,List.cons_append,List.nil_append]
  repeat' (first|((first|apply Ba|(apply Bb;(· rfl);(· rfl))|(apply Bc;(· exact nxE))|(apply Bd;(· rfl);(· rfl);(· exact nxE)));(· first|exact Kz rfl rfl (hCr) (Ad An)|exact Ok.pe))|((first|apply Ca|(apply Cb;(· exact nxE)));(· first|exact Ok.e0))|refine Sx ?_|(refine Sy (fun h=>?_) (fun h=>?_)<;>try (exfalso;omega;done))|refine Sz (fun h=>?_) (fun h=>?_))
  refine Yb ?_
  (apply Le.headZ (hs:=[]) [] rfl)
  all_goals (try dsimp only[srcs])
  (case' hfr=>(repeat' (first|refine La ?_ ?_|exact Lc|refine Lo ?_|refine ⟨⟨_,rfl,?_⟩,?_⟩|refine Lx ?_)))
  all_goals (first|exact Ld|exact trivial|(rfl))
 have hCy:=l06Cyclicity_ac t h0
 rw[h0] at hCr ⊢
 generalize cyC t=cy at *
 refine AC.of_body 0 Tryz.func25 rfl (fun l h=>absurd rfl h) (fun C hC=>?_)
 have hD:∀ l,¬ C.D0 l:=fun l h=>(hC l).1 h rfl
 simp only[startFr,Tryz.ntmps25,List.length_cons,List.length_nil,Nat.reduceAdd,Nat.reduceSub,List.replicate_succ,List.replicate_zero,List.cons_append,List.nil_append]
 repeat' (first|((first|apply Ba|(apply Bb;(· rfl);(· rfl))|(apply Bc;(· exact nxE))|(apply Bd;(· rfl);(· rfl);(· exact nxE)));(· first|exact Kz rfl rfl (hCr) (Ad An)|exact Kz rfl rfl (hCy) (Ad An)|exact Ok.pe))|((first|apply Ca|(apply Cb;(· exact nxE)));(· first|exact Ok.e0))|refine Sx ?_|(refine Sy (fun h=>?_) (fun h=>?_)<;>try (exfalso;omega;done))|refine Sz (fun h=>?_) (fun h=>?_))
 refine Yb ?_
 (apply Le.headZ (hs:=[]) [] rfl)
 all_goals (try dsimp only[srcs])
 (case' hfr=>(repeat' (first|refine La ?_ ?_|exact Lc|refine Lo ?_|refine ⟨⟨_,rfl,?_⟩,?_⟩|refine Lx ?_)))
 all_goals (first|exact Ld|exact trivial|(rfl))
theorem sCriticalComponents_ac [Mode] (t:List (List Int)) (ht:t.length≤100000000) (hr:∀ r∈t,r.length≤100000000):AC Tryz.prog 27 [TL t] H0 (.tup [.d (.sl 1 (ccR t)),I (bmC t)]) H0:=by
 have hCr:=l06Code_ac t ht hr
 by_cases h0:bmC t=0
 case neg=>
  have e2:ccR t=[]:=if_neg h0
  rw[e2]
  generalize bmC t=b at *
  refine AC.of_body 0 Tryz.func27 rfl (fun l h=>absurd rfl h) (fun C hC=>?_)
  have hD:∀ l,¬ C.D0 l:=fun l h=>(hC l).1 h rfl
  simp only[startFr,Tryz.ntmps27,List.length_cons,List.length_nil,Nat.reduceAdd,Nat.reduceSub,List.replicate_succ,List.replicate_zero,List.cons_append,List.nil_append]
  repeat' (first|((first|apply Ba|(apply Bb;(· rfl);(· rfl))|(apply Bc;(· exact nxE))|(apply Bd;(· rfl);(· rfl);(· exact nxE)));(· first|exact Kz rfl rfl (hCr) (Ad An)|exact Ok.pe))|((first|apply Ca|(apply Cb;(· exact nxE)));(· first|exact Ok.e0))|refine Sx ?_|(refine Sy (fun h=>?_) (fun h=>?_)<;>try (exfalso;omega;done))|refine Sz (fun h=>?_) (fun h=>?_))
  refine Yb ?_
  (apply Le.headZ (hs:=[]) [] rfl)
  all_goals (try dsimp only[srcs])
  (case' hfr=>(repeat' (first|refine La ?_ ?_|exact Lc|refine Lo ?_|refine ⟨⟨_,rfl,?_⟩,?_⟩|refine Lx ?_)))
  all_goals (first|exact Ld|exact trivial|(rfl))
 obtain ⟨hM,hc,_⟩:=cr_ok h0
 have e2:ccR t=kpR (entN (ccT t t.length)) t.length:=if_pos h0
 have hCo:=l06Components_ac t t.length hM hc
 rw[e2,h0]
 rw[h0] at hCr
 generalize kpR (entN (ccT t t.length)) t.length=R at *
 refine AC.of_body 0 Tryz.func27 rfl (fun l h=>absurd rfl h) (fun C hC=>?_)
 have hD:∀ l,¬ C.D0 l:=fun l h=>(hC l).1 h rfl
 simp only[startFr,Tryz.ntmps27,List.length_cons,List.length_nil,Nat.reduceAdd,Nat.reduceSub,List.replicate_succ,List.replicate_zero,List.cons_append,List.nil_append]
 repeat' (first|((first|apply Ba|(apply Bb;(· rfl);(· rfl))|(apply Bc;(· exact nxE))|(apply Bd;(· rfl);(· rfl);(· exact nxE)));(· first|exact Kz rfl rfl (hCr) (Ad An)|exact Kz rfl rfl (hCo) (Ad An)|exact Ok.pe))|((first|apply Ca|(apply Cb;(· exact nxE)));(· first|exact Ok.e0))|refine Sx ?_|(refine Sy (fun h=>?_) (fun h=>?_)<;>try (exfalso;omega;done))|refine Sz (fun h=>?_) (fun h=>?_))
 refine Yb ?_
 (apply Le.headZ (hs:=[]) [] rfl)
 all_goals (try dsimp only[srcs])
 (case' hfr=>(repeat' (first|refine La ?_ ?_|exact Lc|refine Lo ?_|refine ⟨⟨_,rfl,?_⟩,?_⟩|refine Lx ?_)))
 all_goals (first|exact Ld|exact trivial|(rfl))
end Go.Proofs.YtkpoclbnnpglfaaGreat
