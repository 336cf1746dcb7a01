/-
  Walks in the abstract reading, part 14.
-/
import Derived.Test.YtkpoclbnnpglfaaGreatKtU12
import Derived.Test.YtkpoclbnnpglfaaGreatKtU13
import Derived.Test.YtkpoclbnnpglfaaGreatKtU8
import Derived.Test.YtkpoclbnnpglfaaGreatKtU11
set_option linter.unusedSimpArgs false
set_option linter.unusedVariables false
namespace Go.Proofs.YtkpoclbnnpglfaaGreat
section
open Go Go.RowKit
attribute [local irreducible] AL AD AW OpOk Le AC thenQ blockQ EndQ
theorem tdiv_lo [Mode] {a b:Int} (hb:0<b) (h:a.tmod b<0):a.tdiv b - 1=a / b:=by
 have e:=Int.tmod_add_mul_tdiv a b
 have h2 : -b<a.tmod b:=by
  have:=Int.lt_tmod_of_pos a hb
  omega
 refine ((Int.ediv_emod_unique (r:=a.tmod b+b) (q:=a.tdiv b - 1) hb).2 ⟨?_,by omega,by omega⟩).1.symm
 rw[Int.mul_sub,Int.mul_one]
 omega
theorem tdiv_hi [Mode] {a b:Int} (hb:0<b) (h:¬ a.tmod b<0):a.tdiv b=a / b:=by
 have e:=Int.tmod_add_mul_tdiv a b
 have h2:=Int.tmod_lt_of_pos a hb
 exact ((Int.ediv_emod_unique (r:=a.tmod b) (q:=a.tdiv b) hb).2 ⟨by omega,by omega,by omega⟩).1.symm
theorem l01Floor_ac [Mode] (a b:Int) (ha : -1000000000000≤a∧a≤1000000000000) (hb:0<b):AC Tryz.prog 174 [I a,I b] H0 (I (a / b)) H0:=by
 have hq : -1000000000000≤a / b∧a / b≤1000000000000:=by
  constructor
  ·exact (Int.le_ediv_iff_mul_le hb).2 (by
    have:=Int.mul_le_mul_of_nonneg_left (show 1≤b by omega) (show (0:Int)≤1000000000000 by decide)
    omega)
  ·exact Int.le_trans (Int.ediv_le_ediv hb ha.2) (Int.ediv_le_self _ (by decide))
 by_cases h:a.tmod b<0
 ·have e:=tdiv_lo hb h
  rw[← e] at hq ⊢
  refine AC.of_body 0 Tryz.func174 rfl (fun l h=>absurd rfl h) (fun C hC=>?_)
  have hD:∀ l,¬ C.D0 l:=fun l h=>(hC l).1 h rfl
  simp only[startFr,Tryz.ntmps174,List.length_cons,List.length_nil,Nat.reduceAdd,Nat.reduceSub,List.replicate_succ,List.replicate_zero,List.cons_append,List.nil_append]
  repeat' (first|((first|apply Ba|(apply Bb;(· rfl);(· rfl))|(apply Bc;(· exact nxE))|(apply Bd;(· rfl);(· rfl);(· exact nxE)));(· first|exact Ok.quo rfl rfl rfl hb (by omega) (by omega)|exact Ok.rem rfl rfl rfl (by omega)|exact Ok.pe))|((first|apply Ca|(apply Cb;(· exact nxE)));(· first|exact Ok.e0))|refine Sx ?_|(refine Sy (fun h=>?_) (fun h=>?_)<;>try (exfalso;omega;done))|refine Sz (fun h=>?_) (fun h=>?_))
  all_goals
   refine Ya ?_
   (apply Le.headZ (hs:=[]) [] rfl)
   all_goals (try dsimp only[srcs])
   (case' hfr=>(repeat' (first|refine La ?_ ?_|exact Lc|refine Lo ?_|refine ⟨⟨_,rfl,?_⟩,?_⟩|refine Lx ?_)))
   all_goals (first|exact Ld|exact trivial|(rfl))
 ·have e:=tdiv_hi hb h
  rw[← e] at hq ⊢
  refine AC.of_body 0 Tryz.func174 rfl (fun l h=>absurd rfl h) (fun C hC=>?_)
  have hD:∀ l,¬ C.D0 l:=fun l h=>(hC l).1 h rfl
  simp only[startFr,Tryz.ntmps174,List.length_cons,List.length_nil,Nat.reduceAdd,Nat.reduceSub,List.replicate_succ,List.replicate_zero,List.cons_append,List.nil_append]
  repeat' (first|((first|apply Ba|(apply Bb;(· rfl);(· rfl))|(apply Bc;(· exact nxE))|(apply Bd;(· rfl);(· rfl);(· exact nxE)));(· first|exact Ok.quo rfl rfl rfl hb (by omega) (by omega)|exact Ok.rem rfl rfl rfl (by omega)|exact Ok.pe))|((first|apply Ca|(apply Cb;(· exact nxE)));(· first|exact Ok.e0))|refine Sx ?_|(refine Sy (fun h=>?_) (fun h=>?_)<;>try (exfalso;omega;done))|refine Sz (fun h=>?_) (fun h=>?_))
  all_goals
   refine Ya ?_
   (apply Le.headZ (hs:=[]) [] rfl)
   all_goals (try dsimp only[srcs])
   (case' hfr=>(repeat' (first|refine La ?_ ?_|exact Lc|refine Lo ?_|refine ⟨⟨_,rfl,?_⟩,?_⟩|refine Lx ?_)))
   all_goals (first|exact Ld|exact trivial|(rfl))
theorem l01Ceil_ac [Mode] (a b:Int) (ha:0≤a∧a≤1000000000) (hb:0<b):AC Tryz.prog 148 [I a,I b] H0 (I (-(-a / b))) H0:=by
 have hF:=l01Floor_ac (-a) b (by omega) hb
 have hq : -1000000000≤-a / b∧-a / b≤0:=by
  constructor
  ·exact (Int.le_ediv_iff_mul_le hb).2 (by
    have:=Int.mul_le_mul_of_nonneg_left (show 1≤b by omega) (show (0:Int)≤1000000000 by decide)
    omega)
  ·exact Int.le_trans (Int.ediv_le_ediv hb (show -a≤0 by omega)) (by simp)
 generalize -a / b=q at *
 refine AC.of_body 0 Tryz.func148 rfl (fun l h=>absurd rfl h) (fun C hC=>?_)
 have hD:∀ l,¬ C.D0 l:=fun l h=>(hC l).1 h rfl
 simp only[startFr,Tryz.ntmps148,List.length_cons,List.length_nil,Nat.reduceAdd,Nat.reduceSub,List.replicate_succ,List.replicate_zero,List.cons_append,List.nil_append]
 repeat' (first|((first|apply Ba|(apply Bb;(· rfl);(· rfl))|(apply Bc;(· exact nxE))|(apply Bd;(· rfl);(· rfl);(· exact nxE)));(· first|exact Kz rfl rfl (hF) (Ad (Ad An))|exact Ok.pe))|((first|apply Ca|(apply Cb;(· exact nxE)));(· first|exact Ok.e0))|refine Sx ?_|(refine Sy (fun h=>?_) (fun h=>?_)<;>try (exfalso;omega;done))|refine Sz (fun h=>?_) (fun h=>?_))
 refine Ya ?_
 (apply Le.headZ (hs:=[]) [] rfl)
 all_goals (try dsimp only[srcs])
 (case' hfr=>(repeat' (first|refine La ?_ ?_|exact Lc|refine Lo ?_|refine ⟨⟨_,rfl,?_⟩,?_⟩|refine Lx ?_)))
 all_goals (first|exact Ld|exact trivial|(rfl))
def lpOk (xs:List Pl) (P:Int):Prop:=∀ c,Circ xs c→sumD xs c≤P*sumT xs c
theorem lpOk_wgt [Mode] {xs:List Pl}{P:Int}:lpOk xs P↔∀ c,Circ xs c→wgt xs P 1 c≤0:=by
 unfold lpOk
 constructor
 ·intro h c hc;have:=h c hc;rw[wgt_sums];omega
 ·intro h c hc;have:=h c hc;rw[wgt_sums] at this;omega
theorem lpOk_over [Mode] {n:Nat}{xs:List Pl}{P:Int} (hv:∀ p∈xs,okPl n p):overC xs P 1 0 n=[]↔lpOk xs P:=by
 rw[lpOk_wgt]
 constructor
 ·intro h c hc
  refine Classical.byContradiction fun hn=>?_
  exact overC_finds hc (hc.len fun i hi=>(okPl_at hv i hi).1) (show 0<wgt xs P 1 c by omega) h
 ·intro h
  refine Classical.byContradiction fun hne=>?_
  obtain ⟨h1,h2⟩:=overC_sound hne
  have:=h _ h1
  omega
theorem isEG_d [Mode] {ev:Int}{xs:List Pl} (h:isEG ev xs=true):∀ i,i<xs.length→(plA xs i).d≤1000:=fun i hi=>by
 simp only[isEG,Bool.and_eq_true,decide_eq_true_eq,List.all_eq_true,wi_iff] at h
 have e:plA xs i=xs[i]:=by simp[plA,hi]
 have:=h.2 (plA xs i) (by rw[e];exact List.getElem_mem hi)
 simp only[plB,Bool.and_eq_true,wi_iff] at this
 omega
theorem circ_sums [Mode] {n:Nat}{xs:List Pl} (hg:isEG n xs=true) {c:List Nat} (hc:Circ xs c):(0≤sumD xs c∧sumD xs c≤10000)∧(0≤sumT xs c∧sumT xs c≤50):=by
 obtain ⟨m,hm,_,hn,_,hv⟩:=isEG_ok hg
 have h1:=hc.len fun i hi=>(okPl_at hv i hi).1
 have h2:=sum_bnd (D:=1000) (K:=5) (fun i hi=>⟨⟨(okPl_at hv i hi).2.2.1.1,isEG_d hg i hi⟩,(okPl_at hv i hi).2.2.2⟩) hc.wk.lt
 omega
theorem nat_least [Mode] {p:Nat→Prop} (n:Nat):p n→∃ m,p m∧∀ q,p q→m≤q:=by
 induction n using Nat.strongRecOn with
 | ind n ih=>
  intro h
  by_cases hq:∃ q,q<n∧p q
  ·obtain ⟨q,h1,h2⟩:=hq
   exact ih q h1 h2
  ·exact ⟨n,h,fun q hq2=>Nat.le_of_not_lt fun hl=>hq ⟨q,hl,hq2⟩⟩
theorem lpOk_top [Mode] {n:Nat}{xs:List Pl} (hg:isEG n xs=true) {P:Int} (h:lpOk xs P):lpOk xs 10000:=fun c hc=>by
 have h1:=h c hc
 obtain ⟨h2,h3⟩:=circ_sums hg hc
 by_cases h0:sumT xs c=0
 ·rw[h0] at h1 ⊢;omega
 ·omega
noncomputable def lpN (xs:List Pl):Nat:=open Classical in if h:∃ P:Nat,lpOk xs P∧∀ Q:Nat,lpOk xs Q→P≤Q then Classical.choose h else 0
theorem lpN_ok [Mode] {xs:List Pl}{P:Nat} (h:lpOk xs P):lpOk xs (lpN xs)∧lpN xs≤P:=by
 have he:∃ P:Nat,lpOk xs P∧∀ Q:Nat,lpOk xs Q→P≤Q:=nat_least (p:=fun P:Nat=>lpOk xs P) P h
 unfold lpN
 rw[dif_pos he]
 exact ⟨(Classical.choose_spec he).1,(Classical.choose_spec he).2 P h⟩
noncomputable def lpC (ev:Int) (xs:List Pl):Int:=open Classical in if isEG ev xs=true then (if lpOk xs 10000 then 0 else 5) else 1
noncomputable def lpV (ev:Int) (xs:List Pl):Int:=if lpC ev xs=0 then lpN xs else 0
theorem lp_inv [Mode] {ev:Int}{xs:List Pl} (h:isEG ev xs=false):lpC ev xs=1∧lpV ev xs=0:=by
 have e:lpC ev xs=1:=by unfold lpC;rw[h];simp
 exact ⟨e,by unfold lpV;rw[e];rfl⟩
theorem lp_no [Mode] {ev:Int}{xs:List Pl} (h:isEG ev xs=true) (h2:¬ lpOk xs 10000):lpC ev xs=5∧lpV ev xs=0:=by
 have e:lpC ev xs=5:=by unfold lpC;rw[if_pos h,if_neg h2]
 exact ⟨e,by unfold lpV;rw[e];rfl⟩
theorem lp_yes [Mode] {ev:Int}{xs:List Pl} (h:isEG ev xs=true) {P:Nat} (h2:lpOk xs P) (h3:∀ Q:Nat,lpOk xs Q→P≤Q):lpC ev xs=0∧lpV ev xs=P:=by
 obtain ⟨n,rfl,g1,g2,g3,hv⟩:=isEG_ok h
 have e:lpC n xs=0:=by unfold lpC;rw[if_pos h,if_pos (lpOk_top h h2)]
 refine ⟨e,?_⟩
 unfold lpV
 rw[if_pos e]
 have h4:=lpN_ok h2
 have h5:=h3 _ h4.1
 omega
theorem lp_ok [Mode] {ev:Int}{xs:List Pl} (h:lpC ev xs=0):∃ n:Nat,ev=n∧1≤n∧n≤10∧xs.length≤30∧(∀ p∈xs,okPl n p)∧isEG n xs=true∧(0≤lpV n xs∧lpV n xs≤10000)∧lpOk xs (lpV n xs)∧∀ Q:Int,0≤Q→lpOk xs Q→lpV n xs≤Q:=by
 cases hg:isEG ev xs
 ·rw[(lp_inv hg).1] at h;cases h
 obtain ⟨n,rfl,g1,g2,g3,hv⟩:=isEG_ok hg
 have ht:lpOk xs 10000:=Classical.byContradiction fun h2=>by rw[(lp_no hg h2).1] at h;cases h
 have h4:=lpN_ok (P:=10000) ht
 have e:lpV n xs=lpN xs:=by unfold lpV;rw[if_pos h]
 refine ⟨n,rfl,g1,g2,g3,hv,hg,by omega,by rw[e];exact h4.1,fun Q hQ hq=>?_⟩
 obtain ⟨q,rfl⟩:∃ q:Nat,Q=q:=⟨Q.toNat,by omega⟩
 have:=(lpN_ok hq).2
 omega
theorem ceil_up [Mode] {d m P:Int} (hm:0<m) (h:P*m<d):P < -(-d / m):=by
 have h1 : -d / m < -P:=by
  rw[Int.ediv_lt_iff_lt_mul hm,Int.neg_mul]
  omega
 omega
theorem ceil_le [Mode] {d m Q:Int} (hm:0<m) (h:d≤Q*m) : -(-d / m)≤Q:=by
 have h1 : -Q≤-d / m:=by
  rw[Int.le_ediv_iff_mul_le hm,Int.neg_mul]
  omega
 omega
set_option maxHeartbeats 4000000 in
theorem sLeastPeriod_ac [Mode] (ev:Int) (xs:List Pl) (hx:xs.length≤1000):AC Tryz.prog 100 [grD ev xs] H0 (.tup [I (lpV ev xs),I (lpC ev xs)]) H0:=by
 have hE:=sIsEventGraph_ac ev xs (by omega)
 cases hg:isEG ev xs
 ·rw[hg] at hE
  obtain ⟨e1,e2⟩:=lp_inv hg
  rw[e1,e2]
  refine AC.of_body 0 Tryz.func100 rfl (fun l h=>absurd rfl h) (fun C hC=>?_)
  have hD:∀ l,¬ C.D0 l:=fun l h=>(hC l).1 h rfl
  simp only[startFr,Tryz.ntmps100,List.length_cons,List.length_nil,Nat.reduceAdd,Nat.reduceSub,List.replicate_succ,List.replicate_zero,List.cons_append,List.nil_append]
  repeat' (first|((first|apply Ba|(apply Bb;(· rfl);(· rfl))|(apply Bc;(· exact nxE))|(apply Bd;(· rfl);(· rfl);(· exact nxE)));(· first|exact Kz rfl rfl (hE) (Aa (Ad (Ad An)) An)|exact Ok.pe))|((first|apply Ca|(apply Cb;(· exact nxE)));(· first|exact Ok.e0))|refine Sx ?_|(refine Sy (fun h=>?_) (fun h=>?_)<;>try (exfalso;omega;done))|refine Sz (fun h=>?_) (fun h=>?_))
  refine Yb ?_
  (apply Le.headZ (hs:=[]) [] rfl)
  all_goals (try dsimp only[srcs])
  (case' hfr=>(repeat' (first|refine La ?_ ?_|exact Lc|refine Lo ?_|refine ⟨⟨_,rfl,?_⟩,?_⟩|refine Lx ?_)))
  all_goals (first|exact Ld|exact trivial|(rfl))
 rw[hg] at hE
 obtain ⟨n,rfl,g1,g2,g3,hv⟩:=isEG_ok hg
 have hO:=fun (P:Nat) (h:P≤10000)=>l15Over_ac n n xs P 1 0 g2 (by omega) hv (by omega) (by omega)
 refine AC.of_body 0 Tryz.func100 rfl (fun l h=>absurd rfl h) (fun C hC=>?_)
 have hD:∀ l,¬ C.D0 l:=fun l h=>(hC l).1 h rfl
 simp only[startFr,Tryz.ntmps100,List.length_cons,List.length_nil,Nat.reduceAdd,Nat.reduceSub,List.replicate_succ,List.replicate_zero,List.cons_append,List.nil_append]
 repeat' (first|((first|apply Ba|(apply Bb;(· rfl);(· rfl))|(apply Bc;(· exact nxE))|(apply Bd;(· rfl);(· rfl);(· exact nxE)));(· first|exact Kz rfl rfl (hE) (Aa (Ad (Ad An)) An)|exact Ok.pe))|((first|apply Ca|(apply Cb;(· exact nxE)));(· first|exact Ok.e0))|refine Sx ?_|(refine Sy (fun h=>?_) (fun h=>?_)<;>try (exfalso;omega;done))|refine Sz (fun h=>?_) (fun h=>?_))
 refine AW.loop (X:={P:Nat // P≤10000∧∀ Q:Nat,lpOk xs Q→P≤Q}) (fun P=>⟨[Oo,Bx 2 0,Oo,Oo,I (P.1:Nat),Oo,Oo,Oo,Oo,Oo,Oo,Oo,Oo,Oo,Oo,Oo,Oo,Oo,Oo,Oo,Oo,Oo,Oo,Oo,Oo,Oo,Oo,Oo,Oo,Oo,Oo,Oo],heapL [(⟨0,[]⟩,⟨0,[]⟩,⟨2,[[I n,PL xs]]⟩)],900⟩) (fun P=>10000 - P.1) ⟨0,Nat.zero_le _,fun Q _=>Nat.zero_le _⟩ ?_ (fun P=>?_)
 ·
  (apply Le.headZ [_] rfl)
  all_goals (try dsimp only[srcs])
  (case' hfr|hob=>(repeat' (first|refine La ?_ ?_|exact Lc|refine Lo ?_|refine ⟨⟨_,rfl,?_⟩,?_⟩|refine Lx ?_)))
  all_goals (first|(rfl)|exact Ld)
 obtain ⟨P,hP,hmin⟩:=P
 simp only
 have hQ:=hO P hP
 clear hO
 by_cases hb:overC xs (P:Nat) 1 0 n=[]
 ·obtain ⟨e1,e2⟩:=lp_yes hg ((lpOk_over hv).1 hb) hmin
  rw[e1,e2]
  rw[hb,show cN []=([]:List Int) from rfl] at hQ
  repeat' (first|((first|apply Ba|(apply Bb;(· rfl);(· rfl))|(apply Bc;(· exact nxE))|(apply Bd;(· rfl);(· rfl);(· exact nxE)));(· first|exact Kz rfl rfl (hQ) (Aa (Ad (Ad An)) (Aa (Ad (Ad An)) (Ad An)))|exact Ok.pe))|((first|apply Ca|(apply Cb;(· exact nxE)));(· first|exact Ok.e0))|refine Sx ?_|(refine Sy (fun h=>?_) (fun h=>?_)<;>try (exfalso;omega;done))|refine Sz (fun h=>?_) (fun h=>?_))
  refine Yb ?_
  (apply Le.headZ (hs:=[]) [] rfl)
  all_goals (try dsimp only[srcs])
  (case' hfr=>(repeat' (first|refine La ?_ ?_|exact Lc|refine Lo ?_|refine ⟨⟨_,rfl,?_⟩,?_⟩|refine Lx ?_)))
  all_goals (first|exact Ld|exact trivial|(rfl))
 obtain ⟨hci,hw⟩:=overC_sound hb
 have hlen:=hci.len fun i hi=>(okPl_at hv i hi).1
 have hpos:0<(overC xs (P:Nat) 1 0 n).length:=List.length_pos_iff.2 hb
 have hS:=l15Sums_ac n n xs (overC xs (P:Nat) 1 0 n) (by omega) hv hci.wk.lt (by omega)
 obtain ⟨s1,s2⟩:=circ_sums hg hci
 rw[wgt_sums] at hw
 have hcl:(IR (cN (overC xs (P:Nat) 1 0 n))).length=(overC xs (P:Nat) 1 0 n).length:=by simp
 have hall:∀ Q:Int,lpOk xs Q→sumD xs (overC xs (P:Nat) 1 0 n)≤Q*sumT xs (overC xs (P:Nat) 1 0 n):=fun Q hq=>hq _ hci
 clear hb hci
 generalize sumD xs (overC xs (P:Nat) 1 0 n)=d at *
 generalize sumT xs (overC xs (P:Nat) 1 0 n)=m at *
 generalize overC xs (P:Nat) 1 0 n=c at *
 by_cases hm:m=0
 ·subst hm
  have hno:¬ lpOk xs 10000:=fun h=>by have:=hall _ h;omega
  obtain ⟨e1,e2⟩:=lp_no hg hno
  rw[e1,e2]
  repeat' (first|((first|apply Ba|(apply Bb;(· rfl);(· rfl))|(apply Bc;(· exact nxE))|(apply Bd;(· rfl);(· rfl);(· exact nxE)));(· first|exact Kz rfl rfl (hQ) (Aa (Ad (Ad An)) (Aa (Ad (Ad An)) (Ad An)))|exact Ok.lenD rfl rfl hcl|exact Kz rfl rfl (hS) (Aa (Ad (Ad An)) (Ad An))|exact Ok.pe))|((first|apply Ca|(apply Cb;(· exact nxE)));(· first|exact Ok.e0))|refine Sx ?_|(refine Sy (fun h=>?_) (fun h=>?_)<;>try (exfalso;omega;done))|refine Sz (fun h=>?_) (fun h=>?_))
  refine Yb ?_
  (apply Le.headZ (hs:=[]) [] rfl)
  all_goals (try dsimp only[srcs])
  (case' hfr=>(repeat' (first|refine La ?_ ?_|exact Lc|refine Lo ?_|refine ⟨⟨_,rfl,?_⟩,?_⟩|refine Lx ?_)))
  all_goals (first|exact Ld|exact trivial|(rfl))
 ·have hm0:0<m:=by omega
  have hC:=l01Ceil_ac d m (by omega) hm0
  have hup:=ceil_up hm0 (show (P:Int)*m<d by omega)
  have h5:=ceil_le hm0 (show d≤10000*m by omega)
  have h6:=fun (Q:Nat) (hq:lpOk xs Q)=>ceil_le hm0 (hall Q hq)
  obtain ⟨R,hR⟩:∃ R:Nat,-(-d / m)=(R:Int):=⟨(-(-d / m)).toNat,by omega⟩
  rw[hR] at hC hup h5
  have h7:∀ Q:Nat,lpOk xs Q→R≤Q:=fun Q hq=>by have:=h6 Q hq;rw[hR] at this;omega
  clear h6 hall hmin
  have hK:=hC
  clear hC
  repeat' (first|((first|apply Ba|(apply Bb;(· rfl);(· rfl))|(apply Bc;(· exact nxE))|(apply Bd;(· rfl);(· rfl);(· exact nxE)));(· first|exact Kz rfl rfl (hQ) (Aa (Ad (Ad An)) (Aa (Ad (Ad An)) (Ad An)))|exact Ok.lenD rfl rfl hcl|exact Kz rfl rfl (hS) (Aa (Ad (Ad An)) (Ad An))|exact Kz rfl rfl (hK) (Ad (Ad An))|exact Ok.pe))|((first|apply Ca|(apply Cb;(· exact nxE)));(· first|exact Ok.e0))|refine Sx ?_|(refine Sy (fun h=>?_) (fun h=>?_)<;>try (exfalso;omega;done))|refine Sz (fun h=>?_) (fun h=>?_))
  refine ⟨⟨R,by omega,h7⟩,?_,by simp only;omega⟩
  (apply Le.headZ [_] rfl)
  all_goals (try dsimp only[srcs])
  (case' hfr|hob=>(repeat' (first|refine La ?_ ?_|exact Lc|refine Lo ?_|refine ⟨⟨_,rfl,?_⟩,?_⟩|refine Lx ?_)))
  all_goals (first|(rfl)|exact Ld)
theorem wM_up [Mode] {W:Nat→Nat→Int}{n:Nat} (h:∀ u v,u<n→v<n→W v u≠BOT→W v u≤10000):∀ {c:List Nat}{u v:Nat},u<n→v<n→(∀ x∈c,x<n)→WM W u c v→wM W u c v≤10000*((c.length:Int)+1)
 | [],u,v,hu,hv,_,hw=>by
  have:=h u v hu hv hw
  simp only[wM,List.length_nil];omega
 | m :: c,u,v,hu,hv,hc,hw=>by
  have hm:=hc m (by simp)
  have h1:=h u m hu hm hw.1
  have h2:=wM_up h (c:=c) hm hv (fun x hx=>hc x (by simp[hx])) hw.2
  simp only[wM,List.length_cons];omega
theorem ptL_rng [Mode] {n:Nat}{xs:List Pl}{P:Int} (hn:n≤10) (h0:0<n) (hv:∀ p∈xs,okPl n p) (hP:0≤P∧P≤100000) (hnp:NoPos (entN (wmT n xs (P,1))) n):∀ a∈ptL n xs (P,1),0≤a∧a≤100000:=by
 have hB:=starB_wm (r:=(P,1)) hn h0 hv (by simp only;omega) (by simp only;omega)
 have hst:=hB.m hnp
 have hok:=hst.ok
 have hW:=wm_okG (r:=(P,1)) hv (by simp only;omega) (by simp only;omega)
 have harc:∀ u v,u<n→v<n→entN (wmT n xs (P,1)) v u≠BOT→entN (wmT n xs (P,1)) v u≤10000:=fun u v hu hv' hne=>by
  rcases hW.some u v hu hv' with e|⟨p,hp,_,_,e⟩
  ·exact absurd e hne
  ·rw[← e];exact (pw_bndP hP (hv p hp)).2
 intro a ha
 have hne:=ptL_ne hst a ha
 obtain ⟨i,hi,rfl⟩:=List.mem_map.1 ha
 rw[List.mem_range] at hi
 generalize wmT n xs (P,1)=T at *
 have hge:=apA_ge (f:=entN (tabF n n (starF (entN T) n))) (v:=fun _=>0) (i:=i) (j:=i) (k:=n) hi
 rw[tabF_ent hi hi,timesB_0,star_dia0 hst.np hok.some hok.dia hi] at hge
 refine ⟨hge,?_⟩
 rcases apA_atT (f:=entN (tabF n n (starF (entN T) n))) (v:=fun _=>0) (i:=i) (k:=n) with e|⟨m,hm,e⟩
 ·exact absurd e hne
 ·rw[e] at hne ⊢
  rw[tabF_ent hi hm,timesB_0] at hne ⊢
  rcases hok.some m i hm hi with e1|⟨_,e2⟩|⟨c,c1,c2,c3⟩
  ·exact absurd e1 hne
  ·omega
  ·obtain ⟨c',d1,d2,d3,d4⟩:=walk_short hst.np c.length c m i (Nat.le_refl _) hm c2 c1
   have:=wM_up harc hm hi d3 d1
   omega
noncomputable def etC (ev:Int) (xs:List Pl) (P:Int):Int:=if prC ev xs P=0 then (if npB ev.toNat xs (P,1)=true then 0 else 5) else prC ev xs P
noncomputable def etS (ev:Int) (xs:List Pl) (P:Int):List Int:=if etC ev xs P=0 then ptL ev.toNat xs (P,1) else []
noncomputable def etP (ev:Int) (xs:List Pl) (P:Int):Int:=if etC ev xs P=0 then P else 0
theorem et_no [Mode] {ev:Int}{xs:List Pl}{P:Int} (h:prC ev xs P≠0):etC ev xs P=prC ev xs P∧etS ev xs P=[]∧etP ev xs P=0:=by
 have e:etC ev xs P=prC ev xs P:=by unfold etC;rw[if_neg h]
 exact ⟨e,by unfold etS;rw[e,if_neg h],by unfold etP;rw[e,if_neg h]⟩
theorem et_pos [Mode] {n:Nat}{xs:List Pl}{P:Int} (h:prC n xs P=0) (h2:npB n xs (P,1)=false):etC n xs P=5∧etS n xs P=[]∧etP n xs P=0:=by
 have e:etC n xs P=5:=by unfold etC;rw[if_pos h,Int.toNat_natCast,h2];rfl
 exact ⟨e,by unfold etS;rw[e];rfl,by unfold etP;rw[e];rfl⟩
theorem et_yes [Mode] {n:Nat}{xs:List Pl}{P:Int} (h:prC n xs P=0) (h2:npB n xs (P,1)=true):etC n xs P=0∧etS n xs P=ptL n xs (P,1)∧etP n xs P=P:=by
 have e:etC n xs P=0:=by unfold etC;rw[if_pos h,Int.toNat_natCast,h2];rfl
 exact ⟨e,by unfold etS;rw[e,Int.toNat_natCast];rfl,by unfold etP;rw[e];rfl⟩
set_option maxHeartbeats 4000000 in
theorem iEarliestTimetable_ac [Mode] (ev:Int) (xs:List Pl) (P:Int) (hx:xs.length≤1000):AC Tryz.prog 11 [grD ev xs,I P] H0 (.tup [ttA (etP ev xs P) (etS ev xs P),I (etC ev xs P)]) H0:=by
 have hK:=checkPeriod_ac ev xs P hx
 by_cases h0:prC ev xs P=0
 case neg=>
  obtain ⟨e1,e2,e3⟩:=et_no h0
  rw[e1,e2,e3]
  generalize prC ev xs P=c at *
  refine AC.of_body 0 Tryz.func11 rfl (fun l h=>absurd rfl h) (fun C hC=>?_)
  have hD:∀ l,¬ C.D0 l:=fun l h=>(hC l).1 h rfl
  simp only[startFr,Tryz.ntmps11,List.length_cons,List.length_nil,Nat.reduceAdd,Nat.reduceSub,List.replicate_succ,List.replicate_zero,List.cons_append,List.nil_append]
  repeat' (first|((first|apply Ba|(apply Bb;(· rfl);(· rfl))|(apply Bc;(· exact nxE))|(apply Bd;(· rfl);(· rfl);(· exact nxE)));(· first|exact Kz rfl rfl (hK) (Aa (Ad (Ad An)) (Ad An))|exact Ok.pe))|((first|apply Ca|(apply Cb;(· exact nxE)));(· first|exact Ok.e0))|refine Sx ?_|(refine Sy (fun h=>?_) (fun h=>?_)<;>try (exfalso;omega;done))|refine Sz (fun h=>?_) (fun h=>?_))
  refine Yb ?_
  (apply Le.headZ (hs:=[]) [] rfl)
  all_goals (try dsimp only[srcs])
  (case' hfr=>(repeat' (first|refine La ?_ ?_|exact Lc|refine Lo ?_|refine ⟨⟨_,rfl,?_⟩,?_⟩|refine Lx ?_)))
  all_goals (first|exact Ld|exact trivial|(rfl))
 obtain ⟨n,rfl,g1,g2,g3,hv,hg,hp⟩:=pr_ok h0
 have hT:=timePotentialG_ac n xs (P,1) g1 g2 hx hv (by simp only;omega) (by simp only;omega)
 simp only at hT
 rw[h0] at hK
 cases hb:npB n xs (P,1)
 ·obtain ⟨e1,e2,e3⟩:=et_pos h0 hb
  rw[e1,e2,e3]
  rw[hb,if_neg (by simp)] at hT
  refine AC.of_body 0 Tryz.func11 rfl (fun l h=>absurd rfl h) (fun C hC=>?_)
  have hD:∀ l,¬ C.D0 l:=fun l h=>(hC l).1 h rfl
  simp only[startFr,Tryz.ntmps11,List.length_cons,List.length_nil,Nat.reduceAdd,Nat.reduceSub,List.replicate_succ,List.replicate_zero,List.cons_append,List.nil_append]
  repeat' (first|((first|apply Ba|(apply Bb;(· rfl);(· rfl))|(apply Bc;(· exact nxE))|(apply Bd;(· rfl);(· rfl);(· exact nxE)));(· first|exact Kz rfl rfl (hK) (Aa (Ad (Ad An)) (Ad An))|exact Kz rfl rfl (hT) (Aa (Ad (Ad An)) (Aa (Ad (Ad An)) An))|exact Ok.pe))|((first|apply Ca|(apply Cb;(· exact nxE)));(· first|exact Ok.e0))|refine Sx ?_|(refine Sy (fun h=>?_) (fun h=>?_)<;>try (exfalso;omega;done))|refine Sz (fun h=>?_) (fun h=>?_))
  refine Yb ?_
  (apply Le.headZ (hs:=[]) [] rfl)
  all_goals (try dsimp only[srcs])
  (case' hfr=>(repeat' (first|refine La ?_ ?_|exact Lc|refine Lo ?_|refine ⟨⟨_,rfl,?_⟩,?_⟩|refine Lx ?_)))
  all_goals (first|exact Ld|exact trivial|(rfl))
 ·obtain ⟨e1,e2,e3⟩:=et_yes h0 hb
  rw[e1,e2,e3]
  rw[hb,if_pos rfl] at hT
  generalize ptL n xs (P,1)=x at *
  refine AC.of_body 0 Tryz.func11 rfl (fun l h=>absurd rfl h) (fun C hC=>?_)
  have hD:∀ l,¬ C.D0 l:=fun l h=>(hC l).1 h rfl
  simp only[startFr,Tryz.ntmps11,List.length_cons,List.length_nil,Nat.reduceAdd,Nat.reduceSub,List.replicate_succ,List.replicate_zero,List.cons_append,List.nil_append]
  repeat' (first|((first|apply Ba|(apply Bb;(· rfl);(· rfl))|(apply Bc;(· exact nxE))|(apply Bd;(· rfl);(· rfl);(· exact nxE)));(· first|exact Kz rfl rfl (hK) (Aa (Ad (Ad An)) (Ad An))|exact Kz rfl rfl (hT) (Aa (Ad (Ad An)) (Aa (Ad (Ad An)) An))|exact Ok.pe))|((first|apply Ca|(apply Cb;(· exact nxE)));(· first|exact Ok.e0))|refine Sx ?_|(refine Sy (fun h=>?_) (fun h=>?_)<;>try (exfalso;omega;done))|refine Sz (fun h=>?_) (fun h=>?_))
  refine Yb ?_
  (apply Le.headZ (hs:=[]) [] rfl)
  all_goals (try dsimp only[srcs])
  (case' hfr=>(repeat' (first|refine La ?_ ?_|exact Lc|refine Lo ?_|refine ⟨⟨_,rfl,?_⟩,?_⟩|refine Lx ?_)))
  all_goals (first|exact Ld|exact trivial|(rfl))
end
section
open Go Go.RowKit
attribute [local irreducible] AL AD AW OpOk Le AC thenQ blockQ EndQ
theorem et_ok [Mode] {ev:Int}{xs:List Pl}{P:Int} (h:etC ev xs P=0):∃ n:Nat,ev=n∧1≤n∧n≤10∧xs.length≤30∧(∀ p∈xs,okPl n p)∧isEG n xs=true∧(0≤P∧P≤100000)∧NoPos (entN (wmT n xs (P,1))) n∧etS n xs P=ptL n xs (P,1)∧etP n xs P=P:=by
 by_cases h0:prC ev xs P=0
 case neg=>rw[(et_no h0).1] at h;exact absurd h h0
 obtain ⟨n,rfl,g1,g2,g3,hv,hg,hp⟩:=pr_ok h0
 cases hb:npB n xs (P,1)
 ·rw[(et_pos h0 hb).1] at h;cases h
 ·have hnp:NoPos (entN (wmT n xs (P,1))) n:=npB_iff.1 hb
  obtain ⟨_,e2,e3⟩:=et_yes h0 hb
  exact ⟨n,rfl,g1,g2,g3,hv,hg,hp,hnp,e2,e3⟩
theorem et_len [Mode] {ev:Int}{xs:List Pl}{P:Int}:(etS ev xs P).length≤1000:=by
 by_cases h:etC ev xs P=0
 ·obtain ⟨n,rfl,_,g2,_,_,_,_,_,e2,_⟩:=et_ok h
  have:(ptL n xs (P,1)).length=n:=rowF_len
  rw[e2];omega
 ·unfold etS;rw[if_neg h];simp
theorem et_kept [Mode] {ev:Int}{xs:List Pl}{P:Int} (h:etC ev xs P=0):ttC ev xs (etP ev xs P) (etS ev xs P)=0∧ktB ev xs (etP ev xs P) (etS ev xs P)=true∧etP ev xs P=P:=by
 obtain ⟨n,rfl,g1,g2,g3,hv,hg,hp,hnp,e2,e3⟩:=et_ok h
 rw[e2,e3]
 have hrng:=ptL_rng g2 (by omega) hv hp hnp
 have hpl:(ptL n xs (P,1)).length=n:=rowF_len
 have hB:=starB_wm (r:=(P,1)) g2 (by omega) hv (by simp only;omega) (by simp only;omega)
 have hW:=wm_okG (r:=(P,1)) hv (by simp only;omega) (by simp only;omega)
 have hst:=hB.m hnp
 have hC:ttC n xs P (ptL n xs (P,1))=0:=by
  unfold ttC ttB stB
  rw[hg,if_pos rfl,wi_iff.2 hp,decide_eq_true (by omega:((ptL n xs (P,1)).length:Int)=n),Bool.true_and,Bool.true_and,if_pos]
  rw[List.all_eq_true]
  exact fun a ha=>wi_iff.2 (by have:=hrng a ha;omega)
 refine ⟨hC,?_,rfl⟩
 unfold ktB
 rw[decide_eq_true hC,Bool.true_and,List.all_eq_true]
 intro a ha
 obtain ⟨i,hi,rfl⟩:=List.mem_map.1 ha
 rw[List.mem_range] at hi
 obtain ⟨⟨f1,f2⟩,⟨t1,t2⟩,_⟩:=okPl_at hv i hi
 have e:plA xs i=xs[i]:=by simp[plA,hi]
 obtain ⟨a1,a2⟩:=hW.all (plA xs i) (by rw[e];exact List.getElem_mem hi)
 have h3:=ptL_pot hst (plA xs i).t.toNat (plA xs i).f.toNat (by omega) (by omega) a1
 unfold slF
 unfold pw at a2
 simp only at a2
 rw[Int.mul_comm P] at a2
 rw[decide_eq_false (by omega)]
 rfl
theorem cc_ok [Mode] {ev:Int}{xs:List Pl}{P:Int} (h:ccC ev xs P=0):∃ n:Nat,ev=n∧1≤n∧n≤10∧xs.length≤30∧(∀ p∈xs,okPl n p)∧isEG n xs=true∧(0≤P∧P≤100000)∧Circ xs (ccL n xs P)∧(ccL n xs P).length≤n∧P*sumT xs (ccL n xs P)<sumD xs (ccL n xs P):=by
 by_cases h0:prC ev xs P=0
 case neg=>rw[(cc_no h0).1] at h;exact absurd h h0
 obtain ⟨n,rfl,g1,g2,g3,hv,hg,hp⟩:=pr_ok h0
 obtain ⟨e1,e2⟩:=cc_yes h0
 have hne:overC xs P 1 0 n≠[]:=fun e=>by rw[e1,e,if_pos rfl] at h;cases h
 obtain ⟨h1,h2⟩:=overC_sound hne
 rw[wgt_sums] at h2
 exact ⟨n,rfl,g1,g2,g3,hv,hg,hp,by rw[e2];exact h1,by rw[e2];exact h1.len fun i hi=>(okPl_at hv i hi).1,by rw[e2];omega⟩
end
section
open Go Go.RowKit
attribute [local irreducible] AL AD AW OpOk Le AC thenQ blockQ EndQ
noncomputable def ceB (ev:Int) (xs:List Pl):Bool:=(ptL ev.toNat xs (maxR xs)).all isVal
noncomputable def ceC (ev:Int) (xs:List Pl):Int:=if bcC ev xs=0 then (if ceB ev xs=true then 0 else 3) else bcC ev xs
noncomputable def ceR (ev:Int) (xs:List Pl):Int × Int:=if ceC ev xs=0 then maxR xs else (0,0)
noncomputable def ceL (ev:Int) (xs:List Pl):List Int:=if ceC ev xs=0 then cN (bcL ev xs) else []
noncomputable def ceX (ev:Int) (xs:List Pl):List Int:=if ceC ev xs=0 then ptL ev.toNat xs (maxR xs) else []
set_option maxHeartbeats 4000000 in
theorem sCertifyTime_ac [Mode] (ev:Int) (xs:List Pl) (hx:xs.length≤100000000):AC Tryz.prog 8 [grD ev xs] H0 (.tup [.agg [I (ceR ev xs).1,I (ceR ev xs).2],IL (ceL ev xs),IL (ceX ev xs),I (ceC ev xs)]) H0:=by
 have hB:=BestCircuit_ac ev xs hx
 unfold ceR ceL ceX ceC
 by_cases hC:bcC ev xs=0
 ·rw[if_pos hC]
  unfold bcL at hB ⊢
  obtain ⟨n,rfl,h1,h2,h3,h4,h5,h6,h8,h9,h10,h11⟩:=bc_star hC
  obtain ⟨c,e1,e2,e3⟩:=h5.best h2 h6
  rw[if_pos hC,Int.toNat_natCast,e1] at hB ⊢
  rw[hC] at hB
  obtain ⟨g1,⟨g2,g3⟩,⟨g4,g5⟩⟩:=h5.circ e2
  have hg:isEG n xs=true:=by
   cases hg:isEG n xs
   ·have:=(bc_no hg).1;omega
   ·rfl
  have hS:=l15Sums_ac n n xs c (by omega) h4 e2.wk.lt (by omega)
  have hR:=l01Ratio_ac (sumD xs c) (sumT xs c) (by omega) (by omega)
  rw[e3] at hR
  have hmx:=h5.isMax h2 h6
  obtain ⟨u1,hu1⟩:∃ u:Nat,(maxR xs).1=u:=⟨(maxR xs).1.toNat,by omega⟩
  obtain ⟨u2,hu2⟩:∃ u:Nat,(maxR xs).2=u:=⟨(maxR xs).2.toNat,by omega⟩
  have hr:maxR xs=((u1:Int),(u2:Int)):=Prod.ext hu1 hu2
  have hgc:=hmx.red
  have hce:ceB n xs=(ptL n xs (maxR xs)).all isVal:=by unfold ceB;rw[Int.toNat_natCast]
  rw[hr] at h9 h10 h11 hR hgc hce ⊢
  simp only at h9 h10 hgc hR
  have hP:=TimePotential_ac n xs u1 u2 hg h2 (by omega) h4 (by omega) (by omega) (by simpa [Int.gcd] using hgc) h11 (ceB n xs) hce.symm
  clear hmx h11 hce hgc hr hu1 hu2
  generalize ptL n xs ((u1:Int),(u2:Int))=pt at *
  have k3:((3:Int)=0)=False:=by simp
  have kt:(true=true)=True:=by simp
  generalize ceB n xs=cb at *
  cases cb
  ·simp only[Bool.false_eq_true,if_false,k3] at hP ⊢
   refine AC.of_body 0 Tryz.func8 rfl (fun l h=>absurd rfl h) (fun C hC=>?_)
   have hD:∀ l,¬ C.D0 l:=fun l h=>(hC l).1 h rfl
   simp only[startFr,Tryz.ntmps8,List.length_cons,List.length_nil,Nat.reduceAdd,Nat.reduceSub,List.replicate_succ,List.replicate_zero,List.cons_append,List.nil_append]
   repeat' (first|((first|apply Ba|(apply Bb;(· rfl);(· rfl))|(apply Bc;(· exact nxE))|(apply Bd;(· rfl);(· rfl);(· exact nxE)));(· first|exact Kz rfl rfl (hB) (Aa (Ad (Ad An)) An)|exact Kz rfl rfl (hS) (Aa (Ad (Ad An)) (Ad An))|exact Kz rfl rfl (hR) (Ad (Ad An))|exact Kz rfl rfl (hP) (Aa (Ad (Ad An)) (Aa (Ad (Ad An)) An))|exact Ok.pe))|((first|apply Ca|(apply Cb;(· exact nxE)));(· first|exact Ok.e0))|refine Sx ?_|(refine Sy (fun h=>?_) (fun h=>?_)<;>try (exfalso;omega;done))|refine Sz (fun h=>?_) (fun h=>?_))
   refine Yd ?_
   (apply Le.headZ (hs:=[]) [] rfl)
   all_goals (try dsimp only[srcs])
   (case' hfr=>(repeat' (first|refine La ?_ ?_|exact Lc|refine Lo ?_|refine ⟨⟨_,rfl,?_⟩,?_⟩|refine Lx ?_)))
   all_goals (first|exact Ld|exact trivial|(rfl))
  ·simp only[kt,if_true,eq_self] at hP ⊢
   refine AC.of_body 0 Tryz.func8 rfl (fun l h=>absurd rfl h) (fun C hC=>?_)
   have hD:∀ l,¬ C.D0 l:=fun l h=>(hC l).1 h rfl
   simp only[startFr,Tryz.ntmps8,List.length_cons,List.length_nil,Nat.reduceAdd,Nat.reduceSub,List.replicate_succ,List.replicate_zero,List.cons_append,List.nil_append]
   repeat' (first|((first|apply Ba|(apply Bb;(· rfl);(· rfl))|(apply Bc;(· exact nxE))|(apply Bd;(· rfl);(· rfl);(· exact nxE)));(· first|exact Kz rfl rfl (hB) (Aa (Ad (Ad An)) An)|exact Kz rfl rfl (hS) (Aa (Ad (Ad An)) (Ad An))|exact Kz rfl rfl (hR) (Ad (Ad An))|exact Kz rfl rfl (hP) (Aa (Ad (Ad An)) (Aa (Ad (Ad An)) An))|exact Ok.pe))|((first|apply Ca|(apply Cb;(· exact nxE)));(· first|exact Ok.e0))|refine Sx ?_|(refine Sy (fun h=>?_) (fun h=>?_)<;>try (exfalso;omega;done))|refine Sz (fun h=>?_) (fun h=>?_))
   refine Yd ?_
   (apply Le.headZ (hs:=[]) [] rfl)
   all_goals (try dsimp only[srcs])
   (case' hfr=>(repeat' (first|refine La ?_ ?_|exact Lc|refine Lo ?_|refine ⟨⟨_,rfl,?_⟩,?_⟩|refine Lx ?_)))
   all_goals (first|exact Ld|exact trivial|(rfl))
 ·rw[if_neg hC,if_neg hC,if_neg hC,if_neg hC]
  unfold bcL at hB
  rw[if_neg hC] at hB
  generalize bcC ev xs=bc at *
  refine AC.of_body 0 Tryz.func8 rfl (fun l h=>absurd rfl h) (fun C hC=>?_)
  have hD:∀ l,¬ C.D0 l:=fun l h=>(hC l).1 h rfl
  simp only[startFr,Tryz.ntmps8,List.length_cons,List.length_nil,Nat.reduceAdd,Nat.reduceSub,List.replicate_succ,List.replicate_zero,List.cons_append,List.nil_append]
  repeat' (first|((first|apply Ba|(apply Bb;(· rfl);(· rfl))|(apply Bc;(· exact nxE))|(apply Bd;(· rfl);(· rfl);(· exact nxE)));(· first|exact Kz rfl rfl (hB) (Aa (Ad (Ad An)) An)|exact Ok.pe))|((first|apply Ca|(apply Cb;(· exact nxE)));(· first|exact Ok.e0))|refine Sx ?_|(refine Sy (fun h=>?_) (fun h=>?_)<;>try (exfalso;omega;done))|refine Sz (fun h=>?_) (fun h=>?_))
  refine Yd ?_
  (apply Le.headZ (hs:=[]) [] rfl)
  all_goals (try dsimp only[srcs])
  (case' hfr=>(repeat' (first|refine La ?_ ?_|exact Lc|refine Lo ?_|refine ⟨⟨_,rfl,?_⟩,?_⟩|refine Lx ?_)))
  all_goals (first|exact Ld|exact trivial|(rfl))
set_option maxHeartbeats 4000000 in
theorem iCertifyTime_ac [Mode] (ev:Int) (xs:List Pl) (hx:xs.length≤100000000):AC Tryz.prog 7 [grD ev xs] H0 (.tup [.agg [I (ceR ev xs).1,I (ceR ev xs).2],own1 1 (ceL ev xs).length,.own 1 ⟨1,[]⟩ 0 (ceX ev xs).length,I (ceC ev xs)]) (hp2 (IO (ceL ev xs)) (IO (ceX ev xs))):=by
 have hE:=iIsEventGraph_ac ev xs hx
 unfold ceR ceL ceX ceC
 cases hg:isEG ev xs
 ·rw[(bc_no hg).1]
  simp only[show ((1:Int)=0)=False by simp,if_false]
  rw[hg] at hE
  refine AC.of_body 0 Tryz.func7 rfl (fun l h=>absurd rfl h) (fun C hC=>?_)
  have hD:∀ l,¬ C.D0 l:=fun l h=>(hC l).1 h rfl
  simp only[startFr,Tryz.ntmps7,List.length_cons,List.length_nil,Nat.reduceAdd,Nat.reduceSub,List.replicate_succ,List.replicate_zero,List.cons_append,List.nil_append]
  repeat' (first|((first|apply Ba|(apply Bb;(· rfl);(· rfl))|(apply Bc;(· exact nxE))|(apply Bd;(· rfl);(· rfl);(· exact nxE)));(· first|exact Kz rfl rfl (hE) (Aa (Ad (Ad An)) An)|exact Ok.pe))|((first|apply Ca|(apply Cb;(· exact nxE)));(· first|exact Ok.e0))|refine Sx ?_|(refine Sy (fun h=>?_) (fun h=>?_)<;>try (exfalso;omega;done))|refine Sz (fun h=>?_) (fun h=>?_))
  exact end4nil2 (ds:=[DI 0,DI 0]) (.inl rfl) rfl (by first|exact rT rfl|exact rCA rfl rfl rfl rfl (by simp)|exact rCC rfl rfl rfl rfl rfl) (by rfl) (rT rfl) (rT rfl) (rT rfl) hD
 rw[hg] at hE
 obtain ⟨n,rfl,_⟩:=isEG_ok hg
 have hT:=cycleTime_ac n xs hg
 by_cases hC:bcC n xs=0
 ·rw[if_pos hC]
  rw[hC] at hT
  unfold bcL
  obtain ⟨n',hev,h1,h2,h3,h4,h5,h6,h8,h9,h10,h11⟩:=bc_star hC
  obtain rfl:n=n':=by omega
  obtain ⟨c,e1,e2,e3⟩:=h5.best h2 h6
  rw[h8] at hT
  rw[if_pos hC,Int.toNat_natCast]
  have hmx:=h5.isMax h2 h6
  have hcr:=crOk_max h2 h1 h4 hmx h9 ⟨by omega,h10.2⟩
  have hbe:=hcr.best h1
  have hne:bestC xs (crB xs (maxR xs) (starF (entN (wmT n xs (maxR xs))) n)) n≠[]:=by rw[← hbe,e1];exact e2.ne
  have hbl:(bestC xs (crB xs (maxR xs) (starF (entN (wmT n xs (maxR xs))) n)) n).length≤n:=by
   rw[← hbe,e1];exact e2.len fun i hi=>(okPl_at h4 i hi).1
  have hB:=bestCircuit_ac n xs (maxR xs).1 (maxR xs).2 h1 h2 h3 h4 h9 h10 h11 _ rfl hne
  have hP:=timePotential_ac n xs (maxR xs).1 (maxR xs).2 h2 (by omega) h4 h9 ⟨by omega,h10.2⟩ h11
  rw[hbe]
  have hpt:(ptL n xs ((maxR xs).1,(maxR xs).2))=ptL n xs (maxR xs):=rfl
  rw[hpt] at hP
  have hpl:(ptL n xs (maxR xs)).length=n:=rowF_len
  have hce:ceB n xs=(ptL n xs (maxR xs)).all isVal:=by unfold ceB;rw[Int.toNat_natCast]
  have hA:=areValues_ac (ptL n xs (maxR xs)) (by omega)
  rw[← hce] at hA
  have hP':AC Tryz.prog 34 [grD n xs,.agg [I (maxR xs).1,I (maxR xs).2]] H0 (.tup [own1 1 (ptL n xs (maxR xs)).length,Bo true]) (hp1 (IO (ptL n xs (maxR xs)))):=by rw[hpl];exact hP
  have hB':AC Tryz.prog 36 [grD n xs,.agg [I (maxR xs).1,I (maxR xs).2]] H0 (own1 1 (cN (bestC xs (crB xs (maxR xs) (starF (entN (wmT n xs (maxR xs))) n)) n)).length) (hp1 (IO (cN (bestC xs (crB xs (maxR xs) (starF (entN (wmT n xs (maxR xs))) n)) n)))):=by rw[List.length_map];exact hB
  have hbl':(cN (bestC xs (crB xs (maxR xs) (starF (entN (wmT n xs (maxR xs))) n)) n)).length≤n:=by rw[List.length_map];exact hbl
  clear hmx h11 hpt hB hP hce hne hcr hbe hbl e1 h8
  generalize cN (bestC xs (crB xs (maxR xs) (starF (entN (wmT n xs (maxR xs))) n)) n)=b at *
  generalize ptL n xs (maxR xs)=pt at *
  generalize maxR xs=r at *
  have k3:((3:Int)=0)=False:=by simp
  have kt:(true=true)=True:=by simp
  generalize ceB n xs=cb at *
  cases cb
  ·simp only[Bool.false_eq_true,if_false,k3]
   refine AC.of_body 0 Tryz.func7 rfl (fun l h=>absurd rfl h) (fun C hC=>?_)
   have hD:∀ l,¬ C.D0 l:=fun l h=>(hC l).1 h rfl
   simp only[startFr,Tryz.ntmps7,List.length_cons,List.length_nil,Nat.reduceAdd,Nat.reduceSub,List.replicate_succ,List.replicate_zero,List.cons_append,List.nil_append]
   repeat' (first|((first|apply Ba|(apply Bb;(· rfl);(· rfl))|(apply Bc;(· exact nxE))|(apply Bd;(· rfl);(· rfl);(· exact nxE)));(· first|exact Kz rfl rfl (hE) (Aa (Ad (Ad An)) An)|exact Kz rfl rfl (hT) (Aa (Ad (Ad An)) An)|exact Ez rfl rfl (hA) (Sw Sn)|exact Eo rfl rfl (hP') (Sa (Sd (Sd Sn)) (Sa (Sd (Sd Sn)) Sn))|exact Ok.pe))|((first|apply Ca|(apply Cb;(· exact nxE)));(· first|exact Eo rfl rfl (hP') (Sa (Sd (Sd Sn)) (Sa (Sd (Sd Sn)) Sn))|exact Ok.e0))|refine Sx ?_|(refine Sy (fun h=>?_) (fun h=>?_)<;>try (exfalso;omega;done))|refine Sz (fun h=>?_) (fun h=>?_))
   exact end4nil2 (ds:=[DI 0,DI 0]) (.inl rfl) rfl (by first|exact rT rfl|exact rCA rfl rfl rfl rfl (by simp)|exact rCC rfl rfl rfl rfl rfl) (by rfl) (rT rfl) (rT rfl) (rT rfl) hD
  ·simp only[kt,if_true,eq_self]
   refine AC.of_body 0 Tryz.func7 rfl (fun l h=>absurd rfl h) (fun C hC=>?_)
   have hD:∀ l,¬ C.D0 l:=fun l h=>(hC l).1 h rfl
   simp only[startFr,Tryz.ntmps7,List.length_cons,List.length_nil,Nat.reduceAdd,Nat.reduceSub,List.replicate_succ,List.replicate_zero,List.cons_append,List.nil_append]
   repeat' (first|((first|apply Ba|(apply Bb;(· rfl);(· rfl))|(apply Bc;(· exact nxE))|(apply Bd;(· rfl);(· rfl);(· exact nxE)));(· first|exact Kz rfl rfl (hE) (Aa (Ad (Ad An)) An)|exact Kz rfl rfl (hT) (Aa (Ad (Ad An)) An)|exact Ez rfl rfl (hA) (Sw Sn)|exact Eo rfl rfl (hP') (Sa (Sd (Sd Sn)) (Sa (Sd (Sd Sn)) Sn))|exact Eo rfl rfl (hB') (Sa (Sd (Sd Sn)) (Sa (Sd (Sd Sn)) Sn))|exact Ok.pe))|((first|apply Ca|(apply Cb;(· exact nxE)));(· first|exact Eo rfl rfl (hP') (Sa (Sd (Sd Sn)) (Sa (Sd (Sd Sn)) Sn))|exact Eo rfl rfl (hB') (Sa (Sd (Sd Sn)) (Sa (Sd (Sd Sn)) Sn))|exact Ok.e0))|refine Sx ?_|(refine Sy (fun h=>?_) (fun h=>?_)<;>try (exfalso;omega;done))|refine Sz (fun h=>?_) (fun h=>?_))
   refine Yd ?_
   (apply Le.head [(⟨0,[]⟩,_,_),(⟨1,[]⟩,_,_)])
   (case' hfr|hob=>(repeat' (first|refine La ?_ ?_|exact Lc|refine Lo ?_|refine ⟨⟨_,rfl,?_⟩,?_⟩|refine Lx ?_)))
   all_goals (first|exact Ld|(rfl))
 ·rw[if_neg hC,if_neg hC,if_neg hC,if_neg hC]
  generalize ctR n xs=r at *
  generalize bcC n xs=bc at *
  refine AC.of_body 0 Tryz.func7 rfl (fun l h=>absurd rfl h) (fun C hC=>?_)
  have hD:∀ l,¬ C.D0 l:=fun l h=>(hC l).1 h rfl
  simp only[startFr,Tryz.ntmps7,List.length_cons,List.length_nil,Nat.reduceAdd,Nat.reduceSub,List.replicate_succ,List.replicate_zero,List.cons_append,List.nil_append]
  repeat' (first|((first|apply Ba|(apply Bb;(· rfl);(· rfl))|(apply Bc;(· exact nxE))|(apply Bd;(· rfl);(· rfl);(· exact nxE)));(· first|exact Kz rfl rfl (hE) (Aa (Ad (Ad An)) An)|exact Kz rfl rfl (hT) (Aa (Ad (Ad An)) An)|exact Ok.pe))|((first|apply Ca|(apply Cb;(· exact nxE)));(· first|exact Ok.e0))|refine Sx ?_|(refine Sy (fun h=>?_) (fun h=>?_)<;>try (exfalso;omega;done))|refine Sz (fun h=>?_) (fun h=>?_))
  exact end4nil2 (ds:=[DI 0,DI 0]) (.inl rfl) rfl (by first|exact rT rfl|exact rCA rfl rfl rfl rfl (by simp)|exact rCC rfl rfl rfl rfl rfl) (by rfl) (rT rfl) (rT rfl) (rT rfl) hD
theorem ceL_len [Mode] {ev:Int}{xs:List Pl}:(ceL ev xs).length≤1000:=by
 unfold ceL
 split
 ·rw[List.length_map];exact bcL_len
 ·simp
theorem ceX_len [Mode] {ev:Int}{xs:List Pl}:(ceX ev xs).length≤1000:=by
 unfold ceX
 split
 ·rename_i h
  unfold ceC at h
  by_cases hC:bcC ev xs=0
  ·obtain ⟨n,rfl,h1,h2,_⟩:=bc_star hC
   rw[Int.toNat_natCast]
   have:(ptL n xs (maxR xs)).length=n:=rowF_len
   omega
  ·rw[if_neg hC] at h;exact absurd h hC
 ·simp
end
section
open Go Go.RowKit
attribute [local irreducible] AL AD AW OpOk Le AC thenQ blockQ EndQ
section
variable {P : Program} {o : Oper} {A : Operand → AV} {H : Heap} {new : Nat}
end
def dr15 (code:List Int) (s:Src):DrG:=
 if 20<(dr11 code s).xs.length∧2<(dr11 code s).ev then ⟨(dr11 code s).ev,(dr11 code s).xs.take 20,(dr11 code s).s⟩ else dr11 code s
theorem dr15_ok [Mode] {code:List Int} (hc:CodeOk code) {s:Src} (hs:SrcOk code s):DrOk code (dr15 code s):=by
 have h:=dr11_ok hc hs
 unfold dr15
 split
 ·exact ⟨h.ev,fun p hp=>h.xs p (List.mem_of_mem_take hp),by have:=h.len;simp only[List.length_take];omega,h.s⟩
 ·exact h
set_option maxHeartbeats 1000000 in
theorem l15Draw_ac [Mode] (code:List Int) (hc:CodeOk code) (s:Src) (hs:SrcOk code s):AC Tryz.prog 30 [Bx 3 0] (srcH code s) (.agg [I (dr15 code s).ev,.own 4 ⟨1,[]⟩ 0 (dr15 code s).xs.length]) (heapL [(⟨0,[]⟩,⟨0,[]⟩,srcO code (dr15 code s).s),(⟨1,[]⟩,⟨1,[]⟩,PO (dr15 code s).xs)]):=by
 have hG:=l11Draw_ac code hc s hs
 have hok:=dr11_ok hc hs
 unfold dr15
 generalize dr11 code s=g at *
 obtain ⟨ev,xs,s1⟩:=g
 obtain ⟨_,_,hl,_⟩:=hok
 simp only at *
 show AC _ _ _ (heapL [(⟨0,[]⟩,⟨0,[]⟩,srcO code s)]) _ _
 by_cases hb:20<xs.length∧2<ev
 ·have hb1:=hb.1
  have hb2:=hb.2
  simp only[if_pos hb]
  rw[List.length_take,show min 20 xs.length=20 by omega]
  refine AC.of_body 1 Tryz.func30 rfl (fun l h=>by simp[heapL,upd] at h;simp[h]) (fun C hC=>?_)
  simp only[startFr,Tryz.ntmps30,List.length_cons,List.length_nil,Nat.reduceAdd,Nat.reduceSub,List.replicate_succ,List.replicate_zero,List.cons_append,List.nil_append]
  have hD:∀ l,C.D0 l→l=⟨0,[]⟩:=fun l h=>by have:=(hC l).1 h;simp[heapL,upd] at this;exact this
  repeat' (first|((first|apply Ba|(apply Bb;(· rfl);(· rfl))|(apply Bc;(· exact nxE))|(apply Bd;(· rfl);(· rfl);(· exact nxE)));(· first|exact Ok.sliceToO (m:=20) rfl rfl rfl (by decide) rfl (by omega)|exact Gx hG rfl rfl rfl rfl|exact Ok.pe))|((first|apply Ca|(apply Cb;(· exact nxE)));(· first|exact Gx hG rfl rfl rfl rfl|exact Ok.e0))|refine Sx ?_|(refine Sy (fun h=>?_) (fun h=>?_)<;>try (exfalso;omega;done))|refine Sz (fun h=>?_) (fun h=>?_))
  refine Ya ?_
  refine (Le.takeL ⟨3,[1]⟩ 20 rfl).trans ?_
  (apply Le.head [(⟨0,[]⟩,⟨0,[]⟩,srcO code s1),(⟨1,[]⟩,⟨3,[1]⟩,PO (xs.take 20))])
  (case' hfr|hob=>(repeat' (first|refine La ?_ ?_|exact Lc|refine Lo ?_|refine ⟨⟨_,rfl,?_⟩,?_⟩|refine Lx ?_)))
  all_goals (first|exact Ld|((simp[dobj,List.map_take];done)))
 ·simp only[if_neg hb]
  refine AC.of_body 1 Tryz.func30 rfl (fun l h=>by simp[heapL,upd] at h;simp[h]) (fun C hC=>?_)
  simp only[startFr,Tryz.ntmps30,List.length_cons,List.length_nil,Nat.reduceAdd,Nat.reduceSub,List.replicate_succ,List.replicate_zero,List.cons_append,List.nil_append]
  have hD:∀ l,C.D0 l→l=⟨0,[]⟩:=fun l h=>by have:=(hC l).1 h;simp[heapL,upd] at this;exact this
  repeat' (first|((first|apply Ba|(apply Bb;(· rfl);(· rfl))|(apply Bc;(· exact nxE))|(apply Bd;(· rfl);(· rfl);(· exact nxE)));(· first|exact Gx hG rfl rfl rfl rfl|exact Ok.pe))|((first|apply Ca|(apply Cb;(· exact nxE)));(· first|exact Gx hG rfl rfl rfl rfl|exact Ok.e0))|refine Sx ?_|(refine Sy (fun h=>?_) (fun h=>?_)<;>try (exfalso;omega;done))|refine Sz (fun h=>?_) (fun h=>?_))
  all_goals
   refine Ya ?_
   (apply Le.head [(⟨0,[]⟩,⟨0,[]⟩,srcO code s1),(⟨1,[]⟩,⟨3,[1]⟩,PO xs)])
   (case' hfr|hob=>(repeat' (first|refine La ?_ ?_|exact Lc|refine Lo ?_|refine ⟨⟨_,rfl,?_⟩,?_⟩|refine Lx ?_)))
   all_goals (first|exact Ld|(rfl))
theorem l15DrawZ_ac [Mode] (code:List Int) (hc:CodeOk code) (s:Src) (hs:SrcOk code s):AC Tryz.prog 30 [Bx 3 0] (srcH code s) (grD (dr15 code s).ev (dr15 code s).xs) (srcH code (dr15 code s).s):=
 (l15Draw_ac code hc s hs).frzS rfl (ARs.agg (.cons (.dd _) (.cons (AR.whole rfl (by simp) (List.length_map _)) .nil)))
end
end Go.Proofs.YtkpoclbnnpglfaaGreat
