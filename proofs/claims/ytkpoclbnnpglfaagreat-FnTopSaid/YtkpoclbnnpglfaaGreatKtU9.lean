/-
  Walks in the abstract reading, part 9.
-/
import Derived.Test.YtkpoclbnnpglfaaGreatKtU8
import Derived.Test.YtkpoclbnnpglfaaGreatKtA3
import Derived.Test.YtkpoclbnnpglfaaGreatKtU4
import Derived.Test.YtkpoclbnnpglfaaGreatKtU7
import Derived.Test.YtkpoclbnnpglfaaGreatKtU6
import Derived.Test.YtkpoclbnnpglfaaGreatKtU3
set_option linter.unusedSimpArgs false
set_option linter.unusedVariables false
namespace Go.Proofs.YtkpoclbnnpglfaaGreat
section
open Go Go.RowKit
attribute [local irreducible] AL AD AW OpOk Le AC thenQ blockQ EndQ
section
variable {P : Program} {o : Oper} {A : Operand → AV} {H : Heap} {new : Nat}
end
section
variable {H : Heap} {lent : Loc → Prop} {τ : Loc → Loc} {L : Loc → Prop}
theorem AR.two [Mode] {l a b : Loc} {ra rb : List (List D)} {na nb : Nat} (ho : H l = some ⟨1, [[.own 1 a 0 na], [.own 1 b 0 nb]]⟩) (ha : H a = some (dobj 1 ra)) (hb : H b = some (dobj 1 rb)) (hna : ra.length = na) (hnb : rb.length = nb) (h1 : lent l) (h2 : lent a) (h3 : lent b) : AR H lent τ L (.d (.sl 1 [[.sl 1 ra], [.sl 1 rb]])) (.own 1 l 0 2) := by
  subst hna; subst hnb
  have ka := DRel.dobj (H := H) (lent := lent) (off := 0) (n := ra.length) ha h2 (by omega)
  have kb := DRel.dobj (H := H) (lent := lent) (off := 0) (n := rb.length) hb h3 (by omega)
  rw [List.drop_zero, List.take_of_length_le (Nat.le_refl _)] at ka kb
  refine .d (.own 1 l 0 2 _ _ ho h1 rfl (by simp) (by simp) (fun i q q' hq hq' => ?_) (fun i q q' hq hq' j c c' hc hc' => ?_))
  all_goals
    rw [Nat.zero_add] at hq'
    match i with
    | 0 =>
      simp at hq hq'; subst hq; subst hq'
      first
        | rfl
        | (cases j with
           | succ j => simp at hc
           | zero => simp at hc hc'; subst hc; subst hc'; exact ka)
    | 1 =>
      simp at hq hq'; subst hq; subst hq'
      first
        | rfl
        | (cases j with
           | succ j => simp at hc
           | zero => simp at hc hc'; subst hc; subst hc'; exact kb)
    | i + 2 => simp at hq
end
end
section
open Go Go.RowKit
attribute [local irreducible] AL AD AW OpOk Le AC thenQ blockQ EndQ
end
section
open Go Go.RowKit
attribute [local irreducible] AL AD AW OpOk Le AC thenQ blockQ EndQ
theorem Wk.same [Mode] {xs ys:List Pl} (hl:ys.length=xs.length) (h:∀ i,(plA ys i).f=(plA xs i).f∧(plA ys i).t=(plA xs i).t):∀ {c:List Nat}{u v:Int},Wk xs u c v→Wk ys u c v
 | [],_,_,hw=>hw
 | i :: c,u,v,⟨h1,h2,h3⟩=>⟨by omega,by rw[(h i).1];exact h2,by rw[(h i).2];exact Wk.same hl h h3⟩
theorem Circ.same [Mode] {xs ys:List Pl} (hl:ys.length=xs.length) (h:∀ i,(plA ys i).f=(plA xs i).f∧(plA ys i).t=(plA xs i).t) {c:List Nat} (hc:Circ xs c):Circ ys c:=by
 have e:(c.map fun i=>(plA ys i).f)=c.map fun i=>(plA xs i).f:=List.map_congr_left fun i _=>(h i).1
 refine ⟨hc.ne,?_,by rw[e];exact hc.nd,fun i hi=>?_⟩
 ·have:=hc.wk.same hl h
  simp only[firstF] at this ⊢
  rw[(h (hdN c)).1]
  exact this
 ·have:=hc.mn i hi
  simp only[firstF] at this ⊢
  rw[(h (hdN c)).1,(h i).1]
  exact this
end
section
open Go Go.RowKit
attribute [local irreducible] AL AD AW OpOk Le AC thenQ blockQ EndQ
abbrev prF (a b:List (List Int)) (i j:Nat):Nat→Int:=fun q=>timesB (entN a i q) (entN b q j)
def mulF (a b:List (List Int)) (n:Nat):Nat→Nat→Int:=fun i j=>maxN (prF a b i j) n
def parF (a b:List (List Int)) (n i j m:Nat):Nat→Nat→Int:=fun x y=>if x=i∧y=j then maxN (prF a b i j) m else mixF (mulF a b n) botF i j x y
theorem parF_0 [Mode] {a b:List (List Int)}{n i j:Nat}:parF a b n i j 0=mixF (mulF a b n) botF i j:=by
 funext x y
 unfold parF
 by_cases h:x=i∧y=j
 ·obtain ⟨rfl,rfl⟩:=h
  rw[if_pos ⟨rfl,rfl⟩];unfold mixF;rw[if_neg (by omega)];rfl
 ·rw[if_neg h]
theorem parF_n [Mode] {a b:List (List Int)}{n i j:Nat}:parF a b n i j n=mixF (mulF a b n) botF i (j+1):=by
 funext x y
 rw[mixF_set]
 rfl
theorem parF_at [Mode] {a b:List (List Int)}{n i j m:Nat}:parF a b n i j m i j=maxN (prF a b i j) m:=by simp[parF]
theorem parF_set [Mode] {a b:List (List Int)}{n i j m x y:Nat}:parF a b n i j (m+1) x y=if x=i∧y=j then max (parF a b n i j m i j) (prF a b i j m) else parF a b n i j m x y:=by
 rw[parF_at]
 unfold parF
 by_cases h:x=i∧y=j
 ·rw[if_pos h,if_pos h];rfl
 ·rw[if_neg h,if_neg h,if_neg h]
set_option maxHeartbeats 4000000 in
theorem l02Multiply_ac [Mode] (n:Nat) (a b:List (List Int)) (ha:Rc a n n) (hb:Rc b n n) (hn:n≤1000) (h0:0<n)
  (ht:∀ i q j,i<n→q<n→j<n→entN a i q≠BOT→entN b q j≠BOT→-9223372036854775808≤entN a i q+entN b q j∧entN a i q+entN b q j≤9223372036854775807) :
  AC Tryz.prog 143 [TL a,TL b] H0 (own1 1 n) (hpM 1 (TR (tabF n n (mulF a b n)))):=by
 have hal:=ha.l
 have hbl:=hb.l
 have hz:tabF n n (mixF (mulF a b n) botF 0 0)=botT n n:=by rw[mixF_0,botF_tab]
 obtain ⟨B0,hB1,hB2,hB3⟩:=hb.get h0 h0
 have hBr:=TR_get hB1
 have hBl:(IR B0).length=n:=by rw[IR_len,hB3]
 have hB:AC Tryz.prog 145 [I a.length,I B0.length] H0 (own1 1 n) (hpM 1 (TR (tabF n n (mixF (mulF a b n) botF 0 0)))):=by
  rw[hal,hB3,hz];exact l02Bottom_ac n n (by omega) (by omega)
 refine AC.of_body 0 Tryz.func143 rfl (fun l h=>absurd rfl h) (fun C hC=>?_)
 have hD:∀ l,¬ C.D0 l:=fun l h=>(hC l).1 h rfl
 simp only[startFr,Tryz.ntmps143,List.length_cons,List.length_nil,Nat.reduceAdd,Nat.reduceSub,List.replicate_succ,List.replicate_zero,List.cons_append,List.nil_append]
 repeat' (first|((first|apply Ba|(apply Bb;(· rfl);(· rfl))|(apply Bc;(· exact nxE))|(apply Bd;(· rfl);(· rfl);(· exact nxE)));(· first|exact Tb rfl rfl (hB) (Sd (Sd Sn))|exact Ok.pe))|((first|apply Ca|(apply Cb;(· exact nxE)));(· first|exact Tb rfl rfl (hB) (Sd (Sd Sn))|exact Ok.e0))|refine Sx ?_|(refine Sy (fun h=>?_) (fun h=>?_)<;>try (exfalso;omega;done))|refine Sz (fun h=>?_) (fun h=>?_))
 refine AW.loop (X:={k:Nat // k≤n}) (fun k=>⟨[TL a,TL b,Oo,Oo,Oo,.own 1 ⟨1,[]⟩ 0 n,I (k.1:Nat),Oo,Oo,Oo,Oo,Oo,Oo,Oo,Oo,Oo,Oo,Oo,Oo,Oo,Oo,Oo,Oo,Oo,Oo,Oo,Oo,Oo,Oo,Oo,Oo,Oo,Oo,Oo,Oo,Oo,Oo,Oo,Oo,Oo,Oo,Oo,Oo,Oo,Oo,Oo,Oo,Oo,Oo,Oo,Oo,Oo,Oo,Oo,Oo,Oo,Oo,Oo,Oo,Oo,Oo,Oo,Oo,Oo,Oo,Oo],heapX [] [mi1 ⟨1,[]⟩ (TR (tabF n n (mixF (mulF a b n) botF k.1 0)))],900⟩) (fun k=>n - k.1) ⟨0,Nat.zero_le _⟩ ?_ (fun k=>?_)
 ·
  (apply Le.headG [] [{ l:=⟨1,[]⟩,k:=1,R:=TR (tabF n n (mixF (mulF a b n) botF 0 0)),src:=⟨7,[0]⟩,base:=⟨7,[0]⟩ }] (fun _=>False))
  (case' hlen=>rfl)
  (case' hms=>rfl)
  all_goals (try dsimp only[srcs])
  (case' hfr|hob=>(repeat' (first|refine La ?_ ?_|exact Lc|refine Lo ?_|refine ⟨⟨_,rfl,?_⟩,?_⟩|refine Lx ?_)))
  (case' hok=>first|exact ⟨MI.ok_same rfl (Cg),trivial⟩|exact trivial)
  (case' hN=>rfl)
  (case' hS=>rfl)
  all_goals (first|exact Ld|(rfl))
 obtain ⟨i,hi⟩:=k
 simp only
 by_cases hlt:i<n
 ·
  repeat' (first|((first|apply Ba|(apply Bb;(· rfl);(· rfl))|(apply Bc;(· exact nxE))|(apply Bd;(· rfl);(· rfl);(· exact nxE)));(· first|exact Ok.pe))|((first|apply Ca|(apply Cb;(· exact nxE)));(· first|exact Ok.e0))|refine Sx ?_|(refine Sy (fun h=>?_) (fun h=>?_)<;>try (exfalso;omega;done))|refine Sz (fun h=>?_) (fun h=>?_))
  refine AW.loop (X:={k:Nat // k≤n}) (fun k=>⟨[TL a,TL b,Oo,Oo,Oo,.own 1 ⟨1,[]⟩ 0 n,I i,I (k.1:Nat),Oo,Oo,Oo,Oo,Oo,Oo,Oo,Oo,Oo,Oo,Oo,Oo,Oo,Oo,Oo,Oo,Oo,Oo,Oo,Oo,Oo,Oo,Oo,Oo,Oo,Oo,Oo,Oo,Oo,Oo,Oo,Oo,Oo,Oo,Oo,Oo,Oo,Oo,Oo,Oo,Oo,Oo,Oo,Oo,Oo,Oo,Oo,Oo,Oo,Oo,Oo,Oo,Oo,Oo,Oo,Oo,Oo,Oo],heapX [] [mi1 ⟨1,[]⟩ (TR (tabF n n (mixF (mulF a b n) botF i k.1)))],900⟩) (fun k=>n - k.1) ⟨0,Nat.zero_le _⟩ ?_ (fun k=>?_)
  ·
   (apply Le.headG [] [mi1 ⟨1,[]⟩ (TR (tabF n n (mixF (mulF a b n) botF i 0)))] (fun _=>False))
   (case' hlen=>rfl)
   (case' hms=>rfl)
   all_goals (try dsimp only[srcs])
   (case' hfr|hob=>(repeat' (first|refine La ?_ ?_|exact Lc|refine Lo ?_|refine ⟨⟨_,rfl,?_⟩,?_⟩|refine Lx ?_)))
   (case' hok=>first|exact ⟨MI.ok_same rfl (Cg),trivial⟩|exact trivial)
   (case' hN=>rfl)
   (case' hS=>rfl)
   all_goals (first|exact Ld|(rfl))
  obtain ⟨j,hj⟩:=k
  simp only
  by_cases hlt2:j<n
  ·
   repeat' (first|((first|apply Ba|(apply Bb;(· rfl);(· rfl))|(apply Bc;(· exact nxE))|(apply Bd;(· rfl);(· rfl);(· exact nxE)));(· first|exact Ok.pe))|((first|apply Ca|(apply Cb;(· exact nxE)));(· first|exact Ok.e0))|refine Sx ?_|(refine Sy (fun h=>?_) (fun h=>?_)<;>try (exfalso;omega;done))|refine Sz (fun h=>?_) (fun h=>?_))
   rw[← parF_0]
   refine AW.loop (X:={k:Nat // k≤n}) (fun k=>⟨[TL a,TL b,Oo,Oo,Oo,.own 1 ⟨1,[]⟩ 0 n,I i,I j,I (k.1:Nat),Oo,Oo,Oo,Oo,Oo,Oo,Oo,Oo,Oo,Oo,Oo,Oo,Oo,Oo,Oo,Oo,Oo,Oo,Oo,Oo,Oo,Oo,Oo,Oo,Oo,Oo,Oo,Oo,Oo,Oo,Oo,Oo,Oo,Oo,Oo,Oo,Oo,Oo,Oo,Oo,Oo,Oo,Oo,Oo,Oo,Oo,Oo,Oo,Oo,Oo,Oo,Oo,Oo,Oo,Oo,Oo,Oo],heapX [] [mi1 ⟨1,[]⟩ (TR (tabF n n (parF a b n i j k.1)))],900⟩) (fun k=>n - k.1) ⟨0,Nat.zero_le _⟩ ?_ (fun k=>?_)
   ·
    (apply Le.headG [] [mi1 ⟨1,[]⟩ (TR (tabF n n (parF a b n i j 0)))] (fun _=>False))
    (case' hlen=>rfl)
    (case' hms=>rfl)
    all_goals (try dsimp only[srcs])
    (case' hfr|hob=>(repeat' (first|refine La ?_ ?_|exact Lc|refine Lo ?_|refine ⟨⟨_,rfl,?_⟩,?_⟩|refine Lx ?_)))
    (case' hok=>first|exact ⟨MI.ok_same rfl (Cg),trivial⟩|exact trivial)
    (case' hN=>rfl)
    (case' hS=>rfl)
    all_goals (first|exact Ld|(rfl))
   obtain ⟨q,hq⟩:=k
   simp only
   by_cases hlt3:q<n
   ·
    have hrw:=TRF_get (n:=n) (f:=parF a b n i j q) hlt
    have hli:(IR (rowF n (parF a b n i j q i))).length=n:=by rw[IR_len,rowF_len]
    have hij:=IRF_get (g:=parF a b n i j q i) hlt2
    obtain ⟨R,hR1,hR2,hR3⟩:=ha.get hlt hlt3
    have hRr:=TR_get hR1
    have hRf:=IR_get hR2
    have hRl:(IR R).length=n:=by rw[IR_len,hR3]
    obtain ⟨S,hS1,hS2,hS3⟩:=hb.get hlt3 hlt2
    have hSr:=TR_get hS1
    have hSf:=IR_get hS2
    have hSl:(IR S).length=n:=by rw[IR_len,hS3]
    have hset:(IR (rowF n (parF a b n i j q i))).set j [DI (max (parF a b n i j q i j) (timesB (entN a i q) (entN b q j)))]=IR ((rowF n (parF a b n i j q i)).set j (max (parF a b n i j q i j) (prF a b i j q))):=IR_set
    repeat' (first|((first|apply Ba|(apply Bb;(· rfl);(· rfl))|(apply Bc;(· exact nxE))|(apply Bd;(· rfl);(· rfl);(· exact nxE)));(· first|exact Ok.ldTn rfl rfl rfl hrw hli|exact Ok.ld1 rfl rfl (congrArg (Option.map (dobj 1)) hrw) hij|exact Kz rfl rfl (l01Times_ac (entN a i q) (entN b q j) (ht i q j hlt hlt3 hlt2)) (Ad (Ad An))|exact Ok.st1 rfl rfl (congrArg (Option.map (dobj 1)) hrw) (by rw[hli];omega) (by rw[hij];rfl) rfl rfl hset|exact Ok.pe))|((first|apply Ca|(apply Cb;(· exact nxE)));(· first|exact Ok.st1 rfl rfl (congrArg (Option.map (dobj 1)) hrw) (by rw[hli];omega) (by rw[hij];rfl) rfl rfl hset|exact Ok.e0))|refine Sx ?_|(refine Sy (fun h=>?_) (fun h=>?_)<;>try (exfalso;omega;done))|refine Sz (fun h=>?_) (fun h=>?_))
    refine ⟨⟨q+1,by omega⟩,?_,by simp only;omega⟩
    (apply Le.headG [] [mi1 ⟨1,[]⟩ (TR (tabF n n (parF a b n i j (q+1))))] (fun _=>False))
    (case' hlen=>rfl)
    (case' hms=>rfl)
    all_goals (try dsimp only[srcs])
    (case' hfr|hob=>(repeat' (first|refine La ?_ ?_|exact Lc|refine Lo ?_|refine ⟨⟨_,rfl,?_⟩,?_⟩|refine Lx ?_)))
    (case' hok=>first|exact ⟨MI.ok_row (tabF_set (fun x y _ _=>parF_set)) hrw (by simp) rfl (Cg),trivial⟩|exact trivial)
    (case' hN=>rfl)
    (case' hS=>rfl)
    all_goals (first|exact Ld|(rfl))
   ·
    obtain rfl:q=n:=by omega
    repeat' (first|((first|apply Ba|(apply Bb;(· rfl);(· rfl))|(apply Bc;(· exact nxE))|(apply Bd;(· rfl);(· rfl);(· exact nxE)));(· first|exact Ok.pe))|((first|apply Ca|(apply Cb;(· exact nxE)));(· first|exact Ok.e0))|refine Sx ?_|(refine Sy (fun h=>?_) (fun h=>?_)<;>try (exfalso;omega;done))|refine Sz (fun h=>?_) (fun h=>?_))
    refine ⟨⟨j+1,by omega⟩,?_,by simp only;omega⟩
    simp only
    rw[← parF_n]
    (apply Le.headG [] [mi1 ⟨1,[]⟩ (TR (tabF q q (parF a b q i j q)))] (fun _=>False))
    (case' hlen=>rfl)
    (case' hms=>rfl)
    all_goals (try dsimp only[srcs])
    (case' hfr|hob=>(repeat' (first|refine La ?_ ?_|exact Lc|refine Lo ?_|refine ⟨⟨_,rfl,?_⟩,?_⟩|refine Lx ?_)))
    (case' hok=>first|exact ⟨MI.ok_same rfl (Cg),trivial⟩|exact trivial)
    (case' hN=>rfl)
    (case' hS=>rfl)
    all_goals (first|exact Ld|(rfl))
  ·
   obtain rfl:j=n:=by omega
   repeat' (first|((first|apply Ba|(apply Bb;(· rfl);(· rfl))|(apply Bc;(· exact nxE))|(apply Bd;(· rfl);(· rfl);(· exact nxE)));(· first|exact Ok.pe))|((first|apply Ca|(apply Cb;(· exact nxE)));(· first|exact Ok.e0))|refine Sx ?_|(refine Sy (fun h=>?_) (fun h=>?_)<;>try (exfalso;omega;done))|refine Sz (fun h=>?_) (fun h=>?_))
   refine ⟨⟨i+1,by omega⟩,?_,by simp only;omega⟩
   simp only
   rw[← mixF_row]
   (apply Le.headG [] [mi1 ⟨1,[]⟩ (TR (tabF j j (mixF (mulF a b j) botF i j)))] (fun _=>False))
   (case' hlen=>rfl)
   (case' hms=>rfl)
   all_goals (try dsimp only[srcs])
   (case' hfr|hob=>(repeat' (first|refine La ?_ ?_|exact Lc|refine Lo ?_|refine ⟨⟨_,rfl,?_⟩,?_⟩|refine Lx ?_)))
   (case' hok=>first|exact ⟨MI.ok_same rfl (Cg),trivial⟩|exact trivial)
   (case' hN=>rfl)
   (case' hS=>rfl)
   all_goals (first|exact Ld|(rfl))
 ·
  obtain rfl:i=n:=by omega
  rw[mixF_all]
  repeat' (first|((first|apply Ba|(apply Bb;(· rfl);(· rfl))|(apply Bc;(· exact nxE))|(apply Bd;(· rfl);(· rfl);(· exact nxE)));(· first|exact Ok.pe))|((first|apply Ca|(apply Cb;(· exact nxE)));(· first|exact Ok.e0))|refine Sx ?_|(refine Sy (fun h=>?_) (fun h=>?_)<;>try (exfalso;omega;done))|refine Sz (fun h=>?_) (fun h=>?_))
  refine Ya ?_
  (apply Le.headG [] [{ l:=⟨0,[]⟩,k:=1,R:=TR (tabF i i (mulF a b i)),src:=⟨1,[]⟩,base:=⟨1,[]⟩ }] (fun _=>False))
  (case' hlen=>rfl)
  (case' hms=>rfl)
  all_goals (try dsimp only[srcs])
  (case' hfr|hob=>(repeat' (first|refine La ?_ ?_|exact Lc|refine Lo ?_|refine ⟨⟨_,rfl,?_⟩,?_⟩|refine Lx ?_)))
  (case' hok=>first|exact ⟨MI.ok_same rfl (Cg),trivial⟩|exact trivial)
  (case' hN=>rfl)
  (case' hS=>rfl)
  all_goals (first|exact Ld|(rfl))
end
section
open Go Go.RowKit
attribute [local irreducible] AL AD AW OpOk Le AC thenQ blockQ EndQ
theorem l01Same_ac [Mode] (xs:List Int) (hn:xs.length≤100000000):AC Tryz.prog 173 [IL xs,IL xs] H0 (Bo true) H0:=by
 refine AC.of_body 0 Tryz.func173 rfl (fun l h=>absurd rfl h) (fun C hC=>?_)
 have hD:∀ l,¬ C.D0 l:=fun l h=>(hC l).1 h rfl
 simp only[startFr,Tryz.ntmps173,List.length_cons,List.length_nil,Nat.reduceAdd,Nat.reduceSub,List.replicate_succ,List.replicate_zero,List.cons_append,List.nil_append]
 repeat' (first|((first|apply Ba|(apply Bb;(· rfl);(· rfl))|(apply Bc;(· exact nxE))|(apply Bd;(· rfl);(· rfl);(· exact nxE)));(· first|exact Ok.pe))|((first|apply Ca|(apply Cb;(· exact nxE)));(· first|exact Ok.e0))|refine Sx ?_|(refine Sy (fun h=>?_) (fun h=>?_)<;>try (exfalso;omega;done))|refine Sz (fun h=>?_) (fun h=>?_))
 refine AW.loop (X:={k:Nat // k≤xs.length}) (fun k=>⟨[IL xs,IL xs,Oo,Oo,Oo,I (k.1:Nat),Oo,Oo,Oo,Oo,Oo,Oo,Oo,Oo,Oo,Oo,Oo,Oo,Oo,Oo,Oo,Oo,Oo,Oo,Oo,Oo],heapL [],900⟩) (fun k=>xs.length - k.1) ⟨0,Nat.zero_le _⟩ ?_ (fun k=>?_)
 ·
  (apply Le.headZ [] rfl)
  all_goals (try dsimp only[srcs])
  (case' hfr|hob=>(repeat' (first|refine La ?_ ?_|exact Lc|refine Lo ?_|refine ⟨⟨_,rfl,?_⟩,?_⟩|refine Lx ?_)))
  all_goals (first|(rfl)|exact Ld)
 obtain ⟨k,hk⟩:=k
 simp only
 by_cases hlt:k<xs.length
 ·obtain ⟨x,hx⟩:∃ x,xs[k]? = some x:=⟨xs[k],by simp⟩
  have hrow:=IR_get hx
  repeat' (first|((first|apply Ba|(apply Bb;(· rfl);(· rfl))|(apply Bc;(· exact nxE))|(apply Bd;(· rfl);(· rfl);(· exact nxE)));(· first|exact Ok.pe))|((first|apply Ca|(apply Cb;(· exact nxE)));(· first|exact Ok.e0))|refine Sx ?_|(refine Sy (fun h=>?_) (fun h=>?_)<;>try (exfalso;omega;done))|refine Sz (fun h=>?_) (fun h=>?_))
  refine ⟨⟨k+1,by omega⟩,?_,by simp only;omega⟩
  (apply Le.headZ [] rfl)
  all_goals (try dsimp only[srcs])
  (case' hfr|hob=>(repeat' (first|refine La ?_ ?_|exact Lc|refine Lo ?_|refine ⟨⟨_,rfl,?_⟩,?_⟩|refine Lx ?_)))
  all_goals (first|(rfl)|exact Ld)
 ·
  repeat' (first|((first|apply Ba|(apply Bb;(· rfl);(· rfl))|(apply Bc;(· exact nxE))|(apply Bd;(· rfl);(· rfl);(· exact nxE)));(· first|exact Ok.pe))|((first|apply Ca|(apply Cb;(· exact nxE)));(· first|exact Ok.e0))|refine Sx ?_|(refine Sy (fun h=>?_) (fun h=>?_)<;>try (exfalso;omega;done))|refine Sz (fun h=>?_) (fun h=>?_))
  refine Ya ?_
  (apply Le.headZ (hs:=[]) [] rfl)
  all_goals (try dsimp only[srcs])
  (case' hfr=>(repeat' (first|refine La ?_ ?_|exact Lc|refine Lo ?_|refine ⟨⟨_,rfl,?_⟩,?_⟩|refine Lx ?_)))
  all_goals (first|exact Ld|exact trivial|(rfl))
theorem l02Same_ac [Mode] (t:List (List Int)) (hn:t.length≤100000000) (hr:∀ r∈t,r.length≤100000000):AC Tryz.prog 144 [TL t,TL t] H0 (Bo true) H0:=by
 refine AC.of_body 0 Tryz.func144 rfl (fun l h=>absurd rfl h) (fun C hC=>?_)
 have hD:∀ l,¬ C.D0 l:=fun l h=>(hC l).1 h rfl
 simp only[startFr,Tryz.ntmps144,List.length_cons,List.length_nil,Nat.reduceAdd,Nat.reduceSub,List.replicate_succ,List.replicate_zero,List.cons_append,List.nil_append]
 repeat' (first|((first|apply Ba|(apply Bb;(· rfl);(· rfl))|(apply Bc;(· exact nxE))|(apply Bd;(· rfl);(· rfl);(· exact nxE)));(· first|exact Ok.pe))|((first|apply Ca|(apply Cb;(· exact nxE)));(· first|exact Ok.e0))|refine Sx ?_|(refine Sy (fun h=>?_) (fun h=>?_)<;>try (exfalso;omega;done))|refine Sz (fun h=>?_) (fun h=>?_))
 refine AW.loop (X:={k:Nat // k≤t.length}) (fun k=>⟨[TL t,TL t,Oo,Oo,Oo,I (k.1:Nat),Oo,Oo,Oo,Oo,Oo,Oo,Oo,Oo,Oo,Oo,Oo,Oo,Oo,Oo,Oo,Oo,Oo,Oo,Oo,Oo,Oo],heapL [],900⟩) (fun k=>t.length - k.1) ⟨0,Nat.zero_le _⟩ ?_ (fun k=>?_)
 ·
  (apply Le.headZ [] rfl)
  all_goals (try dsimp only[srcs])
  (case' hfr|hob=>(repeat' (first|refine La ?_ ?_|exact Lc|refine Lo ?_|refine ⟨⟨_,rfl,?_⟩,?_⟩|refine Lx ?_)))
  all_goals (first|(rfl)|exact Ld)
 obtain ⟨k,hk⟩:=k
 simp only
 by_cases hlt:k<t.length
 ·obtain ⟨r,hr1⟩:∃ r,t[k]? = some r:=⟨t[k],by simp⟩
  have hrow:=TR_get hr1
  repeat' (first|((first|apply Ba|(apply Bb;(· rfl);(· rfl))|(apply Bc;(· exact nxE))|(apply Bd;(· rfl);(· rfl);(· exact nxE)));(· first|exact Kz rfl rfl (l01Same_ac r (hr r (List.mem_of_getElem? hr1))) (Ad (Ad An))|exact Ok.pe))|((first|apply Ca|(apply Cb;(· exact nxE)));(· first|exact Ok.e0))|refine Sx ?_|(refine Sy (fun h=>?_) (fun h=>?_)<;>try (exfalso;omega;done))|refine Sz (fun h=>?_) (fun h=>?_))
  refine ⟨⟨k+1,by omega⟩,?_,by simp only;omega⟩
  (apply Le.headZ [] rfl)
  all_goals (try dsimp only[srcs])
  (case' hfr|hob=>(repeat' (first|refine La ?_ ?_|exact Lc|refine Lo ?_|refine ⟨⟨_,rfl,?_⟩,?_⟩|refine Lx ?_)))
  all_goals (first|(rfl)|exact Ld)
 ·
  repeat' (first|((first|apply Ba|(apply Bb;(· rfl);(· rfl))|(apply Bc;(· exact nxE))|(apply Bd;(· rfl);(· rfl);(· exact nxE)));(· first|exact Ok.pe))|((first|apply Ca|(apply Cb;(· exact nxE)));(· first|exact Ok.e0))|refine Sx ?_|(refine Sy (fun h=>?_) (fun h=>?_)<;>try (exfalso;omega;done))|refine Sz (fun h=>?_) (fun h=>?_))
  refine Ya ?_
  (apply Le.headZ (hs:=[]) [] rfl)
  all_goals (try dsimp only[srcs])
  (case' hfr=>(repeat' (first|refine La ?_ ?_|exact Lc|refine Lo ?_|refine ⟨⟨_,rfl,?_⟩,?_⟩|refine Lx ?_)))
  all_goals (first|exact Ld|exact trivial|(rfl))
theorem maxN_congr [Mode] {f g:Nat→Int}:∀ {n:Nat},(∀ k,k<n→f k=g k)→maxN f n=maxN g n
 | 0,_=>rfl
 | n+1,h=>by simp only[maxN];rw[maxN_congr (fun k hk=>h k (by omega)),h n (by omega)]
theorem StarM.px [Mode] {t:List (List Int)}{n:Nat} (h:StarM t n) {m:Nat} (hm:m≤n+1):PX (entN t) n 100000000000 m (powN (entN t) n m):=
 powN_px (by decide) h.bnd m (by have:=h.nn;omega)
theorem StarM.pow [Mode] {t:List (List Int)}{n:Nat} (h:StarM t n) {m:Nat} (hm:m≤n+1) (hl:n≤m):tabF n n (powN (entN t) n m)=tabF n n (starF (entN t) n):=
 tabF_congr fun i j hi hj=>(starF_eq ((h.px hm).star h.np hl) hj hi).symm
theorem StarM.mul [Mode] {t:List (List Int)}{n:Nat} (h:StarM t n) {m:Nat} (hm:m≤n):AC Tryz.prog 143 [TL t,TL (tabF n n (powN (entN t) n m))] H0 (own1 1 n) (hpM 1 (TR (tabF n n (mulF t (tabF n n (powN (entN t) n m)) n)))):=by
 have hn:=h.nn
 refine l02Multiply_ac n t _ h.rc tabF_rc (by omega) h.n0 (fun i q j hi hq hj h1 h2=>?_)
 rw[tabF_ent hq hj] at h2 ⊢
 have g1:=h.bnd q i h1
 have g2:=(h.px (show m≤n+1 by omega)).bnd j q hj hq h2
 omega
theorem StarM.add [Mode] {t:List (List Int)}{n:Nat} (h:StarM t n) {m:Nat}:AC Tryz.prog 142 [TL (tabF n n unitF),TL (tabF n n (mulF t (tabF n n (powN (entN t) n m)) n))] H0 (own1 1 n) (hpM 1 (TR (tabF n n (powN (entN t) n (m+1))))):=by
 have hn:=h.nn
 have hA:=l02Add_ac n n (tabF n n unitF) (tabF n n (mulF t (tabF n n (powN (entN t) n m)) n)) tabF_rc tabF_rc (by omega) (by omega)
 have e:tabF n n (addF (tabF n n unitF) (tabF n n (mulF t (tabF n n (powN (entN t) n m)) n)))=tabF n n (powN (entN t) n (m+1)):=tabF_congr fun i j hi hj=>by
  unfold addF
  rw[tabF_ent hi hj,tabF_ent hi hj]
  show _=powS (entN t) n (powN (entN t) n m) i j
  unfold powS mulF
  rw[maxN_congr (g:=fun q=>timesB (entN t i q) (powN (entN t) n m q j)) (fun q hq=>by show timesB (entN t i q) (entN (tabF n n (powN (entN t) n m)) q j)=_;rw[tabF_ent hq hj])]
 rw[← e]
 exact hA
set_option maxHeartbeats 4000000 in
theorem l03Star_ac [Mode] (t:List (List Int)) (n:Nat) (h:StarM t n):AC Tryz.prog 94 [TL t] H0 (.tup [own1 1 n,Bo true]) (hpM 1 (TR (tabF n n (starF (entN t) n)))):=by
 have hn:=h.nn
 have h0:=h.n0
 have htl:=h.rc.l
 have hU:=l02Unit_ac n (by omega)
 have hul:(tabF n n unitF).length=n:=tabF_len
 have hL:(mRows 1 (TR t)).length=n:=by rw[mTR_len,htl]
 refine AC.of_body 0 Tryz.func94 rfl (fun l h=>absurd rfl h) (fun C hC=>?_)
 have hD:∀ l,¬ C.D0 l:=fun l h=>(hC l).1 h rfl
 simp only[startFr,Tryz.ntmps94,List.length_cons,List.length_nil,Nat.reduceAdd,Nat.reduceSub,List.replicate_succ,List.replicate_zero,List.cons_append,List.nil_append]
 repeat' (first|((first|apply Ba|(apply Bb;(· rfl);(· rfl))|(apply Bc;(· exact nxE))|(apply Bd;(· rfl);(· rfl);(· exact nxE)));(· first|exact Ok.lenD rfl rfl hL|exact Tb rfl rfl (hU) (Sd Sn)|exact Ok.pe))|((first|apply Ca|(apply Cb;(· exact nxE)));(· first|exact Tb rfl rfl (hU) (Sd Sn)|exact Ok.e0))|refine Sx ?_|(refine Sy (fun h=>?_) (fun h=>?_)<;>try (exfalso;omega;done))|refine Sz (fun h=>?_) (fun h=>?_))
 refine AW.loop (X:={k:Nat // k≤n}) (fun k=>⟨[TL t,Oo,Oo,Oo,I n,.own 1 ⟨1,[]⟩ 0 n,I (k.1:Nat),Oo,Oo,Oo,Oo,Oo,Oo,Oo,Oo,Oo,Oo,Oo,Oo,Oo,Oo,Oo,Oo,Oo,Oo,Oo,Oo,Oo,Oo,Oo,Oo,Oo,Oo],heapX [] [mi1 ⟨1,[]⟩ (TR (tabF n n (powN (entN t) n k.1)))],900⟩) (fun k=>n - k.1) ⟨0,Nat.zero_le _⟩ ?_ (fun k=>?_)
 ·
  (apply Le.headG [] [{ l:=⟨1,[]⟩,k:=1,R:=TR (tabF n n (powN (entN t) n 0)),src:=⟨6,[0]⟩,base:=⟨6,[0]⟩ }] (fun _=>False))
  (case' hlen=>rfl)
  (case' hms=>rfl)
  all_goals (try dsimp only[srcs])
  (case' hfr|hob=>(repeat' (first|refine La ?_ ?_|exact Lc|refine Lo ?_|refine ⟨⟨_,rfl,?_⟩,?_⟩|refine Lx ?_)))
  (case' hok=>first|exact ⟨MI.ok_same rfl (Cg),trivial⟩|exact trivial)
  (case' hN=>rfl)
  (case' hS=>rfl)
  all_goals (first|exact Ld|(rfl))
 obtain ⟨m,hk⟩:=k
 simp only
 have hM:=h.mul hk
 have hA:=h.add (m:=m)
 have hpl:(tabF n n (powN (entN t) n m)).length=n:=tabF_len
 have hml:(tabF n n (mulF t (tabF n n (powN (entN t) n m)) n)).length=n:=tabF_len
 by_cases hlt:m<n
 ·
  repeat' (first|((first|apply Ba|(apply Bb;(· rfl);(· rfl))|(apply Bc;(· exact nxE))|(apply Bd;(· rfl);(· rfl);(· exact nxE)));(· first|exact Tb rfl rfl (hU) (Sd Sn)|exact Tb rfl rfl (hM) (Sd (Sm Sn))|exact Tb rfl rfl (hA) (Sm (Sm Sn))|exact Ok.pe))|((first|apply Ca|(apply Cb;(· exact nxE)));(· first|exact Tb rfl rfl (hU) (Sd Sn)|exact Tb rfl rfl (hM) (Sd (Sm Sn))|exact Tb rfl rfl (hA) (Sm (Sm Sn))|exact Ok.e0))|refine Sx ?_|(refine Sy (fun h=>?_) (fun h=>?_)<;>try (exfalso;omega;done))|refine Sz (fun h=>?_) (fun h=>?_))
  refine ⟨⟨m+1,by omega⟩,?_,by simp only;omega⟩
  (apply Le.headG [] [{ l:=⟨1,[]⟩,k:=1,R:=TR (tabF n n (powN (entN t) n (m+1))),src:=⟨908,[0]⟩,base:=⟨908,[0]⟩ }] (fun _=>False))
  (case' hlen=>rfl)
  (case' hms=>rfl)
  all_goals (try dsimp only[srcs])
  (case' hfr|hob=>(repeat' (first|refine La ?_ ?_|exact Lc|refine Lo ?_|refine ⟨⟨_,rfl,?_⟩,?_⟩|refine Lx ?_)))
  (case' hok=>first|exact ⟨MI.ok_same rfl (Cg),trivial⟩|exact trivial)
  (case' hN=>rfl)
  (case' hS=>rfl)
  all_goals (first|exact Ld|(rfl))
 ·
  obtain rfl:n=m:=by omega
  have hS:=l02Same_ac (tabF n n (starF (entN t) n)) (by rw[tabF_len];omega) (fun r hr=>by rw[tabF_rc.r r hr];omega)
  rw[h.pow (Nat.le_refl _) (by omega)] at hA
  rw[h.pow (by omega) (Nat.le_refl _)] at hM hA hpl hml ⊢
  repeat' (first|((first|apply Ba|(apply Bb;(· rfl);(· rfl))|(apply Bc;(· exact nxE))|(apply Bd;(· rfl);(· rfl);(· exact nxE)));(· first|exact Ez rfl rfl (hS) (Sm (Sm Sn))|exact Tb rfl rfl (hU) (Sd Sn)|exact Tb rfl rfl (hM) (Sd (Sm Sn))|exact Tb rfl rfl (hA) (Sm (Sm Sn))|exact Ok.pe))|((first|apply Ca|(apply Cb;(· exact nxE)));(· first|exact Tb rfl rfl (hU) (Sd Sn)|exact Tb rfl rfl (hM) (Sd (Sm Sn))|exact Tb rfl rfl (hA) (Sm (Sm Sn))|exact Ok.e0))|refine Sx ?_|(refine Sy (fun h=>?_) (fun h=>?_)<;>try (exfalso;omega;done))|refine Sz (fun h=>?_) (fun h=>?_))
  refine Yb ?_
  (apply Le.headG [] [{ l:=⟨0,[]⟩,k:=1,R:=TR (tabF n n (starF (entN t) n)),src:=⟨1,[]⟩,base:=⟨1,[]⟩ }] (fun _=>False))
  (case' hlen=>rfl)
  (case' hms=>rfl)
  all_goals (try dsimp only[srcs])
  (case' hfr|hob=>(repeat' (first|refine La ?_ ?_|exact Lc|refine Lo ?_|refine ⟨⟨_,rfl,?_⟩,?_⟩|refine Lx ?_)))
  (case' hok=>first|exact ⟨MI.ok_same rfl (Cg),trivial⟩|exact trivial)
  (case' hN=>rfl)
  (case' hS=>rfl)
  all_goals (first|exact Ld|(rfl))
end
section
open Go Go.RowKit
attribute [local irreducible] AL AD AW OpOk Le AC thenQ blockQ EndQ
theorem entN_out [Mode] {t:List (List Int)}{m n u v:Nat} (h:Rc t m n) (hv:v<m) (hu:¬ u<n):entN t v u=0:=by
 have h1:v<t.length:=by rw[h.l];exact hv
 have h2:(t[v]).length=n:=h.r t[v] (List.getElem_mem h1)
 have h3:(t[v])[u]? = none:=List.getElem?_eq_none (by omega)
 have h4:(t[v]?).getD []=t[v]:=by rw[List.getElem?_eq_getElem h1];rfl
 unfold entN
 rw[h4,h3]
 rfl
theorem entN_out2 [Mode] {t:List (List Int)}{m n u v:Nat} (h:Rc t m n) (hv:¬ v<m):entN t v u=0:=by
 have h3:t[v]? = none:=List.getElem?_eq_none (by have:=h.l;omega)
 unfold entN
 rw[h3]
 rfl
theorem starM_wm [Mode] {n:Nat}{xs:List Pl}{r:Int × Int} (hn:n≤10) (h0:0<n) (hv:∀ p∈xs,okPl n p) (hr:MaxR xs r) (h1:0≤r.1∧r.1≤100000) (h2:0≤r.2∧r.2≤50):StarM (wmT n xs r) n:=by
 have hb:=wm_bnd hv h1 h2
 have hw:WmOk n xs r (wmT n xs r):=wm_ok (M:=500000) (by decide) xs (fun p hp=>⟨hv p hp,(hb p hp).1⟩)
 have hrc:Rc (wmT n xs r) n n:=⟨hw.sq.l,hw.sq.r⟩
 refine ⟨hrc,h0,hn,fun u v hne=>?_,wm_noPos hw hr⟩
 by_cases hvn:v<n
 ·by_cases hun:u<n
  ·rcases hw.some u v hun hvn with e|⟨p,hp,e1,e2,e3⟩
   ·exact absurd e hne
   ·have:=hb p hp
    rw[← e3];omega
  ·rw[entN_out hrc hvn hun];decide
 ·rw[entN_out2 hrc hvn];decide
end
section
open Go Go.RowKit
attribute [local irreducible] AL AD AW OpOk Le AC thenQ blockQ EndQ
theorem rowF_succ [Mode] {g:Nat→Int}{k:Nat}:rowF (k+1) g=rowF k g++[g k]:=by simp[rowF,List.range_succ]
theorem StarM.starB [Mode] {t:List (List Int)}{n:Nat} (h:StarM t n) {i j:Nat} (hi:i<n) (hj:j<n):starF (entN t) n i j=BOT∨(-102400000000000≤starF (entN t) n i j∧starF (entN t) n i j≤1000000000000):=by
 rw[h.star hi hj];exact h.cells (Nat.le_refl n) hi hj
end
section
open Go Go.RowKit
attribute [local irreducible] AL AD AW OpOk Le AC thenQ blockQ EndQ
end
section
open Go Go.RowKit
attribute [local irreducible] AL AD AW OpOk Le AC thenQ blockQ EndQ
theorem bc_star [Mode] {ev:Int}{xs:List Pl} (hC:bcC ev xs=0):∃ n:Nat,ev=n∧1≤n∧n≤10∧xs.length≤30∧(∀ p∈xs,okPl n p)∧Live xs n∧hasC xs∧ctR ev xs=maxR xs∧(0≤(maxR xs).1∧(maxR xs).1≤100000)∧(0<(maxR xs).2∧(maxR xs).2≤50)∧StarM (wmT n xs (maxR xs)) n:=by
 have h0:liveI ev xs=0:=by
  unfold bcC at hC
  by_cases h:liveI ev xs=0
  ·exact h
  ·rw[if_neg h] at hC;exact hC
 have hc:hasC xs:=by
  unfold bcC at hC
  rw[if_pos h0] at hC
  exact Classical.byContradiction fun h=>by rw[if_neg h] at hC;exact absurd hC (by decide)
 obtain ⟨n,rfl,h1,h2,h3,h4,h5⟩:=live_ok h0
 obtain ⟨c,e1,e2,e3⟩:=h5.best h2 hc
 obtain ⟨g1,g2,g3⟩:=h5.circ e2
 obtain ⟨q1,q2,_⟩:=h5.red h2 g1 e2.wk.lt g3.1
 rw[e3] at q1 q2
 exact ⟨n,rfl,h1,h2,h3,h4,h5,hc,by unfold ctR;rw[if_pos hC],q1,q2,starM_wm h2 h1 h4 (h5.isMax h2 hc) q1 ⟨by omega,q2.2⟩⟩
end
section
open Go Go.RowKit
attribute [local irreducible] AL AD AW OpOk Le AC thenQ blockQ EndQ
end
section
open Go Go.RowKit
attribute [local irreducible] AL AD AW OpOk Le AC thenQ blockQ EndQ
theorem bc_no [Mode] {ev:Int}{xs:List Pl} (h:isEG ev xs=false):bcC ev xs=1∧ctR ev xs=(0,0):=by
 have h1:liveI ev xs=1:=by unfold liveI;rw[h];rfl
 have h2:bcC ev xs=1:=by unfold bcC;rw[h1];rfl
 exact ⟨h2,by unfold ctR;rw[h2];rfl⟩
end
section
open Go Go.RowKit
attribute [local irreducible] AL AD AW OpOk Le AC thenQ blockQ EndQ
end
section
open Go Go.RowKit
theorem gap_nn [Mode] {n:Nat}{xs:List Pl}{r:Int × Int}{t:List (List Int)} (hw:WmOk n xs r t) (hnp:NoPos (entN t) n) {s:Nat→Nat→Int} (hs:StarOk (entN t) n s) {f u:Nat} (hf:f<n) (hu:u<n) {p:Pl} (hp:p∈xs) (h1:p.f=f) (h2:p.t=u) (hne:s f u≠BOT):pw r.1 r.2 p+s f u≤0:=by
 have ha:=hw.all p hp
 rw[h1,h2,Int.toNat_natCast,Int.toNat_natCast] at ha
 have hwm:WM (entN t) f [] u:=ha.1
 have hwv:wM (entN t) f [] u=entN t u f:=rfl
 rcases hs.some u f hu hf with e|⟨e1,e2⟩|⟨c,c1,c2,c3⟩
 ·exact absurd e hne
 ·subst e1
  have:=hnp u [] hu (by simp) hwm
  omega
 ·have h3:WM (entN t) u (c++f :: []) u:=WM.app.2 ⟨c1,hwm⟩
  have h4:=hnp u _ hu (fun x hx=>by
   rcases List.mem_append.1 hx with h|h
   ·exact c2 x h
   ·simp at h;omega) h3
  rw[wM_app] at h4
  omega
end
section
open Go Go.RowKit
attribute [local irreducible] AL AD AW OpOk Le AC thenQ blockQ EndQ
end
section
open Go Go.RowKit
attribute [local irreducible] AL AD AW OpOk Le AC thenQ blockQ EndQ
def mkF (k:Int):Nat→Int:=fun j=>k+(j:Int)
def mixR (f g:Nat→Int) (K:Nat):Nat→Int:=fun j=>if j<K then f j else g j
theorem mixR_0 [Mode] {f g:Nat→Int}{n:Nat}:rowF n (mixR f g 0)=rowF n g:=rowF_congr fun j _=>by simp[mixR]
theorem mixR_all [Mode] {f g:Nat→Int}{n:Nat}:rowF n (mixR f g n)=rowF n f:=rowF_congr fun j hj=>by simp[mixR,hj]
theorem mixR_set [Mode] {f g:Nat→Int}{n K:Nat}:(rowF n (mixR f g K)).set K (f K)=rowF n (mixR f g (K+1)):=by
 rw[rowF_set]
 refine rowF_congr fun b _=>?_
 unfold mixR
 by_cases e:b=K
 ·subst e;simp
 ·rw[if_neg e]
  by_cases h:b<K
  ·rw[if_pos h,if_pos (by omega)]
  ·rw[if_neg h,if_neg (by omega)]
def offT (t:List (List Int)) (i:Nat):Nat:=((t.take i).map List.length).sum
def mkRow (k:Int) (r:List Int):List Int:=rowF r.length (mkF k)
def mkAt (t:List (List Int)) (k:Int) (i:Nat):List (List Int):=t.mapIdx fun j r=>if j<i then mkRow (k+offT t j) r else r
theorem mkAt_len [Mode] {t:List (List Int)}{k:Int}{i:Nat}:(mkAt t k i).length=t.length:=by simp[mkAt]
end
section
open Go Go.RowKit
attribute [local irreducible] AL AD AW OpOk Le AC thenQ blockQ EndQ
theorem mgF_0 [Mode] {n:Nat}{f:Nat→Int}:dobj 1 (List.replicate n [DI 0])=IO (rowF n (mixR f (fun _=>0) 0)):=by
 rw[mixR_0]
 unfold IO dobj
 simp[rowF,List.map_const']
end
section
open Go Go.RowKit
attribute [local irreducible] AL AD AW OpOk Le AC thenQ blockQ EndQ
def isCr (s:Nat→Nat→Int) (u1 u2:Int) (p:Pl):Bool:=!decide (s p.f.toNat p.t.toNat=BOT)&&decide (pw u1 u2 p+s p.f.toNat p.t.toNat=0)
end
section
open Go Go.RowKit
theorem growC_pre {xs:List Pl}{rn rd over:Int}:∀ {k:Nat}{l:List Nat},growC xs rn rd over k l≠[]→∃ e,growC xs rn rd over k l=l++e
 | 0,_,h=>by simp[growC] at h
 | k+1,l,h=>by
  unfold growC at h ⊢
  split
  ·rename_i h1
   rw[if_pos h1] at h
   split
   ·exact ⟨[],by simp⟩
   ·rename_i h2;rw[if_neg h2] at h;exact absurd rfl h
  ·rename_i h1
   rw[if_neg h1] at h
   obtain ⟨i,hi,h2,h3⟩:=tryAll_mem h
   rw[h3]
   split at h2
   ·exact absurd rfl h2
   ·rename_i hs
    rw[if_neg hs]
    obtain ⟨e,he⟩:=growC_pre h2
    exact ⟨i :: e,by rw[he];simp⟩
theorem tryAll_congr {α:Type}{f g:Nat→List α}:∀ {l:List Nat},(∀ v∈l,f v=g v)→tryAll f l=tryAll g l
 | [],_=>rfl
 | v :: r,h=>by
  unfold tryAll
  rw[h v (by simp),tryAll_congr fun x hx=>h x (by simp[hx])]
theorem star_super {W:Nat→Nat→Int}{n:Nat}{s:Nat→Nat→Int} (hs:StarOk W n s) {u m v:Nat} (hu:u<n) (hm:m<n) (hv:v<n) (h1:s m u≠BOT) (h2:s v m≠BOT):s v u≠BOT∧s m u+s v m≤s v u:=by
 rcases hs.some u m hu hm with e|⟨e,e2⟩|⟨c,c1,c2,c3⟩
 ·exact absurd e h1
 ·subst e;exact ⟨h2,by omega⟩
 ·rcases hs.some m v hm hv with e|⟨e,e2⟩|⟨c',d1,d2,d3⟩
  ·exact absurd e h2
  ·subst e;exact ⟨h1,by omega⟩
  ·have:=hs.all u v (c++m :: c') hu hv (fun x hx=>by
    rcases List.mem_append.1 hx with h|h
    ·exact c2 x h
    ·rcases List.mem_cons.1 h with rfl|h
     ·exact hm
     ·exact d2 x h) (WM.app.2 ⟨c1,d1⟩)
   rw[wM_app] at this
   exact ⟨this.1,by omega⟩
theorem wk_wm {n:Nat}{xs:List Pl}{r:Int × Int}{t:List (List Int)} (hw:WmOk n xs r t) (hv:∀ p∈xs,okPl n p):∀ {c:List Nat}{u v:Int},Wk xs u c v→c≠[]→∃ c',WM (entN t) u.toNat c' v.toNat∧(∀ x∈c',x<n)∧wgt xs r.1 r.2 c≤wM (entN t) u.toNat c' v.toNat
 | [],_,_,_,h=>absurd rfl h
 | [i],u,v,⟨h1,h2,h3⟩,_=>by
  have hp:plA xs i∈xs:=by
   have e:plA xs i=xs[i]:=by simp[plA,h1]
   rw[e];exact List.getElem_mem h1
  have ha:=hw.all _ hp
  have h3':(plA xs i).t=v:=h3
  subst h2 h3'
  exact ⟨[],ha.1,by simp,by simp only[wgt,wM];omega⟩
 | i :: j :: c,u,v,⟨h1,h2,h3⟩,_=>by
  have hp:plA xs i∈xs:=by
   have e:plA xs i=xs[i]:=by simp[plA,h1]
   rw[e];exact List.getElem_mem h1
  have ha:=hw.all _ hp
  obtain ⟨c',g1,g2,g3⟩:=wk_wm hw hv h3 (by simp)
  obtain ⟨_,⟨k1,k2⟩,_⟩:=hv _ hp
  subst h2
  refine ⟨(plA xs i).t.toNat :: c',⟨ha.1,g1⟩,fun x hx=>?_,?_⟩
  ·rcases List.mem_cons.1 hx with rfl|h
   ·omega
   ·exact g2 x h
  ·have e:wgt xs r.1 r.2 (i :: j :: c)=pw r.1 r.2 (plA xs i)+wgt xs r.1 r.2 (j :: c):=rfl
   rw[e]
   simp only[wM]
   omega
structure CrOk (xs:List Pl) (n:Nat) (r:Int × Int) (s:Nat→Nat→Int):Prop where
 v:∀ p∈xs,okPl n p
 mx:MaxR xs r
 w:WmOk n xs r (wmT n xs r)
 np:NoPos (entN (wmT n xs r)) n
 st:StarOk (entN (wmT n xs r)) n s
abbrev crB (xs:List Pl) (r:Int × Int) (s:Nat→Nat→Int) (i:Nat):Bool:=isCr s r.1 r.2 (plA xs i)
theorem crB_iff {xs:List Pl}{r:Int × Int}{s:Nat→Nat→Int}{i:Nat}:crB xs r s i=true↔s (plA xs i).f.toNat (plA xs i).t.toNat≠BOT∧pw r.1 r.2 (plA xs i)+s (plA xs i).f.toNat (plA xs i).t.toNat=0:=by
 unfold crB isCr
 simp
theorem CrOk.at {xs:List Pl}{n:Nat}{r:Int × Int}{s:Nat→Nat→Int} (h:CrOk xs n r s) {i:Nat} (hi:i<xs.length):(0≤(plA xs i).f∧(plA xs i).f.toNat<n)∧(0≤(plA xs i).t∧(plA xs i).t.toNat<n)∧plA xs i∈xs:=by
 have hp:plA xs i∈xs:=by
  have e:plA xs i=xs[i]:=by simp[plA,hi]
  rw[e];exact List.getElem_mem hi
 obtain ⟨⟨k1,k2⟩,⟨k3,k4⟩,_⟩:=h.v _ hp
 exact ⟨⟨k1,by omega⟩,⟨k3,by omega⟩,hp⟩
theorem CrOk.crit {xs:List Pl}{n:Nat}{r:Int × Int}{s:Nat→Nat→Int} (h:CrOk xs n r s) {c:List Nat} (hc:Circ xs c) (hz:wgt xs r.1 r.2 c=0) {i:Nat} (hi:i∈c):crB xs r s i=true:=by
 have hil:=hc.wk.lt i hi
 obtain ⟨⟨k1,k2⟩,⟨k3,k4⟩,hp⟩:=h.at hil
 obtain ⟨a,b,rfl⟩:=List.append_of_mem hi
 obtain ⟨m,w1,w2,w3,w4⟩:=Wk.app.1 hc.wk
 have hwk:Wk xs (plA xs i).t (b++a) (plA xs i).f:=Wk.app.2 ⟨_,w4,w3▸w1⟩
 have hwt:wgt xs r.1 r.2 (b++a)=- pw r.1 r.2 (plA xs i):=by
  rw[wgt_app] at hz ⊢
  have e:wgt xs r.1 r.2 (i :: b)=pw r.1 r.2 (plA xs i)+wgt xs r.1 r.2 b:=rfl
  omega
 rw[crB_iff]
 by_cases hne:b++a=[]
 ·rw[hne] at hwk hwt
  have e:(plA xs i).t=(plA xs i).f:=hwk
  have hd:=star_dia0 h.np h.st.some h.st.dia k2
  have hd2:=(h.st.dia _ k2).1
  rw[e,hd]
  have e0:wgt xs r.1 r.2 ([]:List Nat)=0:=rfl
  exact ⟨by decide,by omega⟩
 ·obtain ⟨c',g1,g2,g3⟩:=wk_wm h.w h.v hwk hne
  have ha:=h.st.all _ _ c' k4 k2 g2 g1
  have hg:=gap_nn h.w h.np h.st (f:=(plA xs i).f.toNat) (u:=(plA xs i).t.toNat) k2 k4 hp (by omega) (by omega) ha.1
  exact ⟨ha.1,by omega⟩
theorem CrOk.back {xs:List Pl}{n:Nat}{r:Int × Int}{s:Nat→Nat→Int} (h:CrOk xs n r s):∀ {c:List Nat}{u v:Int},Wk xs u c v→c≠[]→(∀ i∈c,crB xs r s i=true)→(v.toNat<n)∧s u.toNat v.toNat≠BOT∧- wgt xs r.1 r.2 c≤s u.toNat v.toNat
 | [],_,_,_,hn,_=>absurd rfl hn
 | [i],u,v,⟨h1,h2,h3⟩,_,ha=>by
  have h3':(plA xs i).t=v:=h3
  subst h2 h3'
  have hcr:=crB_iff.1 (ha i (by simp))
  refine ⟨(h.at h1).2.1.2,hcr.1,?_⟩
  have e:wgt xs r.1 r.2 [i]=pw r.1 r.2 (plA xs i)+0:=rfl
  omega
 | i :: j :: c,u,v,⟨h1,h2,h3⟩,_,ha=>by
  obtain ⟨g0,g1,g2⟩:=h.back h3 (by simp) (fun x hx=>ha x (by simp[hx]))
  obtain ⟨⟨k1,k2⟩,⟨k3,k4⟩,hp⟩:=h.at h1
  have hcr:=crB_iff.1 (ha i (by simp))
  subst h2
  have:=star_super h.st (u:=v.toNat) (m:=(plA xs i).t.toNat) (v:=(plA xs i).f.toNat) g0 k4 k2 g1 hcr.1
  have e:wgt xs r.1 r.2 (i :: j :: c)=pw r.1 r.2 (plA xs i)+wgt xs r.1 r.2 (j :: c):=rfl
  exact ⟨g0,this.1,by omega⟩
theorem CrOk.zero {xs:List Pl}{n:Nat}{r:Int × Int}{s:Nat→Nat→Int} (h:CrOk xs n r s) {c:List Nat} (hc:Circ xs c) (ha:∀ i∈c,crB xs r s i=true):wgt xs r.1 r.2 c=0:=by
 obtain ⟨g0,g1,g2⟩:=h.back hc.wk hc.ne ha
 have hd:=star_dia0 h.np h.st.some h.st.dia g0
 have:=h.mx.le c hc
 omega
def goC (xs:List Pl) (cr:Nat→Bool):Nat→List Nat→List Nat
 | 0,_=>[]
 | k+1,l=>tryAll (fun i=>if cr i=false∨skipC xs l i then [] else if (plA xs i).t=firstF xs l then l++[i] else goC xs cr k (l++[i])) (List.range' 0 xs.length)
def bestC (xs:List Pl) (cr:Nat→Bool) (n:Nat):List Nat:=
 tryAll (fun i=>if cr i=false then [] else if (plA xs i).t=(plA xs i).f then [i] else if (plA xs i).t<(plA xs i).f then [] else goC xs cr n [i]) (List.range' 0 xs.length)
theorem lastT_snoc {xs:List Pl}{l:List Nat}{i:Nat}:lastT xs (l++[i])=(plA xs i).t:=by unfold lastT;rw[lsN_snoc]
theorem firstF_snoc {xs:List Pl}{l:List Nat}{i:Nat} (h:l≠[]):firstF xs (l++[i])=firstF xs l:=by
 cases l with
 | nil=>exact absurd rfl h
 | cons a l=>rfl
theorem CrOk.none {xs:List Pl}{n:Nat}{r:Int × Int}{s:Nat→Nat→Int} (h:CrOk xs n r s) {k:Nat}{l:List Nat} (hp:PathC xs l) {i:Nat} (hi:i∈l) (hcr:crB xs r s i=false):growC xs r.1 r.2 (-1) k l=[]:=by
 refine Classical.byContradiction fun hne=>?_
 obtain ⟨g1,g2⟩:=growC_sound hp hne
 obtain ⟨e,he⟩:=growC_pre hne
 have hz:wgt xs r.1 r.2 (growC xs r.1 r.2 (-1) k l)=0:=by
  have:=h.mx.le _ g1;omega
 have:=h.crit g1 hz (i:=i) (by rw[he];simp[hi])
 rw[hcr] at this;cases this
theorem PathC.circ {xs:List Pl}{l:List Nat} (hp:PathC xs l) (h:lastT xs l=firstF xs l):Circ xs l:=⟨hp.ne,by have:=hp.wk;rwa [h] at this,hp.nd,hp.mn⟩
theorem CrOk.grow {xs:List Pl}{n:Nat}{r:Int × Int}{s:Nat→Nat→Int} (h:CrOk xs n r s):∀ (k:Nat) (l:List Nat),PathC xs l→lastT xs l≠firstF xs l→(∀ j∈l,crB xs r s j=true)→k+l.length=n+1→growC xs r.1 r.2 (-1) k l=goC xs (crB xs r s) k l
 | 0,_,_,_,_,_=>rfl
 | k+1,l,hp,hne,ha,hk=>by
  unfold growC goC
  rw[if_neg hne]
  refine tryAll_congr fun i hi=>?_
  simp only[List.mem_range'_1] at hi
  by_cases hs:skipC xs l i
  ·rw[if_pos hs,if_pos (.inr hs)]
  ·have hp2:=hp.snoc (by omega) hne hs
   rw[if_neg hs]
   cases hcr:crB xs r s i with
   | false=>
    rw[if_pos (.inl rfl)]
    exact h.none hp2 (by simp) hcr
   | true=>
    rw[if_neg (by rintro (h|h);cases h;exact hs h)]
    have ha2:∀ j∈l++[i],crB xs r s j=true:=fun j hj=>by
     rcases List.mem_append.1 hj with hj|hj
     ·exact ha j hj
     ·simp at hj;subst hj;exact hcr
    by_cases hcl:(plA xs i).t=firstF xs l
    ·rw[if_pos hcl]
     have hcl2:lastT xs (l++[i])=firstF xs (l++[i]):=by rw[lastT_snoc,firstF_snoc hp.ne,hcl]
     have hci:=hp2.circ hcl2
     have hln:=hci.len (n:=n) (fun j hj=>by have:=h.at hj;omega)
     simp at hln
     obtain ⟨k',rfl⟩:∃ k',k=k'+1:=⟨k - 1,by omega⟩
     unfold growC
     rw[if_pos hcl2,if_pos (by rw[h.zero hci ha2];decide)]
    ·rw[if_neg hcl]
     exact h.grow k (l++[i]) hp2 (by rw[lastT_snoc,firstF_snoc hp.ne];exact hcl) ha2 (by simp;omega)
theorem CrOk.best {xs:List Pl}{n:Nat}{r:Int × Int}{s:Nat→Nat→Int} (h:CrOk xs n r s) (h0:0<n):overC xs r.1 r.2 (-1) n=bestC xs (crB xs r s) n:=by
 unfold overC bestC
 refine tryAll_congr fun i hi=>?_
 simp only[List.mem_range'_1] at hi
 by_cases hlt:(plA xs i).t<(plA xs i).f
 ·rw[if_pos hlt]
  by_cases hc0:crB xs r s i=false
  ·rw[if_pos hc0]
  ·rw[if_neg hc0,if_neg (by omega),if_pos hlt]
 ·rw[if_neg hlt]
  have hp:PathC xs [i]:=PathC.one (by omega) hlt
  cases hcr:crB xs r s i with
  | false=>
   rw[if_pos rfl]
   exact h.none hp (by simp) hcr
  | true=>
   rw[if_neg (by decide)]
   have ha:∀ j∈[i],crB xs r s j=true:=fun j hj=>by simp at hj;subst hj;exact hcr
   by_cases heq:(plA xs i).t=(plA xs i).f
   ·rw[if_pos heq]
    obtain ⟨k,rfl⟩:∃ k,n=k+1:=⟨n - 1,by omega⟩
    have hcl:lastT xs [i]=firstF xs [i]:=heq
    unfold growC
    rw[if_pos hcl,if_pos (by rw[h.zero (hp.circ hcl) ha];decide)]
   ·rw[if_neg heq,if_neg hlt]
    exact h.grow n [i] hp heq ha (by simp)
end
end Go.Proofs.YtkpoclbnnpglfaaGreat
