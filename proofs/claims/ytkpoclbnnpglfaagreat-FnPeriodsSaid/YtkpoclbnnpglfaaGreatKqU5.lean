/-
  Walks in the abstract reading, part 5.
-/
import Derived.Test.YtkpoclbnnpglfaaGreatKqU4
import Derived.Test.YtkpoclbnnpglfaaGreatKqU3
import Derived.Test.YtkpoclbnnpglfaaGreatKqA3
set_option linter.unusedSimpArgs false
set_option linter.unusedVariables false
namespace Go.Proofs.YtkpoclbnnpglfaaGreat
section
open Go Go.RowKit
attribute [local irreducible] AL AD AW OpOk Le AC thenQ blockQ EndQ
abbrev prF (a b:List (List Int)) (i j:Nat):Nat→Int:=fun q=>timesB (entN a i q) (entN b q j)
def mulF (a b:List (List Int)) (n:Nat):Nat→Nat→Int:=fun i j=>maxN (prF a b i j) n
def parF (a b:List (List Int)) (n i j m:Nat):Nat→Nat→Int:=fun x y=>if x=i∧y=j then maxN (prF a b i j) m else mixF (mulF a b n) botF i j x y
theorem parF_0 [Mode] {a b:List (List Int)}{n i j:Nat}:parF a b n i j 0=mixF (mulF a b n) botF i j:=by
 funext x y
 unfold parF
 by_cases h:x=i∧y=j
 ·obtain ⟨rfl,rfl⟩:=h
  rw[if_pos ⟨rfl,rfl⟩];unfold mixF;rw[if_neg (by omega)];rfl
 ·rw[if_neg h]
theorem parF_n [Mode] {a b:List (List Int)}{n i j:Nat}:parF a b n i j n=mixF (mulF a b n) botF i (j+1):=by
 funext x y
 rw[mixF_set]
 rfl
theorem parF_at [Mode] {a b:List (List Int)}{n i j m:Nat}:parF a b n i j m i j=maxN (prF a b i j) m:=by simp[parF]
theorem parF_set [Mode] {a b:List (List Int)}{n i j m x y:Nat}:parF a b n i j (m+1) x y=if x=i∧y=j then max (parF a b n i j m i j) (prF a b i j m) else parF a b n i j m x y:=by
 rw[parF_at]
 unfold parF
 by_cases h:x=i∧y=j
 ·rw[if_pos h,if_pos h];rfl
 ·rw[if_neg h,if_neg h,if_neg h]
set_option maxHeartbeats 4000000 in
theorem l02Multiply_ac [Mode] (n:Nat) (a b:List (List Int)) (ha:Rc a n n) (hb:Rc b n n) (hn:n≤1000) (h0:0<n)
  (ht:∀ i q j,i<n→q<n→j<n→entN a i q≠BOT→entN b q j≠BOT→-9223372036854775808≤entN a i q+entN b q j∧entN a i q+entN b q j≤9223372036854775807) :
  AC Tryz.prog 143 [TL a,TL b] H0 (own1 1 n) (hpM 1 (TR (tabF n n (mulF a b n)))):=by
 have hal:=ha.l
 have hbl:=hb.l
 have hz:tabF n n (mixF (mulF a b n) botF 0 0)=botT n n:=by rw[mixF_0,botF_tab]
 obtain ⟨B0,hB1,hB2,hB3⟩:=hb.get h0 h0
 have hBr:=TR_get hB1
 have hBl:(IR B0).length=n:=by rw[IR_len,hB3]
 have hB:AC Tryz.prog 145 [I a.length,I B0.length] H0 (own1 1 n) (hpM 1 (TR (tabF n n (mixF (mulF a b n) botF 0 0)))):=by
  rw[hal,hB3,hz];exact l02Bottom_ac n n (by omega) (by omega)
 refine AC.of_body 0 Tryz.func143 rfl (fun l h=>absurd rfl h) (fun C hC=>?_)
 have hD:∀ l,¬ C.D0 l:=fun l h=>(hC l).1 h rfl
 simp only[startFr,Tryz.ntmps143,List.length_cons,List.length_nil,Nat.reduceAdd,Nat.reduceSub,List.replicate_succ,List.replicate_zero,List.cons_append,List.nil_append]
 repeat' (first|((first|apply Ba|(apply Bb;(· rfl);(· rfl))|(apply Bc;(· exact nxE))|(apply Bd;(· rfl);(· rfl);(· exact nxE)));(· first|exact Tb rfl rfl (hB) (Sd (Sd Sn))|exact Ok.pe))|((first|apply Ca|(apply Cb;(· exact nxE)));(· first|exact Tb rfl rfl (hB) (Sd (Sd Sn))|exact Ok.e0))|refine Sx ?_|(refine Sy (fun h=>?_) (fun h=>?_)<;>try (exfalso;omega;done))|refine Sz (fun h=>?_) (fun h=>?_))
 refine AW.loop (X:={k:Nat // k≤n}) (fun k=>⟨[TL a,TL b,Oo,Oo,Oo,.own 1 ⟨1,[]⟩ 0 n,I (k.1:Nat),Oo,Oo,Oo,Oo,Oo,Oo,Oo,Oo,Oo,Oo,Oo,Oo,Oo,Oo,Oo,Oo,Oo,Oo,Oo,Oo,Oo,Oo,Oo,Oo,Oo,Oo,Oo,Oo,Oo,Oo,Oo,Oo,Oo,Oo,Oo,Oo,Oo,Oo,Oo,Oo,Oo,Oo,Oo,Oo,Oo,Oo,Oo,Oo,Oo,Oo,Oo,Oo,Oo,Oo,Oo,Oo,Oo,Oo,Oo],heapX [] [mi1 ⟨1,[]⟩ (TR (tabF n n (mixF (mulF a b n) botF k.1 0)))],900⟩) (fun k=>n - k.1) ⟨0,Nat.zero_le _⟩ ?_ (fun k=>?_)
 ·
  (apply Le.headG [] [{ l:=⟨1,[]⟩,k:=1,R:=TR (tabF n n (mixF (mulF a b n) botF 0 0)),src:=⟨7,[0]⟩,base:=⟨7,[0]⟩ }] (fun _=>False))
  (case' hlen=>rfl)
  (case' hms=>rfl)
  all_goals (try dsimp only[srcs])
  (case' hfr|hob=>(repeat' (first|refine La ?_ ?_|exact Lc|refine Lo ?_|refine ⟨⟨_,rfl,?_⟩,?_⟩|refine Lx ?_)))
  (case' hok=>first|exact ⟨MI.ok_same rfl (Cg),trivial⟩|exact trivial)
  (case' hN=>rfl)
  (case' hS=>rfl)
  all_goals (first|exact Ld|(rfl))
 obtain ⟨i,hi⟩:=k
 simp only
 by_cases hlt:i<n
 ·
  repeat' (first|((first|apply Ba|(apply Bb;(· rfl);(· rfl))|(apply Bc;(· exact nxE))|(apply Bd;(· rfl);(· rfl);(· exact nxE)));(· first|exact Ok.pe))|((first|apply Ca|(apply Cb;(· exact nxE)));(· first|exact Ok.e0))|refine Sx ?_|(refine Sy (fun h=>?_) (fun h=>?_)<;>try (exfalso;omega;done))|refine Sz (fun h=>?_) (fun h=>?_))
  refine AW.loop (X:={k:Nat // k≤n}) (fun k=>⟨[TL a,TL b,Oo,Oo,Oo,.own 1 ⟨1,[]⟩ 0 n,I i,I (k.1:Nat),Oo,Oo,Oo,Oo,Oo,Oo,Oo,Oo,Oo,Oo,Oo,Oo,Oo,Oo,Oo,Oo,Oo,Oo,Oo,Oo,Oo,Oo,Oo,Oo,Oo,Oo,Oo,Oo,Oo,Oo,Oo,Oo,Oo,Oo,Oo,Oo,Oo,Oo,Oo,Oo,Oo,Oo,Oo,Oo,Oo,Oo,Oo,Oo,Oo,Oo,Oo,Oo,Oo,Oo,Oo,Oo,Oo,Oo],heapX [] [mi1 ⟨1,[]⟩ (TR (tabF n n (mixF (mulF a b n) botF i k.1)))],900⟩) (fun k=>n - k.1) ⟨0,Nat.zero_le _⟩ ?_ (fun k=>?_)
  ·
   (apply Le.headG [] [mi1 ⟨1,[]⟩ (TR (tabF n n (mixF (mulF a b n) botF i 0)))] (fun _=>False))
   (case' hlen=>rfl)
   (case' hms=>rfl)
   all_goals (try dsimp only[srcs])
   (case' hfr|hob=>(repeat' (first|refine La ?_ ?_|exact Lc|refine Lo ?_|refine ⟨⟨_,rfl,?_⟩,?_⟩|refine Lx ?_)))
   (case' hok=>first|exact ⟨MI.ok_same rfl (Cg),trivial⟩|exact trivial)
   (case' hN=>rfl)
   (case' hS=>rfl)
   all_goals (first|exact Ld|(rfl))
  obtain ⟨j,hj⟩:=k
  simp only
  by_cases hlt2:j<n
  ·
   repeat' (first|((first|apply Ba|(apply Bb;(· rfl);(· rfl))|(apply Bc;(· exact nxE))|(apply Bd;(· rfl);(· rfl);(· exact nxE)));(· first|exact Ok.pe))|((first|apply Ca|(apply Cb;(· exact nxE)));(· first|exact Ok.e0))|refine Sx ?_|(refine Sy (fun h=>?_) (fun h=>?_)<;>try (exfalso;omega;done))|refine Sz (fun h=>?_) (fun h=>?_))
   rw[← parF_0]
   refine AW.loop (X:={k:Nat // k≤n}) (fun k=>⟨[TL a,TL b,Oo,Oo,Oo,.own 1 ⟨1,[]⟩ 0 n,I i,I j,I (k.1:Nat),Oo,Oo,Oo,Oo,Oo,Oo,Oo,Oo,Oo,Oo,Oo,Oo,Oo,Oo,Oo,Oo,Oo,Oo,Oo,Oo,Oo,Oo,Oo,Oo,Oo,Oo,Oo,Oo,Oo,Oo,Oo,Oo,Oo,Oo,Oo,Oo,Oo,Oo,Oo,Oo,Oo,Oo,Oo,Oo,Oo,Oo,Oo,Oo,Oo,Oo,Oo,Oo,Oo,Oo,Oo,Oo,Oo],heapX [] [mi1 ⟨1,[]⟩ (TR (tabF n n (parF a b n i j k.1)))],900⟩) (fun k=>n - k.1) ⟨0,Nat.zero_le _⟩ ?_ (fun k=>?_)
   ·
    (apply Le.headG [] [mi1 ⟨1,[]⟩ (TR (tabF n n (parF a b n i j 0)))] (fun _=>False))
    (case' hlen=>rfl)
    (case' hms=>rfl)
    all_goals (try dsimp only[srcs])
    (case' hfr|hob=>(repeat' (first|refine La ?_ ?_|exact Lc|refine Lo ?_|refine ⟨⟨_,rfl,?_⟩,?_⟩|refine Lx ?_)))
    (case' hok=>first|exact ⟨MI.ok_same rfl (Cg),trivial⟩|exact trivial)
    (case' hN=>rfl)
    (case' hS=>rfl)
    all_goals (first|exact Ld|(rfl))
   obtain ⟨q,hq⟩:=k
   simp only
   by_cases hlt3:q<n
   ·
    have hrw:=TRF_get (n:=n) (f:=parF a b n i j q) hlt
    have hli:(IR (rowF n (parF a b n i j q i))).length=n:=by rw[IR_len,rowF_len]
    have hij:=IRF_get (g:=parF a b n i j q i) hlt2
    obtain ⟨R,hR1,hR2,hR3⟩:=ha.get hlt hlt3
    have hRr:=TR_get hR1
    have hRf:=IR_get hR2
    have hRl:(IR R).length=n:=by rw[IR_len,hR3]
    obtain ⟨S,hS1,hS2,hS3⟩:=hb.get hlt3 hlt2
    have hSr:=TR_get hS1
    have hSf:=IR_get hS2
    have hSl:(IR S).length=n:=by rw[IR_len,hS3]
    have hset:(IR (rowF n (parF a b n i j q i))).set j [DI (max (parF a b n i j q i j) (timesB (entN a i q) (entN b q j)))]=IR ((rowF n (parF a b n i j q i)).set j (max (parF a b n i j q i j) (prF a b i j q))):=IR_set
    repeat' (first|((first|apply Ba|(apply Bb;(· rfl);(· rfl))|(apply Bc;(· exact nxE))|(apply Bd;(· rfl);(· rfl);(· exact nxE)));(· first|exact Ok.ldTn rfl rfl rfl hrw hli|exact Ok.ld1 rfl rfl (congrArg (Option.map (dobj 1)) hrw) hij|exact Kz rfl rfl (l01Times_ac (entN a i q) (entN b q j) (ht i q j hlt hlt3 hlt2)) (Ad (Ad An))|exact Ok.st1 rfl rfl (congrArg (Option.map (dobj 1)) hrw) (by rw[hli];omega) (by rw[hij];rfl) rfl rfl hset|exact Ok.pe))|((first|apply Ca|(apply Cb;(· exact nxE)));(· first|exact Ok.st1 rfl rfl (congrArg (Option.map (dobj 1)) hrw) (by rw[hli];omega) (by rw[hij];rfl) rfl rfl hset|exact Ok.e0))|refine Sx ?_|(refine Sy (fun h=>?_) (fun h=>?_)<;>try (exfalso;omega;done))|refine Sz (fun h=>?_) (fun h=>?_))
    refine ⟨⟨q+1,by omega⟩,?_,by simp only;omega⟩
    (apply Le.headG [] [mi1 ⟨1,[]⟩ (TR (tabF n n (parF a b n i j (q+1))))] (fun _=>False))
    (case' hlen=>rfl)
    (case' hms=>rfl)
    all_goals (try dsimp only[srcs])
    (case' hfr|hob=>(repeat' (first|refine La ?_ ?_|exact Lc|refine Lo ?_|refine ⟨⟨_,rfl,?_⟩,?_⟩|refine Lx ?_)))
    (case' hok=>first|exact ⟨MI.ok_row (tabF_set (fun x y _ _=>parF_set)) hrw (by simp) rfl (Cg),trivial⟩|exact trivial)
    (case' hN=>rfl)
    (case' hS=>rfl)
    all_goals (first|exact Ld|(rfl))
   ·
    obtain rfl:q=n:=by omega
    repeat' (first|((first|apply Ba|(apply Bb;(· rfl);(· rfl))|(apply Bc;(· exact nxE))|(apply Bd;(· rfl);(· rfl);(· exact nxE)));(· first|exact Ok.pe))|((first|apply Ca|(apply Cb;(· exact nxE)));(· first|exact Ok.e0))|refine Sx ?_|(refine Sy (fun h=>?_) (fun h=>?_)<;>try (exfalso;omega;done))|refine Sz (fun h=>?_) (fun h=>?_))
    refine ⟨⟨j+1,by omega⟩,?_,by simp only;omega⟩
    simp only
    rw[← parF_n]
    (apply Le.headG [] [mi1 ⟨1,[]⟩ (TR (tabF q q (parF a b q i j q)))] (fun _=>False))
    (case' hlen=>rfl)
    (case' hms=>rfl)
    all_goals (try dsimp only[srcs])
    (case' hfr|hob=>(repeat' (first|refine La ?_ ?_|exact Lc|refine Lo ?_|refine ⟨⟨_,rfl,?_⟩,?_⟩|refine Lx ?_)))
    (case' hok=>first|exact ⟨MI.ok_same rfl (Cg),trivial⟩|exact trivial)
    (case' hN=>rfl)
    (case' hS=>rfl)
    all_goals (first|exact Ld|(rfl))
  ·
   obtain rfl:j=n:=by omega
   repeat' (first|((first|apply Ba|(apply Bb;(· rfl);(· rfl))|(apply Bc;(· exact nxE))|(apply Bd;(· rfl);(· rfl);(· exact nxE)));(· first|exact Ok.pe))|((first|apply Ca|(apply Cb;(· exact nxE)));(· first|exact Ok.e0))|refine Sx ?_|(refine Sy (fun h=>?_) (fun h=>?_)<;>try (exfalso;omega;done))|refine Sz (fun h=>?_) (fun h=>?_))
   refine ⟨⟨i+1,by omega⟩,?_,by simp only;omega⟩
   simp only
   rw[← mixF_row]
   (apply Le.headG [] [mi1 ⟨1,[]⟩ (TR (tabF j j (mixF (mulF a b j) botF i j)))] (fun _=>False))
   (case' hlen=>rfl)
   (case' hms=>rfl)
   all_goals (try dsimp only[srcs])
   (case' hfr|hob=>(repeat' (first|refine La ?_ ?_|exact Lc|refine Lo ?_|refine ⟨⟨_,rfl,?_⟩,?_⟩|refine Lx ?_)))
   (case' hok=>first|exact ⟨MI.ok_same rfl (Cg),trivial⟩|exact trivial)
   (case' hN=>rfl)
   (case' hS=>rfl)
   all_goals (first|exact Ld|(rfl))
 ·
  obtain rfl:i=n:=by omega
  rw[mixF_all]
  repeat' (first|((first|apply Ba|(apply Bb;(· rfl);(· rfl))|(apply Bc;(· exact nxE))|(apply Bd;(· rfl);(· rfl);(· exact nxE)));(· first|exact Ok.pe))|((first|apply Ca|(apply Cb;(· exact nxE)));(· first|exact Ok.e0))|refine Sx ?_|(refine Sy (fun h=>?_) (fun h=>?_)<;>try (exfalso;omega;done))|refine Sz (fun h=>?_) (fun h=>?_))
  refine Ya ?_
  (apply Le.headG [] [{ l:=⟨0,[]⟩,k:=1,R:=TR (tabF i i (mulF a b i)),src:=⟨1,[]⟩,base:=⟨1,[]⟩ }] (fun _=>False))
  (case' hlen=>rfl)
  (case' hms=>rfl)
  all_goals (try dsimp only[srcs])
  (case' hfr|hob=>(repeat' (first|refine La ?_ ?_|exact Lc|refine Lo ?_|refine ⟨⟨_,rfl,?_⟩,?_⟩|refine Lx ?_)))
  (case' hok=>first|exact ⟨MI.ok_same rfl (Cg),trivial⟩|exact trivial)
  (case' hN=>rfl)
  (case' hS=>rfl)
  all_goals (first|exact Ld|(rfl))
end
section
open Go Go.RowKit
attribute [local irreducible] AL AD AW OpOk Le AC thenQ blockQ EndQ
theorem l01Same_ac [Mode] (xs:List Int) (hn:xs.length≤100000000):AC Tryz.prog 173 [IL xs,IL xs] H0 (Bo true) H0:=by
 refine AC.of_body 0 Tryz.func173 rfl (fun l h=>absurd rfl h) (fun C hC=>?_)
 have hD:∀ l,¬ C.D0 l:=fun l h=>(hC l).1 h rfl
 simp only[startFr,Tryz.ntmps173,List.length_cons,List.length_nil,Nat.reduceAdd,Nat.reduceSub,List.replicate_succ,List.replicate_zero,List.cons_append,List.nil_append]
 repeat' (first|((first|apply Ba|(apply Bb;(· rfl);(· rfl))|(apply Bc;(· exact nxE))|(apply Bd;(· rfl);(· rfl);(· exact nxE)));(· first|exact Ok.pe))|((first|apply Ca|(apply Cb;(· exact nxE)));(· first|exact Ok.e0))|refine Sx ?_|(refine Sy (fun h=>?_) (fun h=>?_)<;>try (exfalso;omega;done))|refine Sz (fun h=>?_) (fun h=>?_))
 refine AW.loop (X:={k:Nat // k≤xs.length}) (fun k=>⟨[IL xs,IL xs,Oo,Oo,Oo,I (k.1:Nat),Oo,Oo,Oo,Oo,Oo,Oo,Oo,Oo,Oo,Oo,Oo,Oo,Oo,Oo,Oo,Oo,Oo,Oo,Oo,Oo],heapL [],900⟩) (fun k=>xs.length - k.1) ⟨0,Nat.zero_le _⟩ ?_ (fun k=>?_)
 ·
  (apply Le.headZ [] rfl)
  all_goals (try dsimp only[srcs])
  (case' hfr|hob=>(repeat' (first|refine La ?_ ?_|exact Lc|refine Lo ?_|refine ⟨⟨_,rfl,?_⟩,?_⟩|refine Lx ?_)))
  all_goals (first|(rfl)|exact Ld)
 obtain ⟨k,hk⟩:=k
 simp only
 by_cases hlt:k<xs.length
 ·obtain ⟨x,hx⟩:∃ x,xs[k]? = some x:=⟨xs[k],by simp⟩
  have hrow:=IR_get hx
  repeat' (first|((first|apply Ba|(apply Bb;(· rfl);(· rfl))|(apply Bc;(· exact nxE))|(apply Bd;(· rfl);(· rfl);(· exact nxE)));(· first|exact Ok.pe))|((first|apply Ca|(apply Cb;(· exact nxE)));(· first|exact Ok.e0))|refine Sx ?_|(refine Sy (fun h=>?_) (fun h=>?_)<;>try (exfalso;omega;done))|refine Sz (fun h=>?_) (fun h=>?_))
  refine ⟨⟨k+1,by omega⟩,?_,by simp only;omega⟩
  (apply Le.headZ [] rfl)
  all_goals (try dsimp only[srcs])
  (case' hfr|hob=>(repeat' (first|refine La ?_ ?_|exact Lc|refine Lo ?_|refine ⟨⟨_,rfl,?_⟩,?_⟩|refine Lx ?_)))
  all_goals (first|(rfl)|exact Ld)
 ·
  repeat' (first|((first|apply Ba|(apply Bb;(· rfl);(· rfl))|(apply Bc;(· exact nxE))|(apply Bd;(· rfl);(· rfl);(· exact nxE)));(· first|exact Ok.pe))|((first|apply Ca|(apply Cb;(· exact nxE)));(· first|exact Ok.e0))|refine Sx ?_|(refine Sy (fun h=>?_) (fun h=>?_)<;>try (exfalso;omega;done))|refine Sz (fun h=>?_) (fun h=>?_))
  refine Ya ?_
  (apply Le.headZ (hs:=[]) [] rfl)
  all_goals (try dsimp only[srcs])
  (case' hfr=>(repeat' (first|refine La ?_ ?_|exact Lc|refine Lo ?_|refine ⟨⟨_,rfl,?_⟩,?_⟩|refine Lx ?_)))
  all_goals (first|exact Ld|exact trivial|(rfl))
theorem l02Same_ac [Mode] (t:List (List Int)) (hn:t.length≤100000000) (hr:∀ r∈t,r.length≤100000000):AC Tryz.prog 144 [TL t,TL t] H0 (Bo true) H0:=by
 refine AC.of_body 0 Tryz.func144 rfl (fun l h=>absurd rfl h) (fun C hC=>?_)
 have hD:∀ l,¬ C.D0 l:=fun l h=>(hC l).1 h rfl
 simp only[startFr,Tryz.ntmps144,List.length_cons,List.length_nil,Nat.reduceAdd,Nat.reduceSub,List.replicate_succ,List.replicate_zero,List.cons_append,List.nil_append]
 repeat' (first|((first|apply Ba|(apply Bb;(· rfl);(· rfl))|(apply Bc;(· exact nxE))|(apply Bd;(· rfl);(· rfl);(· exact nxE)));(· first|exact Ok.pe))|((first|apply Ca|(apply Cb;(· exact nxE)));(· first|exact Ok.e0))|refine Sx ?_|(refine Sy (fun h=>?_) (fun h=>?_)<;>try (exfalso;omega;done))|refine Sz (fun h=>?_) (fun h=>?_))
 refine AW.loop (X:={k:Nat // k≤t.length}) (fun k=>⟨[TL t,TL t,Oo,Oo,Oo,I (k.1:Nat),Oo,Oo,Oo,Oo,Oo,Oo,Oo,Oo,Oo,Oo,Oo,Oo,Oo,Oo,Oo,Oo,Oo,Oo,Oo,Oo,Oo],heapL [],900⟩) (fun k=>t.length - k.1) ⟨0,Nat.zero_le _⟩ ?_ (fun k=>?_)
 ·
  (apply Le.headZ [] rfl)
  all_goals (try dsimp only[srcs])
  (case' hfr|hob=>(repeat' (first|refine La ?_ ?_|exact Lc|refine Lo ?_|refine ⟨⟨_,rfl,?_⟩,?_⟩|refine Lx ?_)))
  all_goals (first|(rfl)|exact Ld)
 obtain ⟨k,hk⟩:=k
 simp only
 by_cases hlt:k<t.length
 ·obtain ⟨r,hr1⟩:∃ r,t[k]? = some r:=⟨t[k],by simp⟩
  have hrow:=TR_get hr1
  repeat' (first|((first|apply Ba|(apply Bb;(· rfl);(· rfl))|(apply Bc;(· exact nxE))|(apply Bd;(· rfl);(· rfl);(· exact nxE)));(· first|exact Kz rfl rfl (l01Same_ac r (hr r (List.mem_of_getElem? hr1))) (Ad (Ad An))|exact Ok.pe))|((first|apply Ca|(apply Cb;(· exact nxE)));(· first|exact Ok.e0))|refine Sx ?_|(refine Sy (fun h=>?_) (fun h=>?_)<;>try (exfalso;omega;done))|refine Sz (fun h=>?_) (fun h=>?_))
  refine ⟨⟨k+1,by omega⟩,?_,by simp only;omega⟩
  (apply Le.headZ [] rfl)
  all_goals (try dsimp only[srcs])
  (case' hfr|hob=>(repeat' (first|refine La ?_ ?_|exact Lc|refine Lo ?_|refine ⟨⟨_,rfl,?_⟩,?_⟩|refine Lx ?_)))
  all_goals (first|(rfl)|exact Ld)
 ·
  repeat' (first|((first|apply Ba|(apply Bb;(· rfl);(· rfl))|(apply Bc;(· exact nxE))|(apply Bd;(· rfl);(· rfl);(· exact nxE)));(· first|exact Ok.pe))|((first|apply Ca|(apply Cb;(· exact nxE)));(· first|exact Ok.e0))|refine Sx ?_|(refine Sy (fun h=>?_) (fun h=>?_)<;>try (exfalso;omega;done))|refine Sz (fun h=>?_) (fun h=>?_))
  refine Ya ?_
  (apply Le.headZ (hs:=[]) [] rfl)
  all_goals (try dsimp only[srcs])
  (case' hfr=>(repeat' (first|refine La ?_ ?_|exact Lc|refine Lo ?_|refine ⟨⟨_,rfl,?_⟩,?_⟩|refine Lx ?_)))
  all_goals (first|exact Ld|exact trivial|(rfl))
theorem maxN_congr [Mode] {f g:Nat→Int}:∀ {n:Nat},(∀ k,k<n→f k=g k)→maxN f n=maxN g n
 | 0,_=>rfl
 | n+1,h=>by simp only[maxN];rw[maxN_congr (fun k hk=>h k (by omega)),h n (by omega)]
theorem StarM.px [Mode] {t:List (List Int)}{n:Nat} (h:StarM t n) {m:Nat} (hm:m≤n+1):PX (entN t) n 100000000000 m (powN (entN t) n m):=
 powN_px (by decide) h.bnd m (by have:=h.nn;omega)
theorem StarM.pow [Mode] {t:List (List Int)}{n:Nat} (h:StarM t n) {m:Nat} (hm:m≤n+1) (hl:n≤m):tabF n n (powN (entN t) n m)=tabF n n (starF (entN t) n):=
 tabF_congr fun i j hi hj=>(starF_eq ((h.px hm).star h.np hl) hj hi).symm
theorem StarM.mul [Mode] {t:List (List Int)}{n:Nat} (h:StarM t n) {m:Nat} (hm:m≤n):AC Tryz.prog 143 [TL t,TL (tabF n n (powN (entN t) n m))] H0 (own1 1 n) (hpM 1 (TR (tabF n n (mulF t (tabF n n (powN (entN t) n m)) n)))):=by
 have hn:=h.nn
 refine l02Multiply_ac n t _ h.rc tabF_rc (by omega) h.n0 (fun i q j hi hq hj h1 h2=>?_)
 rw[tabF_ent hq hj] at h2 ⊢
 have g1:=h.bnd q i h1
 have g2:=(h.px (show m≤n+1 by omega)).bnd j q hj hq h2
 omega
theorem StarM.add [Mode] {t:List (List Int)}{n:Nat} (h:StarM t n) {m:Nat}:AC Tryz.prog 142 [TL (tabF n n unitF),TL (tabF n n (mulF t (tabF n n (powN (entN t) n m)) n))] H0 (own1 1 n) (hpM 1 (TR (tabF n n (powN (entN t) n (m+1))))):=by
 have hn:=h.nn
 have hA:=l02Add_ac n n (tabF n n unitF) (tabF n n (mulF t (tabF n n (powN (entN t) n m)) n)) tabF_rc tabF_rc (by omega) (by omega)
 have e:tabF n n (addF (tabF n n unitF) (tabF n n (mulF t (tabF n n (powN (entN t) n m)) n)))=tabF n n (powN (entN t) n (m+1)):=tabF_congr fun i j hi hj=>by
  unfold addF
  rw[tabF_ent hi hj,tabF_ent hi hj]
  show _=powS (entN t) n (powN (entN t) n m) i j
  unfold powS mulF
  rw[maxN_congr (g:=fun q=>timesB (entN t i q) (powN (entN t) n m q j)) (fun q hq=>by show timesB (entN t i q) (entN (tabF n n (powN (entN t) n m)) q j)=_;rw[tabF_ent hq hj])]
 rw[← e]
 exact hA
set_option maxHeartbeats 4000000 in
theorem l03Star_ac [Mode] (t:List (List Int)) (n:Nat) (h:StarM t n):AC Tryz.prog 94 [TL t] H0 (.tup [own1 1 n,Bo true]) (hpM 1 (TR (tabF n n (starF (entN t) n)))):=by
 have hn:=h.nn
 have h0:=h.n0
 have htl:=h.rc.l
 have hU:=l02Unit_ac n (by omega)
 have hul:(tabF n n unitF).length=n:=tabF_len
 have hL:(mRows 1 (TR t)).length=n:=by rw[mTR_len,htl]
 refine AC.of_body 0 Tryz.func94 rfl (fun l h=>absurd rfl h) (fun C hC=>?_)
 have hD:∀ l,¬ C.D0 l:=fun l h=>(hC l).1 h rfl
 simp only[startFr,Tryz.ntmps94,List.length_cons,List.length_nil,Nat.reduceAdd,Nat.reduceSub,List.replicate_succ,List.replicate_zero,List.cons_append,List.nil_append]
 repeat' (first|((first|apply Ba|(apply Bb;(· rfl);(· rfl))|(apply Bc;(· exact nxE))|(apply Bd;(· rfl);(· rfl);(· exact nxE)));(· first|exact Ok.lenD rfl rfl hL|exact Tb rfl rfl (hU) (Sd Sn)|exact Ok.pe))|((first|apply Ca|(apply Cb;(· exact nxE)));(· first|exact Tb rfl rfl (hU) (Sd Sn)|exact Ok.e0))|refine Sx ?_|(refine Sy (fun h=>?_) (fun h=>?_)<;>try (exfalso;omega;done))|refine Sz (fun h=>?_) (fun h=>?_))
 refine AW.loop (X:={k:Nat // k≤n}) (fun k=>⟨[TL t,Oo,Oo,Oo,I n,.own 1 ⟨1,[]⟩ 0 n,I (k.1:Nat),Oo,Oo,Oo,Oo,Oo,Oo,Oo,Oo,Oo,Oo,Oo,Oo,Oo,Oo,Oo,Oo,Oo,Oo,Oo,Oo,Oo,Oo,Oo,Oo,Oo,Oo],heapX [] [mi1 ⟨1,[]⟩ (TR (tabF n n (powN (entN t) n k.1)))],900⟩) (fun k=>n - k.1) ⟨0,Nat.zero_le _⟩ ?_ (fun k=>?_)
 ·
  (apply Le.headG [] [{ l:=⟨1,[]⟩,k:=1,R:=TR (tabF n n (powN (entN t) n 0)),src:=⟨6,[0]⟩,base:=⟨6,[0]⟩ }] (fun _=>False))
  (case' hlen=>rfl)
  (case' hms=>rfl)
  all_goals (try dsimp only[srcs])
  (case' hfr|hob=>(repeat' (first|refine La ?_ ?_|exact Lc|refine Lo ?_|refine ⟨⟨_,rfl,?_⟩,?_⟩|refine Lx ?_)))
  (case' hok=>first|exact ⟨MI.ok_same rfl (Cg),trivial⟩|exact trivial)
  (case' hN=>rfl)
  (case' hS=>rfl)
  all_goals (first|exact Ld|(rfl))
 obtain ⟨m,hk⟩:=k
 simp only
 have hM:=h.mul hk
 have hA:=h.add (m:=m)
 have hpl:(tabF n n (powN (entN t) n m)).length=n:=tabF_len
 have hml:(tabF n n (mulF t (tabF n n (powN (entN t) n m)) n)).length=n:=tabF_len
 by_cases hlt:m<n
 ·
  repeat' (first|((first|apply Ba|(apply Bb;(· rfl);(· rfl))|(apply Bc;(· exact nxE))|(apply Bd;(· rfl);(· rfl);(· exact nxE)));(· first|exact Tb rfl rfl (hU) (Sd Sn)|exact Tb rfl rfl (hM) (Sd (Sm Sn))|exact Tb rfl rfl (hA) (Sm (Sm Sn))|exact Ok.pe))|((first|apply Ca|(apply Cb;(· exact nxE)));(· first|exact Tb rfl rfl (hU) (Sd Sn)|exact Tb rfl rfl (hM) (Sd (Sm Sn))|exact Tb rfl rfl (hA) (Sm (Sm Sn))|exact Ok.e0))|refine Sx ?_|(refine Sy (fun h=>?_) (fun h=>?_)<;>try (exfalso;omega;done))|refine Sz (fun h=>?_) (fun h=>?_))
  refine ⟨⟨m+1,by omega⟩,?_,by simp only;omega⟩
  (apply Le.headG [] [{ l:=⟨1,[]⟩,k:=1,R:=TR (tabF n n (powN (entN t) n (m+1))),src:=⟨908,[0]⟩,base:=⟨908,[0]⟩ }] (fun _=>False))
  (case' hlen=>rfl)
  (case' hms=>rfl)
  all_goals (try dsimp only[srcs])
  (case' hfr|hob=>(repeat' (first|refine La ?_ ?_|exact Lc|refine Lo ?_|refine ⟨⟨_,rfl,?_⟩,?_⟩|refine Lx ?_)))
  (case' hok=>first|exact ⟨MI.ok_same rfl (Cg),trivial⟩|exact trivial)
  (case' hN=>rfl)
  (case' hS=>rfl)
  all_goals (first|exact Ld|(rfl))
 ·
  obtain rfl:n=m:=by omega
  have hS:=l02Same_ac (tabF n n (starF (entN t) n)) (by rw[tabF_len];omega) (fun r hr=>by rw[tabF_rc.r r hr];omega)
  rw[h.pow (Nat.le_refl _) (by omega)] at hA
  rw[h.pow (by omega) (Nat.le_refl _)] at hM hA hpl hml ⊢
  repeat' (first|((first|apply Ba|(apply Bb;(· rfl);(· rfl))|(apply Bc;(· exact nxE))|(apply Bd;(· rfl);(· rfl);(· exact nxE)));(· first|exact Ez rfl rfl (hS) (Sm (Sm Sn))|exact Tb rfl rfl (hU) (Sd Sn)|exact Tb rfl rfl (hM) (Sd (Sm Sn))|exact Tb rfl rfl (hA) (Sm (Sm Sn))|exact Ok.pe))|((first|apply Ca|(apply Cb;(· exact nxE)));(· first|exact Tb rfl rfl (hU) (Sd Sn)|exact Tb rfl rfl (hM) (Sd (Sm Sn))|exact Tb rfl rfl (hA) (Sm (Sm Sn))|exact Ok.e0))|refine Sx ?_|(refine Sy (fun h=>?_) (fun h=>?_)<;>try (exfalso;omega;done))|refine Sz (fun h=>?_) (fun h=>?_))
  refine Yb ?_
  (apply Le.headG [] [{ l:=⟨0,[]⟩,k:=1,R:=TR (tabF n n (starF (entN t) n)),src:=⟨1,[]⟩,base:=⟨1,[]⟩ }] (fun _=>False))
  (case' hlen=>rfl)
  (case' hms=>rfl)
  all_goals (try dsimp only[srcs])
  (case' hfr|hob=>(repeat' (first|refine La ?_ ?_|exact Lc|refine Lo ?_|refine ⟨⟨_,rfl,?_⟩,?_⟩|refine Lx ?_)))
  (case' hok=>first|exact ⟨MI.ok_same rfl (Cg),trivial⟩|exact trivial)
  (case' hN=>rfl)
  (case' hS=>rfl)
  all_goals (first|exact Ld|(rfl))
end
section
open Go Go.RowKit
attribute [local irreducible] AL AD AW OpOk Le AC thenQ blockQ EndQ
end
section
open Go Go.RowKit
attribute [local irreducible] AL AD AW OpOk Le AC thenQ blockQ EndQ
end
section
open Go Go.RowKit
attribute [local irreducible] AL AD AW OpOk Le AC thenQ blockQ EndQ
end
section
open Go Go.RowKit
attribute [local irreducible] AL AD AW OpOk Le AC thenQ blockQ EndQ
end
section
open Go Go.RowKit
attribute [local irreducible] AL AD AW OpOk Le AC thenQ blockQ EndQ
end
section
open Go Go.RowKit
attribute [local irreducible] AL AD AW OpOk Le AC thenQ blockQ EndQ
end
section
open Go Go.RowKit
attribute [local irreducible] AL AD AW OpOk Le AC thenQ blockQ EndQ
end
section
open Go Go.RowKit
theorem gap_nn [Mode] {n:Nat}{xs:List Pl}{r:Int × Int}{t:List (List Int)} (hw:WmOk n xs r t) (hnp:NoPos (entN t) n) {s:Nat→Nat→Int} (hs:StarOk (entN t) n s) {f u:Nat} (hf:f<n) (hu:u<n) {p:Pl} (hp:p∈xs) (h1:p.f=f) (h2:p.t=u) (hne:s f u≠BOT):pw r.1 r.2 p+s f u≤0:=by
 have ha:=hw.all p hp
 rw[h1,h2,Int.toNat_natCast,Int.toNat_natCast] at ha
 have hwm:WM (entN t) f [] u:=ha.1
 have hwv:wM (entN t) f [] u=entN t u f:=rfl
 rcases hs.some u f hu hf with e|⟨e1,e2⟩|⟨c,c1,c2,c3⟩
 ·exact absurd e hne
 ·subst e1
  have:=hnp u [] hu (by simp) hwm
  omega
 ·have h3:WM (entN t) u (c++f :: []) u:=WM.app.2 ⟨c1,hwm⟩
  have h4:=hnp u _ hu (fun x hx=>by
   rcases List.mem_append.1 hx with h|h
   ·exact c2 x h
   ·simp at h;omega) h3
  rw[wM_app] at h4
  omega
end
section
open Go Go.RowKit
attribute [local irreducible] AL AD AW OpOk Le AC thenQ blockQ EndQ
end
section
open Go Go.RowKit
attribute [local irreducible] AL AD AW OpOk Le AC thenQ blockQ EndQ
def mkF (k:Int):Nat→Int:=fun j=>k+(j:Int)
def mixR (f g:Nat→Int) (K:Nat):Nat→Int:=fun j=>if j<K then f j else g j
theorem mixR_0 [Mode] {f g:Nat→Int}{n:Nat}:rowF n (mixR f g 0)=rowF n g:=rowF_congr fun j _=>by simp[mixR]
theorem mixR_all [Mode] {f g:Nat→Int}{n:Nat}:rowF n (mixR f g n)=rowF n f:=rowF_congr fun j hj=>by simp[mixR,hj]
theorem mixR_set [Mode] {f g:Nat→Int}{n K:Nat}:(rowF n (mixR f g K)).set K (f K)=rowF n (mixR f g (K+1)):=by
 rw[rowF_set]
 refine rowF_congr fun b _=>?_
 unfold mixR
 by_cases e:b=K
 ·subst e;simp
 ·rw[if_neg e]
  by_cases h:b<K
  ·rw[if_pos h,if_pos (by omega)]
  ·rw[if_neg h,if_neg (by omega)]
def offT (t:List (List Int)) (i:Nat):Nat:=((t.take i).map List.length).sum
def mkRow (k:Int) (r:List Int):List Int:=rowF r.length (mkF k)
def mkAt (t:List (List Int)) (k:Int) (i:Nat):List (List Int):=t.mapIdx fun j r=>if j<i then mkRow (k+offT t j) r else r
theorem mkAt_len [Mode] {t:List (List Int)}{k:Int}{i:Nat}:(mkAt t k i).length=t.length:=by simp[mkAt]
end
section
open Go Go.RowKit
attribute [local irreducible] AL AD AW OpOk Le AC thenQ blockQ EndQ
theorem mgF_0 [Mode] {n:Nat}{f:Nat→Int}:dobj 1 (List.replicate n [DI 0])=IO (rowF n (mixR f (fun _=>0) 0)):=by
 rw[mixR_0]
 unfold IO dobj
 simp[rowF,List.map_const']
end
section
open Go Go.RowKit
attribute [local irreducible] AL AD AW OpOk Le AC thenQ blockQ EndQ
def isCr (s:Nat→Nat→Int) (u1 u2:Int) (p:Pl):Bool:=!decide (s p.f.toNat p.t.toNat=BOT)&&decide (pw u1 u2 p+s p.f.toNat p.t.toNat=0)
end
section
open Go Go.RowKit
theorem growC_pre {xs:List Pl}{rn rd over:Int}:∀ {k:Nat}{l:List Nat},growC xs rn rd over k l≠[]→∃ e,growC xs rn rd over k l=l++e
 | 0,_,h=>by simp[growC] at h
 | k+1,l,h=>by
  unfold growC at h ⊢
  split
  ·rename_i h1
   rw[if_pos h1] at h
   split
   ·exact ⟨[],by simp⟩
   ·rename_i h2;rw[if_neg h2] at h;exact absurd rfl h
  ·rename_i h1
   rw[if_neg h1] at h
   obtain ⟨i,hi,h2,h3⟩:=tryAll_mem h
   rw[h3]
   split at h2
   ·exact absurd rfl h2
   ·rename_i hs
    rw[if_neg hs]
    obtain ⟨e,he⟩:=growC_pre h2
    exact ⟨i :: e,by rw[he];simp⟩
theorem tryAll_congr {α:Type}{f g:Nat→List α}:∀ {l:List Nat},(∀ v∈l,f v=g v)→tryAll f l=tryAll g l
 | [],_=>rfl
 | v :: r,h=>by
  unfold tryAll
  rw[h v (by simp),tryAll_congr fun x hx=>h x (by simp[hx])]
theorem star_super {W:Nat→Nat→Int}{n:Nat}{s:Nat→Nat→Int} (hs:StarOk W n s) {u m v:Nat} (hu:u<n) (hm:m<n) (hv:v<n) (h1:s m u≠BOT) (h2:s v m≠BOT):s v u≠BOT∧s m u+s v m≤s v u:=by
 rcases hs.some u m hu hm with e|⟨e,e2⟩|⟨c,c1,c2,c3⟩
 ·exact absurd e h1
 ·subst e;exact ⟨h2,by omega⟩
 ·rcases hs.some m v hm hv with e|⟨e,e2⟩|⟨c',d1,d2,d3⟩
  ·exact absurd e h2
  ·subst e;exact ⟨h1,by omega⟩
  ·have:=hs.all u v (c++m :: c') hu hv (fun x hx=>by
    rcases List.mem_append.1 hx with h|h
    ·exact c2 x h
    ·rcases List.mem_cons.1 h with rfl|h
     ·exact hm
     ·exact d2 x h) (WM.app.2 ⟨c1,d1⟩)
   rw[wM_app] at this
   exact ⟨this.1,by omega⟩
theorem wk_wm {n:Nat}{xs:List Pl}{r:Int × Int}{t:List (List Int)} (hw:WmOk n xs r t) (hv:∀ p∈xs,okPl n p):∀ {c:List Nat}{u v:Int},Wk xs u c v→c≠[]→∃ c',WM (entN t) u.toNat c' v.toNat∧(∀ x∈c',x<n)∧wgt xs r.1 r.2 c≤wM (entN t) u.toNat c' v.toNat
 | [],_,_,_,h=>absurd rfl h
 | [i],u,v,⟨h1,h2,h3⟩,_=>by
  have hp:plA xs i∈xs:=by
   have e:plA xs i=xs[i]:=by simp[plA,h1]
   rw[e];exact List.getElem_mem h1
  have ha:=hw.all _ hp
  have h3':(plA xs i).t=v:=h3
  subst h2 h3'
  exact ⟨[],ha.1,by simp,by simp only[wgt,wM];omega⟩
 | i :: j :: c,u,v,⟨h1,h2,h3⟩,_=>by
  have hp:plA xs i∈xs:=by
   have e:plA xs i=xs[i]:=by simp[plA,h1]
   rw[e];exact List.getElem_mem h1
  have ha:=hw.all _ hp
  obtain ⟨c',g1,g2,g3⟩:=wk_wm hw hv h3 (by simp)
  obtain ⟨_,⟨k1,k2⟩,_⟩:=hv _ hp
  subst h2
  refine ⟨(plA xs i).t.toNat :: c',⟨ha.1,g1⟩,fun x hx=>?_,?_⟩
  ·rcases List.mem_cons.1 hx with rfl|h
   ·omega
   ·exact g2 x h
  ·have e:wgt xs r.1 r.2 (i :: j :: c)=pw r.1 r.2 (plA xs i)+wgt xs r.1 r.2 (j :: c):=rfl
   rw[e]
   simp only[wM]
   omega
structure CrOk (xs:List Pl) (n:Nat) (r:Int × Int) (s:Nat→Nat→Int):Prop where
 v:∀ p∈xs,okPl n p
 mx:MaxR xs r
 w:WmOk n xs r (wmT n xs r)
 np:NoPos (entN (wmT n xs r)) n
 st:StarOk (entN (wmT n xs r)) n s
abbrev crB (xs:List Pl) (r:Int × Int) (s:Nat→Nat→Int) (i:Nat):Bool:=isCr s r.1 r.2 (plA xs i)
theorem crB_iff {xs:List Pl}{r:Int × Int}{s:Nat→Nat→Int}{i:Nat}:crB xs r s i=true↔s (plA xs i).f.toNat (plA xs i).t.toNat≠BOT∧pw r.1 r.2 (plA xs i)+s (plA xs i).f.toNat (plA xs i).t.toNat=0:=by
 unfold crB isCr
 simp
theorem CrOk.at {xs:List Pl}{n:Nat}{r:Int × Int}{s:Nat→Nat→Int} (h:CrOk xs n r s) {i:Nat} (hi:i<xs.length):(0≤(plA xs i).f∧(plA xs i).f.toNat<n)∧(0≤(plA xs i).t∧(plA xs i).t.toNat<n)∧plA xs i∈xs:=by
 have hp:plA xs i∈xs:=by
  have e:plA xs i=xs[i]:=by simp[plA,hi]
  rw[e];exact List.getElem_mem hi
 obtain ⟨⟨k1,k2⟩,⟨k3,k4⟩,_⟩:=h.v _ hp
 exact ⟨⟨k1,by omega⟩,⟨k3,by omega⟩,hp⟩
theorem CrOk.crit {xs:List Pl}{n:Nat}{r:Int × Int}{s:Nat→Nat→Int} (h:CrOk xs n r s) {c:List Nat} (hc:Circ xs c) (hz:wgt xs r.1 r.2 c=0) {i:Nat} (hi:i∈c):crB xs r s i=true:=by
 have hil:=hc.wk.lt i hi
 obtain ⟨⟨k1,k2⟩,⟨k3,k4⟩,hp⟩:=h.at hil
 obtain ⟨a,b,rfl⟩:=List.append_of_mem hi
 obtain ⟨m,w1,w2,w3,w4⟩:=Wk.app.1 hc.wk
 have hwk:Wk xs (plA xs i).t (b++a) (plA xs i).f:=Wk.app.2 ⟨_,w4,w3▸w1⟩
 have hwt:wgt xs r.1 r.2 (b++a)=- pw r.1 r.2 (plA xs i):=by
  rw[wgt_app] at hz ⊢
  have e:wgt xs r.1 r.2 (i :: b)=pw r.1 r.2 (plA xs i)+wgt xs r.1 r.2 b:=rfl
  omega
 rw[crB_iff]
 by_cases hne:b++a=[]
 ·rw[hne] at hwk hwt
  have e:(plA xs i).t=(plA xs i).f:=hwk
  have hd:=star_dia0 h.np h.st.some h.st.dia k2
  have hd2:=(h.st.dia _ k2).1
  rw[e,hd]
  have e0:wgt xs r.1 r.2 ([]:List Nat)=0:=rfl
  exact ⟨by decide,by omega⟩
 ·obtain ⟨c',g1,g2,g3⟩:=wk_wm h.w h.v hwk hne
  have ha:=h.st.all _ _ c' k4 k2 g2 g1
  have hg:=gap_nn h.w h.np h.st (f:=(plA xs i).f.toNat) (u:=(plA xs i).t.toNat) k2 k4 hp (by omega) (by omega) ha.1
  exact ⟨ha.1,by omega⟩
theorem CrOk.back {xs:List Pl}{n:Nat}{r:Int × Int}{s:Nat→Nat→Int} (h:CrOk xs n r s):∀ {c:List Nat}{u v:Int},Wk xs u c v→c≠[]→(∀ i∈c,crB xs r s i=true)→(v.toNat<n)∧s u.toNat v.toNat≠BOT∧- wgt xs r.1 r.2 c≤s u.toNat v.toNat
 | [],_,_,_,hn,_=>absurd rfl hn
 | [i],u,v,⟨h1,h2,h3⟩,_,ha=>by
  have h3':(plA xs i).t=v:=h3
  subst h2 h3'
  have hcr:=crB_iff.1 (ha i (by simp))
  refine ⟨(h.at h1).2.1.2,hcr.1,?_⟩
  have e:wgt xs r.1 r.2 [i]=pw r.1 r.2 (plA xs i)+0:=rfl
  omega
 | i :: j :: c,u,v,⟨h1,h2,h3⟩,_,ha=>by
  obtain ⟨g0,g1,g2⟩:=h.back h3 (by simp) (fun x hx=>ha x (by simp[hx]))
  obtain ⟨⟨k1,k2⟩,⟨k3,k4⟩,hp⟩:=h.at h1
  have hcr:=crB_iff.1 (ha i (by simp))
  subst h2
  have:=star_super h.st (u:=v.toNat) (m:=(plA xs i).t.toNat) (v:=(plA xs i).f.toNat) g0 k4 k2 g1 hcr.1
  have e:wgt xs r.1 r.2 (i :: j :: c)=pw r.1 r.2 (plA xs i)+wgt xs r.1 r.2 (j :: c):=rfl
  exact ⟨g0,this.1,by omega⟩
theorem CrOk.zero {xs:List Pl}{n:Nat}{r:Int × Int}{s:Nat→Nat→Int} (h:CrOk xs n r s) {c:List Nat} (hc:Circ xs c) (ha:∀ i∈c,crB xs r s i=true):wgt xs r.1 r.2 c=0:=by
 obtain ⟨g0,g1,g2⟩:=h.back hc.wk hc.ne ha
 have hd:=star_dia0 h.np h.st.some h.st.dia g0
 have:=h.mx.le c hc
 omega
theorem CrOk.none {xs:List Pl}{n:Nat}{r:Int × Int}{s:Nat→Nat→Int} (h:CrOk xs n r s) {k:Nat}{l:List Nat} (hp:PathC xs l) {i:Nat} (hi:i∈l) (hcr:crB xs r s i=false):growC xs r.1 r.2 (-1) k l=[]:=by
 refine Classical.byContradiction fun hne=>?_
 obtain ⟨g1,g2⟩:=growC_sound hp hne
 obtain ⟨e,he⟩:=growC_pre hne
 have hz:wgt xs r.1 r.2 (growC xs r.1 r.2 (-1) k l)=0:=by
  have:=h.mx.le _ g1;omega
 have:=h.crit g1 hz (i:=i) (by rw[he];simp[hi])
 rw[hcr] at this;cases this
theorem PathC.circ {xs:List Pl}{l:List Nat} (hp:PathC xs l) (h:lastT xs l=firstF xs l):Circ xs l:=⟨hp.ne,by have:=hp.wk;rwa [h] at this,hp.nd,hp.mn⟩
end
section
open Go Go.RowKit
attribute [local irreducible] AL AD AW OpOk Le AC thenQ blockQ EndQ
abbrev DB (b:Bool):D:=.v (.bool b)
def brF (n:Nat) (g:Nat→Bool):List (List D):=(List.range n).map fun j=>[DB (g j)]
def btF (m n:Nat) (F:Nat→Nat→Bool):List (List (List D)):=(List.range m).map fun i=>brF n (F i)
theorem brF_len [Mode] {n:Nat}{g:Nat→Bool}:(brF n g).length=n:=by simp[brF]
theorem btF_len [Mode] {m n:Nat}{F:Nat→Nat→Bool}:(btF m n F).length=m:=by simp[btF]
theorem brF_get [Mode] {n j:Nat}{g:Nat→Bool} (h:j<n):(brF n g)[j]? = some [DB (g j)]:=by simp[brF,h]
theorem btF_get [Mode] {m n i:Nat}{F:Nat→Nat→Bool} (h:i<m):(btF m n F)[i]? = some (brF n (F i)):=by simp[btF,h]
theorem btF_succ [Mode] {m n:Nat}{F:Nat→Nat→Bool}:btF (m+1) n F=btF m n F++[brF n (F m)]:=by simp[btF,List.range_succ]
theorem brF_set [Mode] {n i:Nat}{g g':Nat→Bool}{b:Bool} (h:∀ j,g' j=if j=i then b else g j):(brF n g).set i [DB b]=brF n g':=by
 apply List.ext_getElem?
 intro j
 by_cases hj:j<n
 ·rw[brF_get hj,List.getElem?_set,h j]
  by_cases e:i=j
  ·subst e;simp[brF,hj]
  ·rw[if_neg e,if_neg (fun h=>e h.symm),brF_get hj]
 ·rw[List.getElem?_eq_none (by simp[brF];omega),List.getElem?_eq_none (by rw[brF_len];omega)]
theorem brF_0 [Mode] {n:Nat}:List.replicate n [DB false]=brF n (fun _=>false):=by
 apply List.ext_getElem?
 intro j
 by_cases hj:j<n
 ·rw[brF_get hj,List.getElem?_replicate,if_pos hj]
 ·rw[List.getElem?_eq_none (by simp;omega),List.getElem?_eq_none (by rw[brF_len];omega)]
section
variable (a : Nat → Nat → Int)
def rcS (i k:Nat) (g:Nat→Bool):Nat→Bool:=if g k=true∧a i k≠BOT then (fun j=>if j=i then true else g j) else g
def rcJ (i:Nat):Nat→(Nat→Bool)→Nat→Bool
 | 0,g=>g
 | k+1,g=>rcS a i k (rcJ i k g)
def rcI (n:Nat):Nat→(Nat→Bool)→Nat→Bool
 | 0,g=>g
 | i+1,g=>rcJ a i n (rcI n i g)
def rcV (n:Nat):Nat→(Nat→Bool)→Nat→Bool
 | 0,g=>g
 | m+1,g=>rcI a n n (rcV n m g)
def rchF (n v:Nat):Nat→Bool:=rcV a n n (fun j=>decide (j=v))
variable {a}
theorem rcS_mono [Mode] {i k j:Nat}{g:Nat→Bool} (h:g j=true):rcS a i k g j=true:=by
 unfold rcS;split
 ·simp only;split
  ·rfl
  ·exact h
 ·exact h
theorem rcJ_mono [Mode] {i j:Nat}{g:Nat→Bool} (h:g j=true):∀ k,rcJ a i k g j=true
 | 0=>h
 | k+1=>rcS_mono (rcJ_mono h k)
theorem rcI_mono [Mode] {n j:Nat}{g:Nat→Bool} (h:g j=true):∀ k,rcI a n k g j=true
 | 0=>h
 | k+1=>rcJ_mono (rcI_mono h k) n
theorem rcV_mono [Mode] {n j:Nat}{g:Nat→Bool} (h:g j=true):∀ k,rcV a n k g j=true
 | 0=>h
 | k+1=>rcI_mono (rcV_mono h k) n
theorem rcJ_hit [Mode] {i k:Nat}{g:Nat→Bool} (h:g k=true) (hw:a i k≠BOT):∀ m,k<m→rcJ a i m g i=true
 | m+1,hk=>by
  by_cases e:k=m
  ·subst e
   simp only[rcJ,rcS]
   rw[if_pos ⟨rcJ_mono h k,hw⟩]
   simp
  ·exact rcS_mono (rcJ_hit h hw m (by omega))
theorem rcI_hit [Mode] {n i k:Nat}{g:Nat→Bool} (h:g k=true) (hk:k<n) (hw:a i k≠BOT):∀ m,i<m→rcI a n m g i=true
 | m+1,hi=>by
  by_cases e:i=m
  ·subst e;exact rcJ_hit (rcI_mono h i) hw n hk
  ·exact rcJ_mono (rcI_hit h hk hw m (by omega)) n
section
variable {n : Nat} {R : Nat → Prop} (hR : ∀ i k, i < n → k < n → R k → a i k ≠ BOT → R i)
include hR
theorem rcS_snd [Mode] {i k:Nat} (hi:i<n) (hk:k<n) {g:Nat→Bool} (h:∀ j,j<n→g j=true→R j):∀ j,j<n→rcS a i k g j=true→R j:=fun j hj hg=>by
 unfold rcS at hg
 split at hg
 ·rename_i hc
  simp only at hg
  split at hg
  ·rename_i e;subst e;exact hR _ _ hi hk (h k hk hc.1) hc.2
  ·exact h j hj hg
 ·exact h j hj hg
theorem rcJ_snd [Mode] {i:Nat} (hi:i<n) {g:Nat→Bool} (h:∀ j,j<n→g j=true→R j):∀ k,k≤n→∀ j,j<n→rcJ a i k g j=true→R j
 | 0,_=>h
 | k+1,hk=>rcS_snd hR hi (by omega) (rcJ_snd hi h k (by omega))
theorem rcI_snd [Mode] {g:Nat→Bool} (h:∀ j,j<n→g j=true→R j):∀ i,i≤n→∀ j,j<n→rcI a n i g j=true→R j
 | 0,_=>h
 | i+1,hi=>rcJ_snd hR (by omega) (rcI_snd h i (by omega)) n (Nat.le_refl _)
theorem rcV_snd [Mode] {g:Nat→Bool} (h:∀ j,j<n→g j=true→R j):∀ m,∀ j,j<n→rcV a n m g j=true→R j
 | 0=>h
 | m+1=>rcI_snd hR (rcV_snd h m) n (Nat.le_refl _)
end
end
theorem btM_get [Mode] {m n i:Nat}{F:Nat→Nat→Bool} (h:i<m):(mRows 1 (btF m n F))[((i:Nat):Int).toNat]? = some [.sl 1 (brF n (F i))]:=by simp[mRows,btF_get h]
set_option maxHeartbeats 8000000 in
theorem l05Reach_ac [Mode] (T:List (List Int)) (n:Nat) (hT:Sq T n) (hn:n≤1000):AC Tryz.prog 160 [TL T] H0 (own1 1 n) (hpM 1 (btF n n (rchF (entN T) n))):=by
 have htl:(mRows 1 (TR T)).length=n:=by simp[hT.l]
 have hsg:∀ i j,i<n→j<n→∃ r,(mRows 1 (TR T))[((i:Nat):Int).toNat]? = some [.sl 1 (IR r)]∧(IR r)[((j:Nat):Int).toNat]? = some [DI (entN T i j)]∧(IR r).length=n:=fun i j hi hj=>by
  obtain ⟨r,h1,h2,h3⟩:=hT.get hi hj
  exact ⟨r,TR_get h1,IR_get h2,by rw[IR_len,h3]⟩
 generalize entN T=a at *
 refine AC.of_body 0 Tryz.func160 rfl (fun l h=>absurd rfl h) (fun C hC=>?_)
 have hD:∀ l,¬ C.D0 l:=fun l h=>(hC l).1 h rfl
 simp only[startFr,Tryz.ntmps160,List.length_cons,List.length_nil,Nat.reduceAdd,Nat.reduceSub,List.replicate_succ,List.replicate_zero,List.cons_append,List.nil_append]
 repeat' (first|((first|apply Ba|(apply Bb;(· rfl);(· rfl))|(apply Bc;(· exact nxE))|(apply Bd;(· rfl);(· rfl);(· exact nxE)));(· first|exact Ok.lenD rfl rfl htl|exact Ok.pe))|((first|apply Ca|(apply Cb;(· exact nxE)));(· first|exact Ok.e0))|refine Sx ?_|(refine Sy (fun h=>?_) (fun h=>?_)<;>try (exfalso;omega;done))|refine Sz (fun h=>?_) (fun h=>?_))
 refine AW.loop (X:={k:Nat // k≤n}) (fun k=>⟨[TL T,Oo,Oo,I n,.own 1 ⟨1,[]⟩ 0 (k.1:Nat),I (k.1:Nat),Oo,Oo,Oo,Oo,Oo,Oo,Oo,Oo,Oo,Oo,Oo,Oo,Oo,Oo,Oo,Oo,Oo,Oo,Oo,Oo,Oo,Oo,Oo,Oo,Oo,Oo,Oo,Oo,Oo,Oo,Oo,Oo,Oo,Oo,Oo,Oo,Oo,Oo,Oo,Oo,Oo,Oo,Oo,Oo,Oo,Oo,Oo,Oo,Oo,Oo,Oo,Oo,Oo,Oo],heapX [] [mi1 ⟨1,[]⟩ (btF k.1 n (rchF a n))],900⟩) (fun k=>n - k.1) ⟨0,Nat.zero_le _⟩ ?_ (fun k=>?_)
 ·
  (apply Le.headG [] [{ l:=⟨1,[]⟩,k:=1,R:=btF 0 n (rchF a n),src:=⟨4,[]⟩,base:=⟨4,[]⟩ }] (fun _=>False))
  (case' hlen=>rfl)
  (case' hms=>rfl)
  all_goals (try dsimp only[srcs])
  (case' hfr|hob=>(repeat' (first|refine La ?_ ?_|exact Lc|refine Lo ?_|refine ⟨⟨_,rfl,?_⟩,?_⟩|refine Lx ?_)))
  (case' hok=>first|exact ⟨MI.ok_same rfl (fun i x hx=>by simp[btF] at hx),trivial⟩|exact trivial)
  (case' hN=>rfl)
  (case' hS=>rfl)
  all_goals (first|exact Ld|(rfl))
 obtain ⟨v,hv⟩:=k
 simp only
 by_cases hlt:v<n
 ·have hrow0:(List.replicate n [DB false]).set v [DB true]=brF n (fun j=>decide (j=v)):=by rw[brF_0];exact brF_set (fun j=>by by_cases e:j=v<;>simp[e])
  have hF:rchF a n v=rcV a n n (fun j=>decide (j=v)):=rfl
  generalize hg0:(fun j=>decide (j=v))=g0 at hrow0 hF
  repeat' (first|((first|apply Ba|(apply Bb;(· rfl);(· rfl))|(apply Bc;(· exact nxE))|(apply Bd;(· rfl);(· rfl);(· exact nxE)));(· first|exact Ok.st1 rfl rfl rfl (by rw[List.length_replicate];exact hlt) (by simp[hlt];rfl) rfl rfl hrow0|exact Ok.pe))|((first|apply Ca|(apply Cb;(· exact nxE)));(· first|exact Ok.st1 rfl rfl rfl (by rw[List.length_replicate];exact hlt) (by simp[hlt];rfl) rfl rfl hrow0|exact Ok.e0))|refine Sx ?_|(refine Sy (fun h=>?_) (fun h=>?_)<;>try (exfalso;omega;done))|refine Sz (fun h=>?_) (fun h=>?_))
  refine AW.loop (X:={k:Nat // k≤n}) (fun k=>⟨[TL T,Oo,Oo,I n,.own 1 ⟨1,[]⟩ 0 v,I v,.own 1 ⟨2,[]⟩ 0 n,I (k.1:Nat),Oo,Oo,Oo,Oo,Oo,Oo,Oo,Oo,Oo,Oo,Oo,Oo,Oo,Oo,Oo,Oo,Oo,Oo,Oo,Oo,Oo,Oo,Oo,Oo,Oo,Oo,Oo,Oo,Oo,Oo,Oo,Oo,Oo,Oo,Oo,Oo,Oo,Oo,Oo,Oo,Oo,Oo,Oo,Oo,Oo,Oo,Oo,Oo,Oo,Oo,Oo,Oo],heapX [(⟨2,[]⟩,⟨2,[]⟩,dobj 1 (brF n (rcV a n k.1 g0)))] [mi1 ⟨1,[]⟩ (btF v n (rchF a n))],900⟩) (fun k=>n - k.1) ⟨0,Nat.zero_le _⟩ ?_ (fun k=>?_)
  ·
   (apply Le.headG [_] [mi1 ⟨1,[]⟩ (btF v n (rchF a n))] (fun _=>False))
   (case' hlen=>rfl)
   (case' hms=>rfl)
   all_goals (try dsimp only[srcs])
   (case' hfr|hob=>(repeat' (first|refine La ?_ ?_|exact Lc|refine Lo ?_|refine ⟨⟨_,rfl,?_⟩,?_⟩|refine Lx ?_)))
   (case' hok=>first|exact ⟨MI.ok_same rfl (Cg),trivial⟩|exact trivial)
   (case' hN=>rfl)
   (case' hS=>rfl)
   all_goals (first|exact Ld|(rfl))
  obtain ⟨m,hm⟩:=k
  simp only
  by_cases hlt1:m<n
  ·have hst1:rcV a n (m+1) g0=rcI a n n (rcV a n m g0):=rfl
   generalize rcV a n m g0=g1 at hst1 ⊢
   repeat' (first|((first|apply Ba|(apply Bb;(· rfl);(· rfl))|(apply Bc;(· exact nxE))|(apply Bd;(· rfl);(· rfl);(· exact nxE)));(· first|exact Ok.pe))|((first|apply Ca|(apply Cb;(· exact nxE)));(· first|exact Ok.e0))|refine Sx ?_|(refine Sy (fun h=>?_) (fun h=>?_)<;>try (exfalso;omega;done))|refine Sz (fun h=>?_) (fun h=>?_))
   refine AW.loop (X:={k:Nat // k≤n}) (fun k=>⟨[TL T,Oo,Oo,I n,.own 1 ⟨1,[]⟩ 0 v,I v,.own 1 ⟨2,[]⟩ 0 n,I m,I (k.1:Nat),Oo,Oo,Oo,Oo,Oo,Oo,Oo,Oo,Oo,Oo,Oo,Oo,Oo,Oo,Oo,Oo,Oo,Oo,Oo,Oo,Oo,Oo,Oo,Oo,Oo,Oo,Oo,Oo,Oo,Oo,Oo,Oo,Oo,Oo,Oo,Oo,Oo,Oo,Oo,Oo,Oo,Oo,Oo,Oo,Oo,Oo,Oo,Oo,Oo,Oo,Oo],heapX [(⟨2,[]⟩,⟨2,[]⟩,dobj 1 (brF n (rcI a n k.1 g1)))] [mi1 ⟨1,[]⟩ (btF v n (rchF a n))],900⟩) (fun k=>n - k.1) ⟨0,Nat.zero_le _⟩ ?_ (fun k=>?_)
   ·
    (apply Le.headG [_] [mi1 ⟨1,[]⟩ (btF v n (rchF a n))] (fun _=>False))
    (case' hlen=>rfl)
    (case' hms=>rfl)
    all_goals (try dsimp only[srcs])
    (case' hfr|hob=>(repeat' (first|refine La ?_ ?_|exact Lc|refine Lo ?_|refine ⟨⟨_,rfl,?_⟩,?_⟩|refine Lx ?_)))
    (case' hok=>first|exact ⟨MI.ok_same rfl (Cg),trivial⟩|exact trivial)
    (case' hN=>rfl)
    (case' hS=>rfl)
    all_goals (first|exact Ld|(rfl))
   obtain ⟨i,hi⟩:=k
   simp only
   by_cases hlt2:i<n
   ·have hst2:rcI a n (i+1) g1=rcJ a i n (rcI a n i g1):=rfl
    generalize rcI a n i g1=g2 at hst2 ⊢
    repeat' (first|((first|apply Ba|(apply Bb;(· rfl);(· rfl))|(apply Bc;(· exact nxE))|(apply Bd;(· rfl);(· rfl);(· exact nxE)));(· first|exact Ok.pe))|((first|apply Ca|(apply Cb;(· exact nxE)));(· first|exact Ok.e0))|refine Sx ?_|(refine Sy (fun h=>?_) (fun h=>?_)<;>try (exfalso;omega;done))|refine Sz (fun h=>?_) (fun h=>?_))
    refine AW.loop (X:={k:Nat // k≤n}) (fun k=>⟨[TL T,Oo,Oo,I n,.own 1 ⟨1,[]⟩ 0 v,I v,.own 1 ⟨2,[]⟩ 0 n,I m,I i,I (k.1:Nat),Oo,Oo,Oo,Oo,Oo,Oo,Oo,Oo,Oo,Oo,Oo,Oo,Oo,Oo,Oo,Oo,Oo,Oo,Oo,Oo,Oo,Oo,Oo,Oo,Oo,Oo,Oo,Oo,Oo,Oo,Oo,Oo,Oo,Oo,Oo,Oo,Oo,Oo,Oo,Oo,Oo,Oo,Oo,Oo,Oo,Oo,Oo,Oo,Oo,Oo],heapX [(⟨2,[]⟩,⟨2,[]⟩,dobj 1 (brF n (rcJ a i k.1 g2)))] [mi1 ⟨1,[]⟩ (btF v n (rchF a n))],900⟩) (fun k=>n - k.1) ⟨0,Nat.zero_le _⟩ ?_ (fun k=>?_)
    ·
     (apply Le.headG [_] [mi1 ⟨1,[]⟩ (btF v n (rchF a n))] (fun _=>False))
     (case' hlen=>rfl)
     (case' hms=>rfl)
     all_goals (try dsimp only[srcs])
     (case' hfr|hob=>(repeat' (first|refine La ?_ ?_|exact Lc|refine Lo ?_|refine ⟨⟨_,rfl,?_⟩,?_⟩|refine Lx ?_)))
     (case' hok=>first|exact ⟨MI.ok_same rfl (Cg),trivial⟩|exact trivial)
     (case' hN=>rfl)
     (case' hS=>rfl)
     all_goals (first|exact Ld|(rfl))
    obtain ⟨j,hj⟩:=k
    simp only
    by_cases hlt3:j<n
    ·obtain ⟨r,h1,h2,h3⟩:=hsg i j hlt2 hlt3
     have hst3:rcJ a i (j+1) g2=if rcJ a i j g2 j=true∧a i j≠BOT then (fun b=>if b=i then true else rcJ a i j g2 b) else rcJ a i j g2:=rfl
     generalize rcJ a i j g2=g3 at hst3 ⊢
     generalize a i j=x at h2 hst3
     have hbl:(brF n g3).length=n:=brF_len
     have hbj:=brF_get (g:=g3) hlt3
     have hbi:=brF_get (g:=g3) hlt2
     have hset:(brF n g3).set i [DB true]=brF n (fun b=>if b=i then true else g3 b):=brF_set (fun _=>rfl)
     generalize g3 j=y at hbj hst3
     repeat' (first|((first|apply Ba|(apply Bb;(· rfl);(· rfl))|(apply Bc;(· exact nxE))|(apply Bd;(· rfl);(· rfl);(· exact nxE)));(· first|exact Ok.ld1 rfl rfl rfl hbj|exact Ok.st1 rfl rfl rfl (by rw[hbl];exact hlt2) (by rw[hbi];rfl) rfl rfl hset|exact Ok.pe))|((first|apply Ca|(apply Cb;(· exact nxE)));(· first|exact Ok.st1 rfl rfl rfl (by rw[hbl];exact hlt2) (by rw[hbi];rfl) rfl rfl hset|exact Ok.e0))|refine Sx ?_|(refine Sy (fun h=>?_) (fun h=>?_)<;>try (exfalso;omega;done))|refine Sz (fun h=>?_) (fun h=>?_))
     all_goals
      first|rw[if_pos ⟨by assumption,by assumption⟩] at hst3|rw[if_neg (by simp_all [BOT])] at hst3
      refine ⟨⟨j+1,by omega⟩,?_,by simp only;omega⟩
      simp only[hst3]
      (apply Le.headG [_] [mi1 ⟨1,[]⟩ (btF v n (rchF a n))] (fun _=>False))
      (case' hlen=>rfl)
      (case' hms=>rfl)
      all_goals (try dsimp only[srcs])
      (case' hfr|hob=>(repeat' (first|refine La ?_ ?_|exact Lc|refine Lo ?_|refine ⟨⟨_,rfl,?_⟩,?_⟩|refine Lx ?_)))
      (case' hok=>first|exact ⟨MI.ok_same rfl (Cg),trivial⟩|exact trivial)
      (case' hN=>rfl)
      (case' hS=>rfl)
      all_goals (first|exact Ld|(rfl))
    ·obtain rfl:j=n:=by omega
     rw[← hst2]
     repeat' (first|((first|apply Ba|(apply Bb;(· rfl);(· rfl))|(apply Bc;(· exact nxE))|(apply Bd;(· rfl);(· rfl);(· exact nxE)));(· first|exact Ok.pe))|((first|apply Ca|(apply Cb;(· exact nxE)));(· first|exact Ok.e0))|refine Sx ?_|(refine Sy (fun h=>?_) (fun h=>?_)<;>try (exfalso;omega;done))|refine Sz (fun h=>?_) (fun h=>?_))
     refine ⟨⟨i+1,by omega⟩,?_,by simp only;omega⟩
     (apply Le.headG [_] [mi1 ⟨1,[]⟩ (btF v j (rchF a j))] (fun _=>False))
     (case' hlen=>rfl)
     (case' hms=>rfl)
     all_goals (try dsimp only[srcs])
     (case' hfr|hob=>(repeat' (first|refine La ?_ ?_|exact Lc|refine Lo ?_|refine ⟨⟨_,rfl,?_⟩,?_⟩|refine Lx ?_)))
     (case' hok=>first|exact ⟨MI.ok_same rfl (Cg),trivial⟩|exact trivial)
     (case' hN=>rfl)
     (case' hS=>rfl)
     all_goals (first|exact Ld|(rfl))
   ·obtain rfl:i=n:=by omega
    rw[← hst1]
    repeat' (first|((first|apply Ba|(apply Bb;(· rfl);(· rfl))|(apply Bc;(· exact nxE))|(apply Bd;(· rfl);(· rfl);(· exact nxE)));(· first|exact Ok.pe))|((first|apply Ca|(apply Cb;(· exact nxE)));(· first|exact Ok.e0))|refine Sx ?_|(refine Sy (fun h=>?_) (fun h=>?_)<;>try (exfalso;omega;done))|refine Sz (fun h=>?_) (fun h=>?_))
    refine ⟨⟨m+1,by omega⟩,?_,by simp only;omega⟩
    (apply Le.headG [_] [mi1 ⟨1,[]⟩ (btF v i (rchF a i))] (fun _=>False))
    (case' hlen=>rfl)
    (case' hms=>rfl)
    all_goals (try dsimp only[srcs])
    (case' hfr|hob=>(repeat' (first|refine La ?_ ?_|exact Lc|refine Lo ?_|refine ⟨⟨_,rfl,?_⟩,?_⟩|refine Lx ?_)))
    (case' hok=>first|exact ⟨MI.ok_same rfl (Cg),trivial⟩|exact trivial)
    (case' hN=>rfl)
    (case' hS=>rfl)
    all_goals (first|exact Ld|(rfl))
  ·obtain rfl:m=n:=by omega
   rw[← hF]
   have hbl:(brF m (rchF a m v)).length=m:=brF_len
   have hol:(btF v m (rchF a m)).length=v:=btF_len
   repeat' (first|((first|apply Ba|(apply Bb;(· rfl);(· rfl))|(apply Bc;(· exact nxE))|(apply Bd;(· rfl);(· rfl);(· exact nxE)));(· first|exact Ok.appendT rfl rfl (by decide) rfl rfl rfl (by simp[outer_len,btF_len];done) rfl rfl (by rfl) (by omega) (by omega) rfl|exact Ok.pe))|((first|apply Ca|(apply Cb;(· exact nxE)));(· first|exact Ok.appendT rfl rfl (by decide) rfl rfl rfl (by simp[outer_len,btF_len];done) rfl rfl (by rfl) (by omega) (by omega) rfl|exact Ok.e0))|refine Sx ?_|(refine Sy (fun h=>?_) (fun h=>?_)<;>try (exfalso;omega;done))|refine Sz (fun h=>?_) (fun h=>?_))
   refine ⟨⟨v+1,by omega⟩,?_,by simp only;omega⟩
   (apply Le.headG [] [{ l:=⟨1,[]⟩,k:=1,R:=btF (v+1) m (rchF a m),src:=⟨906,[]⟩,base:=⟨1,[]⟩,cut:=v,ext:=some ⟨2,[]⟩ }] (fun _=>False))
   (case' hlen=>rfl)
   (case' hms=>rfl)
   all_goals (try dsimp only[srcs])
   (case' hfr|hob=>(repeat' (first|refine La ?_ ?_|exact Lc|refine Lo ?_|refine ⟨⟨_,rfl,?_⟩,?_⟩|refine Lx ?_)))
   (case' hok=>first|exact ⟨MI.ok_app btF_succ btF_len hbl rfl (Cg) rfl,trivial⟩|exact trivial)
   (case' hN=>rfl)
   (case' hS=>rfl)
   all_goals (first|exact Ld|((simp[AllP,btF];done)))
 ·obtain rfl:v=n:=by omega
  repeat' (first|((first|apply Ba|(apply Bb;(· rfl);(· rfl))|(apply Bc;(· exact nxE))|(apply Bd;(· rfl);(· rfl);(· exact nxE)));(· first|exact Ok.pe))|((first|apply Ca|(apply Cb;(· exact nxE)));(· first|exact Ok.e0))|refine Sx ?_|(refine Sy (fun h=>?_) (fun h=>?_)<;>try (exfalso;omega;done))|refine Sz (fun h=>?_) (fun h=>?_))
  refine Ya ?_
  (apply Le.headG [] [{ l:=⟨0,[]⟩,k:=1,R:=btF v v (rchF a v),src:=⟨1,[]⟩,base:=⟨1,[]⟩ }] (fun _=>False))
  (case' hlen=>rfl)
  (case' hms=>rfl)
  all_goals (try dsimp only[srcs])
  (case' hfr|hob=>(repeat' (first|refine La ?_ ?_|exact Lc|refine Lo ?_|refine ⟨⟨_,rfl,?_⟩,?_⟩|refine Lx ?_)))
  (case' hok=>first|exact ⟨MI.ok_same rfl (Cg),trivial⟩|exact trivial)
  (case' hN=>rfl)
  (case' hS=>rfl)
  all_goals (first|exact Ld|(rfl))
end
end Go.Proofs.YtkpoclbnnpglfaaGreat
