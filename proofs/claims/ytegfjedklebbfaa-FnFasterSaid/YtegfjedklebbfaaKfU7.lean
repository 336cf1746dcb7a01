/-
  Walks in the abstract reading, part 7.
-/
import Derived.Test.YtegfjedklebbfaaKfU5
import Derived.Test.YtegfjedklebbfaaKfU6
import Derived.Test.YtegfjedklebbfaaKfA3
import Derived.Test.YtegfjedklebbfaaKfU4
section
namespace Go.Proofs.Ytegfjedklebbfaa
set_option linter.unusedSimpArgs false
set_option linter.unusedVariables false
open Go Go.RowKit
attribute [local irreducible] AL AD AW OpOk Le AC thenQ blockQ EndQ

theorem l01Times_ac (a b : Int) (h : a ≠ BOT → b ≠ BOT → -9223372036854775808 ≤ a + b ∧ a + b ≤ 9223372036854775807) : AC Try.prog 250 [I a, I b] H0 (I (timesB a b)) H0 := by
  unfold timesB BOT
  unfold BOT at h
  by_cases h1 : a = -1000000000000000
  · rw [if_pos (.inl h1)]
    subst h1
    refine AC.of_body 0 Try.func250 rfl (fun l h => absurd rfl h) (fun C hC => ?_)
    have hD : ∀ l, ¬ C.D0 l := fun l h => (hC l).1 h rfl
    simp only [startFr, Try.ntmps250, List.length_cons, List.length_nil, Nat.reduceAdd, Nat.reduceSub, List.replicate_succ, List.replicate_zero, List.cons_append, List.nil_append]
    repeat' (first | ((first | apply Ba | (apply Bb; (· rfl); (· rfl)) | (apply Bc; (· exact nxE)) | (apply Bd; (· rfl); (· rfl); (· exact nxE))); (· first | exact Ok.pe)) | ((first | apply Ca | (apply Cb; (· exact nxE))); (· first | exact Ok.e0)) | refine Sx ?_ | (refine Sy (fun h => ?_) (fun h => ?_) <;> try (exfalso; omega; done)) | refine Sz (fun h => ?_) (fun h => ?_))
    refine Ya ?_
    (apply Le.headZ (hs := []) [] rfl)
    all_goals (try dsimp only [srcs])
    (case' hfr => (repeat' (first | refine La ?_ ?_ | exact Lc | refine Lo ?_ | refine ⟨⟨_, rfl, ?_⟩, ?_⟩ | refine Lx ?_)))
    all_goals (first | exact Ld | exact trivial | (rfl))
  · by_cases h2 : b = -1000000000000000
    · rw [if_pos (.inr h2)]
      subst h2
      refine AC.of_body 0 Try.func250 rfl (fun l h => absurd rfl h) (fun C hC => ?_)
      have hD : ∀ l, ¬ C.D0 l := fun l h => (hC l).1 h rfl
      simp only [startFr, Try.ntmps250, List.length_cons, List.length_nil, Nat.reduceAdd, Nat.reduceSub, List.replicate_succ, List.replicate_zero, List.cons_append, List.nil_append]
      repeat' (first | ((first | apply Ba | (apply Bb; (· rfl); (· rfl)) | (apply Bc; (· exact nxE)) | (apply Bd; (· rfl); (· rfl); (· exact nxE))); (· first | exact Ok.pe)) | ((first | apply Ca | (apply Cb; (· exact nxE))); (· first | exact Ok.e0)) | refine Sx ?_ | (refine Sy (fun h => ?_) (fun h => ?_) <;> try (exfalso; omega; done)) | refine Sz (fun h => ?_) (fun h => ?_))
      all_goals
        refine Ya ?_
        (apply Le.headZ (hs := []) [] rfl)
        all_goals (try dsimp only [srcs])
        (case' hfr => (repeat' (first | refine La ?_ ?_ | exact Lc | refine Lo ?_ | refine ⟨⟨_, rfl, ?_⟩, ?_⟩ | refine Lx ?_)))
        all_goals (first | exact Ld | exact trivial | (rfl))
    · rw [if_neg (by rintro (h3 | h3); exact h1 h3; exact h2 h3)]
      obtain ⟨h3, h4⟩ := h h1 h2
      refine AC.of_body 0 Try.func250 rfl (fun l h => absurd rfl h) (fun C hC => ?_)
      have hD : ∀ l, ¬ C.D0 l := fun l h => (hC l).1 h rfl
      simp only [startFr, Try.ntmps250, List.length_cons, List.length_nil, Nat.reduceAdd, Nat.reduceSub, List.replicate_succ, List.replicate_zero, List.cons_append, List.nil_append]
      repeat' (first | ((first | apply Ba | (apply Bb; (· rfl); (· rfl)) | (apply Bc; (· exact nxE)) | (apply Bd; (· rfl); (· rfl); (· exact nxE))); (· first | exact Ok.pe)) | ((first | apply Ca | (apply Cb; (· exact nxE))); (· first | exact Ok.e0)) | refine Sx ?_ | (refine Sy (fun h => ?_) (fun h => ?_) <;> try (exfalso; omega; done)) | refine Sz (fun h => ?_) (fun h => ?_))
      all_goals
        refine Ya ?_
        (apply Le.headZ (hs := []) [] rfl)
        all_goals (try dsimp only [srcs])
        (case' hfr => (repeat' (first | refine La ?_ ?_ | exact Lc | refine Lo ?_ | refine ⟨⟨_, rfl, ?_⟩, ?_⟩ | refine Lx ?_)))
        all_goals (first | exact Ld | exact trivial | (rfl))
set_option maxHeartbeats 2000000 in
theorem l02Add_ac (m n : Nat) (a b : List (List Int)) (ha : Rc a m n) (hb : Rc b m n) (hm : m ≤ 1000) (hn : n ≤ 1000) : AC Try.prog 247 [TL a, TL b] H0 (own1 1 m) (hpM 1 (TR (tabF m n (addF a b)))) := by
  have hbl := hb.l
  have hO := l02Own_ac a (by have := ha.l; omega) (fun r hr => by rw [ha.r r hr]; omega)
  rw [ha.l] at hO
  have h0 : tabF m n (mixF (addF a b) (entN a) 0 0) = a := by rw [mixF_0, tabF_self ha]
  rw [← h0] at hO
  rw [h0] at hO
  refine AC.of_body 0 Try.func247 rfl (fun l h => absurd rfl h) (fun C hC => ?_)
  have hD : ∀ l, ¬ C.D0 l := fun l h => (hC l).1 h rfl
  simp only [startFr, Try.ntmps247, List.length_cons, List.length_nil, Nat.reduceAdd, Nat.reduceSub, List.replicate_succ, List.replicate_zero, List.cons_append, List.nil_append]
  repeat' (first | ((first | apply Ba | (apply Bb; (· rfl); (· rfl)) | (apply Bc; (· exact nxE)) | (apply Bd; (· rfl); (· rfl); (· exact nxE))); (· first | exact Tb rfl rfl (hO) (Sd Sn) | exact Ok.pe)) | ((first | apply Ca | (apply Cb; (· exact nxE))); (· first | exact Tb rfl rfl (hO) (Sd Sn) | exact Ok.e0)) | refine Sx ?_ | (refine Sy (fun h => ?_) (fun h => ?_) <;> try (exfalso; omega; done)) | refine Sz (fun h => ?_) (fun h => ?_))
  refine AW.loop (X := {k : Nat // k ≤ m}) (fun k => ⟨[Oo, TL b, Oo, Oo, Oo, .own 1 ⟨1, []⟩ 0 m, I (k.1 : Nat), Oo, Oo, Oo, Oo, Oo, Oo, Oo, Oo, Oo, Oo, Oo, Oo, Oo, Oo, Oo, Oo, Oo, Oo, Oo, Oo, Oo, Oo, Oo, Oo, Oo, Oo, Oo, Oo, Oo, Oo, Oo, Oo, Oo, Oo, Oo, Oo, Oo, Oo, Oo, Oo], heapX [] [mi1 ⟨1, []⟩ (TR (tabF m n (mixF (addF a b) (entN a) k.1 0)))], 900⟩) (fun k => m - k.1) ⟨0, Nat.zero_le _⟩ ?_ (fun k => ?_)
  ·
    (apply Le.headG [] [{ l := ⟨1, []⟩, k := 1, R := TR (tabF m n (mixF (addF a b) (entN a) 0 0)), src := ⟨2, [0]⟩, base := ⟨2, [0]⟩ }] (fun _ => False))
    (case' hlen => rfl)
    (case' hms => rfl)
    all_goals (try dsimp only [srcs])
    (case' hfr | hob => (repeat' (first | refine La ?_ ?_ | exact Lc | refine Lo ?_ | refine ⟨⟨_, rfl, ?_⟩, ?_⟩ | refine Lx ?_)))
    (case' hok => first | exact ⟨by rw [h0]; exact MI.ok_same rfl (Cg), trivial⟩ | exact trivial)
    (case' hN => rfl)
    (case' hS => rfl)
    all_goals (first | exact Ld | (rfl))
  obtain ⟨i, hi⟩ := k
  simp only
  by_cases hlt : i < m
  ·
    repeat' (first | ((first | apply Ba | (apply Bb; (· rfl); (· rfl)) | (apply Bc; (· exact nxE)) | (apply Bd; (· rfl); (· rfl); (· exact nxE))); (· first | exact Ok.pe)) | ((first | apply Ca | (apply Cb; (· exact nxE))); (· first | exact Ok.e0)) | refine Sx ?_ | (refine Sy (fun h => ?_) (fun h => ?_) <;> try (exfalso; omega; done)) | refine Sz (fun h => ?_) (fun h => ?_))
    refine AW.loop (X := {k : Nat // k ≤ n}) (fun k => ⟨[Oo, TL b, Oo, Oo, Oo, .own 1 ⟨1, []⟩ 0 m, I i, I (k.1 : Nat), Oo, Oo, Oo, Oo, Oo, Oo, Oo, Oo, Oo, Oo, Oo, Oo, Oo, Oo, Oo, Oo, Oo, Oo, Oo, Oo, Oo, Oo, Oo, Oo, Oo, Oo, Oo, Oo, Oo, Oo, Oo, Oo, Oo, Oo, Oo, Oo, Oo, Oo, Oo], heapX [] [mi1 ⟨1, []⟩ (TR (tabF m n (mixF (addF a b) (entN a) i k.1)))], 900⟩) (fun k => n - k.1) ⟨0, Nat.zero_le _⟩ ?_ (fun k => ?_)
    ·
      (apply Le.headG [] [mi1 ⟨1, []⟩ (TR (tabF m n (mixF (addF a b) (entN a) i 0)))] (fun _ => False))
      (case' hlen => rfl)
      (case' hms => rfl)
      all_goals (try dsimp only [srcs])
      (case' hfr | hob => (repeat' (first | refine La ?_ ?_ | exact Lc | refine Lo ?_ | refine ⟨⟨_, rfl, ?_⟩, ?_⟩ | refine Lx ?_)))
      (case' hok => first | exact ⟨MI.ok_same rfl (Cg), trivial⟩ | exact trivial)
      (case' hN => rfl)
      (case' hS => rfl)
      all_goals (first | exact Ld | (rfl))
    obtain ⟨j, hj⟩ := k
    simp only
    have hrw := TRF_get (n := n) (f := mixF (addF a b) (entN a) i j) hlt
    have hli : (IR (rowF n (mixF (addF a b) (entN a) i j i))).length = n := by rw [IR_len, rowF_len]
    by_cases hlt2 : j < n
    ·
      obtain ⟨S, hS1, hS2, hS3⟩ := hb.get hlt hlt2
      have hSr := TR_get hS1
      have hSf := IR_get hS2
      have hSl : (IR S).length = n := by rw [IR_len, hS3]
      have hij := IRF_get (g := mixF (addF a b) (entN a) i j i) hlt2
      rw [show mixF (addF a b) (entN a) i j i j = entN a i j by unfold mixF; rw [if_neg (by omega)]] at hij
      have hset : (IR (rowF n (mixF (addF a b) (entN a) i j i))).set j [DI (max (entN a i j) (entN b i j))] = IR ((rowF n (mixF (addF a b) (entN a) i j i)).set j (addF a b i j)) := IR_set
      repeat' (first | ((first | apply Ba | (apply Bb; (· rfl); (· rfl)) | (apply Bc; (· exact nxE)) | (apply Bd; (· rfl); (· rfl); (· exact nxE))); (· first | exact Ok.ldTn rfl rfl rfl hrw hli | exact Ok.ld1 rfl rfl (congrArg (Option.map (dobj 1)) hrw) hij | exact Ok.st1 rfl rfl (congrArg (Option.map (dobj 1)) hrw) (by rw [hli]; omega) (by rw [hij]; rfl) rfl rfl hset | exact Ok.pe)) | ((first | apply Ca | (apply Cb; (· exact nxE))); (· first | exact Ok.st1 rfl rfl (congrArg (Option.map (dobj 1)) hrw) (by rw [hli]; omega) (by rw [hij]; rfl) rfl rfl hset | exact Ok.e0)) | refine Sx ?_ | (refine Sy (fun h => ?_) (fun h => ?_) <;> try (exfalso; omega; done)) | refine Sz (fun h => ?_) (fun h => ?_))
      refine ⟨⟨j + 1, by omega⟩, ?_, by simp only; omega⟩
      (apply Le.headG [] [mi1 ⟨1, []⟩ (TR (tabF m n (mixF (addF a b) (entN a) i (j + 1))))] (fun _ => False))
      (case' hlen => rfl)
      (case' hms => rfl)
      all_goals (try dsimp only [srcs])
      (case' hfr | hob => (repeat' (first | refine La ?_ ?_ | exact Lc | refine Lo ?_ | refine ⟨⟨_, rfl, ?_⟩, ?_⟩ | refine Lx ?_)))
      (case' hok => first | exact ⟨MI.ok_row (tabF_set (fun a b _ _ => mixF_set)) hrw (by simp) rfl (Cg), trivial⟩ | exact trivial)
      (case' hN => rfl)
      (case' hS => rfl)
      all_goals (first | exact Ld | (rfl))
    ·
      obtain rfl : j = n := by omega
      repeat' (first | ((first | apply Ba | (apply Bb; (· rfl); (· rfl)) | (apply Bc; (· exact nxE)) | (apply Bd; (· rfl); (· rfl); (· exact nxE))); (· first | exact Ok.ldTn rfl rfl rfl hrw hli | exact Ok.pe)) | ((first | apply Ca | (apply Cb; (· exact nxE))); (· first | exact Ok.e0)) | refine Sx ?_ | (refine Sy (fun h => ?_) (fun h => ?_) <;> try (exfalso; omega; done)) | refine Sz (fun h => ?_) (fun h => ?_))
      refine ⟨⟨i + 1, by omega⟩, ?_, by simp only; omega⟩
      simp only
      rw [← mixF_row]
      (apply Le.headG [] [mi1 ⟨1, []⟩ (TR (tabF m j (mixF (addF a b) (entN a) i j)))] (fun _ => False))
      (case' hlen => rfl)
      (case' hms => rfl)
      all_goals (try dsimp only [srcs])
      (case' hfr | hob => (repeat' (first | refine La ?_ ?_ | exact Lc | refine Lo ?_ | refine ⟨⟨_, rfl, ?_⟩, ?_⟩ | refine Lx ?_)))
      (case' hok => first | exact ⟨MI.ok_same rfl (Cg), trivial⟩ | exact trivial)
      (case' hN => rfl)
      (case' hS => rfl)
      all_goals (first | exact Ld | (rfl))
  ·
    obtain rfl : i = m := by omega
    rw [mixF_all]
    repeat' (first | ((first | apply Ba | (apply Bb; (· rfl); (· rfl)) | (apply Bc; (· exact nxE)) | (apply Bd; (· rfl); (· rfl); (· exact nxE))); (· first | exact Ok.pe)) | ((first | apply Ca | (apply Cb; (· exact nxE))); (· first | exact Ok.e0)) | refine Sx ?_ | (refine Sy (fun h => ?_) (fun h => ?_) <;> try (exfalso; omega; done)) | refine Sz (fun h => ?_) (fun h => ?_))
    refine Ya ?_
    (apply Le.headG [] [{ l := ⟨0, []⟩, k := 1, R := TR (tabF i n (addF a b)), src := ⟨1, []⟩, base := ⟨1, []⟩ }] (fun _ => False))
    (case' hlen => rfl)
    (case' hms => rfl)
    all_goals (try dsimp only [srcs])
    (case' hfr | hob => (repeat' (first | refine La ?_ ?_ | exact Lc | refine Lo ?_ | refine ⟨⟨_, rfl, ?_⟩, ?_⟩ | refine Lx ?_)))
    (case' hok => first | exact ⟨MI.ok_same rfl (Cg), trivial⟩ | exact trivial)
    (case' hN => rfl)
    (case' hS => rfl)
    all_goals (first | exact Ld | (rfl))
end Go.Proofs.Ytegfjedklebbfaa
end

section
namespace Go.Proofs.Ytegfjedklebbfaa
set_option linter.unusedSimpArgs false
set_option linter.unusedVariables false
open Go Go.RowKit
attribute [local irreducible] AL AD AW OpOk Le AC thenQ blockQ EndQ

theorem isFinite_ac (a : Int) : AC Try.prog 203 [I a] H0 (Bo (wi a (-1000000) 1000000)) H0 := by
  have hI := within_ac a (-1000000) 1000000
  refine AC.of_body 0 Try.func203 rfl (fun l h => absurd rfl h) (fun C hC => ?_)
  have hD : ∀ l, ¬ C.D0 l := fun l h => (hC l).1 h rfl
  simp only [startFr, Try.ntmps203, List.length_cons, List.length_nil, Nat.reduceAdd, Nat.reduceSub, List.replicate_succ, List.replicate_zero, List.cons_append, List.nil_append]
  repeat' (first | ((first | apply Ba | (apply Bb; (· rfl); (· rfl)) | (apply Bc; (· exact nxE)) | (apply Bd; (· rfl); (· rfl); (· exact nxE))); (· first | exact Kz rfl rfl (hI) (Ad (Ad (Ad An))) | exact Ok.pe)) | ((first | apply Ca | (apply Cb; (· exact nxE))); (· first | exact Ok.e0)) | refine Sx ?_ | (refine Sy (fun h => ?_) (fun h => ?_) <;> try (exfalso; omega; done)) | refine Sz (fun h => ?_) (fun h => ?_))
  all_goals
    refine Ya ?_
    (apply Le.headZ (hs := []) [] rfl)
    all_goals (try dsimp only [srcs])
    (case' hfr => (repeat' (first | refine La ?_ ?_ | exact Lc | refine Lo ?_ | refine ⟨⟨_, rfl, ?_⟩, ?_⟩ | refine Lx ?_)))
    all_goals (first | exact Ld | exact trivial | (rfl))
end Go.Proofs.Ytegfjedklebbfaa
end

section
namespace Go.Proofs.Ytegfjedklebbfaa
set_option linter.unusedSimpArgs false
set_option linter.unusedVariables false
open Go Go.RowKit
attribute [local irreducible] AL AD AW OpOk Le AC thenQ blockQ EndQ

end Go.Proofs.Ytegfjedklebbfaa
end

section
namespace Go.Proofs.Ytegfjedklebbfaa
set_option linter.unusedSimpArgs false
set_option linter.unusedVariables false
open Go Go.RowKit
attribute [local irreducible] AL AD AW OpOk Le AC thenQ blockQ EndQ

end Go.Proofs.Ytegfjedklebbfaa
end

section
namespace Go.Proofs.Ytegfjedklebbfaa
set_option linter.unusedSimpArgs false
set_option linter.unusedVariables false
open Go Go.RowKit
attribute [local irreducible] AL AD AW OpOk Le AC thenQ blockQ EndQ

structure TabOk (T : List (List Int)) : Prop where
  l : T.length ≤ 100
  r : ∀ r ∈ T, r.length ≤ 100
section
variable {H : Heap} {lent : Loc → Prop} {τ : Loc → Loc} {L : Loc → Prop}
end
end Go.Proofs.Ytegfjedklebbfaa
end

section
namespace Go.Proofs.Ytegfjedklebbfaa
set_option linter.unusedSimpArgs false
set_option linter.unusedVariables false
open Go Go.RowKit
attribute [local irreducible] AL AD AW OpOk Le AC thenQ blockQ EndQ

theorem big_ac (code : List Int) (hl : code.length ≤ 9223372036854775807) : AC Try.prog 13 [.d (BD code)] H0 (Bo (decide (4096 < (code.length : Int)))) H0 := by
  refine AC.of_body 0 Try.func13 rfl (fun l h => absurd rfl h) (fun C hC => ?_)
  have hD : ∀ l, ¬ C.D0 l := fun l h => (hC l).1 h rfl
  simp only [startFr, Try.ntmps13, List.length_cons, List.length_nil, Nat.reduceAdd, Nat.reduceSub, List.replicate_succ, List.replicate_zero, List.cons_append, List.nil_append]
  repeat' (first | ((first | apply Ba | (apply Bb; (· rfl); (· rfl)) | (apply Bc; (· exact nxE)) | (apply Bd; (· rfl); (· rfl); (· exact nxE))); (· first | exact Ok.pe)) | ((first | apply Ca | (apply Cb; (· exact nxE))); (· first | exact Ok.e0)) | refine Sx ?_ | (refine Sy (fun h => ?_) (fun h => ?_) <;> try (exfalso; omega; done)) | refine Sz (fun h => ?_) (fun h => ?_))
  refine Ya ?_
  (apply Le.headZ (hs := []) [] rfl)
  all_goals (try dsimp only [srcs])
  (case' hfr => (repeat' (first | refine La ?_ ?_ | exact Lc | refine Lo ?_ | refine ⟨⟨_, rfl, ?_⟩, ?_⟩ | refine Lx ?_)))
  all_goals (first | exact Ld | exact trivial | (rfl))
section
variable {P : Program} {o : Oper} {A : Operand → AV} {H : Heap} {new : Nat}
/-- The source of the draws is made. -/
theorem Fx {fo x : Operand} {ts : Array TypeId} {f : FuncId} {code : List Int} {s : Src} (hc : AC P f [.d (BD code)] H0 (Bx 3 0) (srcH code s)) (ho : o.op = .call { callee := .value fo, args := #[x], argTypes := ts }) [FnBody P f] (hfo : A fo = .clo (.func f) [] [])
    (hx : A x = .d (BD code)) : OpOk P o A [] H new (.ptr 3 ⟨new, [0]⟩ 0 0) [.one ⟨new, [0]⟩ (some (srcO code s))] :=
  OpOk.call1n (xs := [x]) [] ho hfo hc (.inl rfl) (fun g => rnO_dobj _ _ _) (by
    show ARs _ _ _ _ _ [A x]
    rw [hx]; exact .cons (AR.dd _) .nil) (by rw [rn])
theorem Nl {fo x y : Operand} {ts : Array TypeId} {f : FuncId} {l : Loc} {code : List Int} {s s' : Src} {n a : Int} (hc : AC P f [Bx 3 0, I n] (srcH code s) (I a) (srcH code s')) (ho : o.op = .call { callee := .value fo, args := #[x, y], argTypes := ts }) [FnBody P f] (hfo : A fo = .clo (.func f) [] [])
    (hx : A x = .ptr 3 l 0 0) (hy : A y = I n) (hl : H l = some (srcO code s)) : OpOk P o A [l] H new (I a) [.one l (some (srcO code s'))] :=
  OpOk.callM (xs := [x, y]) ho hfo hc hl rfl (by
    show ARs _ _ _ _ _ [A x, A y]
    rw [hx, hy]; exact .cons (AR.ptr 3 ⟨0, []⟩ 0 0 rfl) (.cons (.dd _) .nil))
theorem Kl {fo x y : Operand} {ts : Array TypeId} {f : FuncId} {l0 : Loc} {code : List Int} {s s' : Src} {m : Nat} {xs : List Int} {a : Int} {l : Loc} (hc : AC P f [Bx 3 0, .own 1 ⟨1, []⟩ 0 m] (upd (upd H0 ⟨1, []⟩ (some (IO xs))) ⟨0, []⟩ (some (srcO code s))) (I a) (srcH code s')) (ho : o.op = .call { callee := .value fo, args := #[x, y], argTypes := ts }) [FnBody P f] (hfo : A fo = .clo (.func f) [] [])
    (hx : A x = .ptr 3 l0 0 0) (hy : A y = .own 1 l 0 m) (hl : H l0 = some (srcO code s)) (hl2 : H l = some (IO xs)) (hne : l0 ≠ l) : OpOk P o A [l0, l] H new (I a) [.one l none, .one l0 (some (srcO code s'))] :=
  OpOk.callM2 (xs := [x, y]) ho hfo hc hl hl2 hne rfl (by
    show ARs _ _ _ _ _ [A x, A y]
    rw [hx, hy]
    refine .cons ?_ (.cons ?_ .nil)
    · have := AR.ptr (H := H) (lent := fun _ => False) (τ := two l0 l) (L := (· ∈ [(⟨0, []⟩ : Loc), ⟨1, []⟩])) 3 ⟨0, []⟩ 0 0 (by simp)
      rwa [show two l0 l ⟨0, []⟩ = l0 from if_pos rfl] at this
    · have := AR.own (H := H) (lent := fun _ => False) (τ := two l0 l) (L := (· ∈ [(⟨0, []⟩ : Loc), ⟨1, []⟩])) 1 ⟨1, []⟩ 0 m (by simp)
      rwa [show two l0 l ⟨1, []⟩ = l from if_neg (by decide)] at this)
theorem Zl {fo x : Operand} {xs : List Operand} {ts : Array TypeId} {f : FuncId} {l : Loc} {code : List Int} {s s' : Src} {args : List AV} {res : AV} (hc : AC P f (Bx 3 0 :: args) (srcH code s) res (srcH code s')) (ho : o.op = .call { callee := .value fo, args := (x :: xs).toArray, argTypes := ts }) [FnBody P f] (hfo : A fo = .clo (.func f) [] [])
    (hx : A x = .ptr 3 l 0 0) (hl : H l = some (srcO code s)) (hy : ARs H (fun _ => False) (fun _ => l) (· = ⟨0, []⟩) args (xs.map A)) (hres : ∀ g, rn g res = res) : OpOk P o A [l] H new res [.one l (some (srcO code s'))] :=
  OpOk.callMg ho hfo hc hl hres (by
    rw [List.append_nil]
    show ARs _ _ _ _ _ (A x :: xs.map A)
    rw [hx]; exact .cons (AR.ptr 3 ⟨0, []⟩ 0 0 rfl) hy)
end
end Go.Proofs.Ytegfjedklebbfaa
end

section
namespace Go.Proofs.Ytegfjedklebbfaa
set_option linter.unusedSimpArgs false
set_option linter.unusedVariables false
open Go Go.RowKit
attribute [local irreducible] AL AD AW OpOk Le AC thenQ blockQ EndQ

section
variable {P : Program} {o : Oper} {A : Operand → AV} {H : Heap} {new : Nat}
/-- A draw that hands back a graph of its own. -/
theorem Gl {fo x : Operand} {ts : Array TypeId} {f : FuncId} {l : Loc} {code : List Int} {s s' : Src} {ys : List Pl} {res res' : AV} (hc : AC P f [Bx 3 0] (srcH code s) res (heapL [(⟨0, []⟩, ⟨0, []⟩, srcO code s'), (⟨1, []⟩, ⟨1, []⟩, PO ys)])) (ho : o.op = .call { callee := .value fo, args := #[x], argTypes := ts }) [FnBody P f] (hfo : A fo = .clo (.func f) [] [])
    (hx : A x = .ptr 3 l 0 0) (hl : H l = some (srcO code s)) (hr : rn (emb (fun _ => l) [⟨0, []⟩] new) res = res') : OpOk P o A [l] H new res' [.all new (fun sub => heapX [(⟨new, [1]⟩, ⟨new, [1]⟩, PO ys)] [] ⟨new, sub⟩), .one l (some (srcO code s'))] :=
  OpOk.callMX (xs := [x]) [(⟨1, []⟩, ⟨1, []⟩, PO ys)] [] ho hfo hc hl (by
    show ARs _ _ _ _ _ [A x]
    rw [hx]; exact .cons (AR.ptr 3 ⟨0, []⟩ 0 0 rfl) .nil) ⟨⟨fun g => rnO_dobj _ _ _, by simp⟩, trivial⟩ trivial hr
end
def dr15 (code : List Int) (s : Src) : DrG :=
  if 20 < (dr11 code s).xs.length ∧ 2 < (dr11 code s).ev then ⟨(dr11 code s).ev, (dr11 code s).xs.take 20, (dr11 code s).s⟩ else dr11 code s
theorem dr15_ok {code : List Int} (hc : CodeOk code) {s : Src} (hs : SrcOk code s) : DrOk code (dr15 code s) := by
  have h := dr11_ok hc hs
  unfold dr15
  split
  · exact ⟨h.ev, fun p hp => h.xs p (List.mem_of_mem_take hp), by have := h.len; simp only [List.length_take]; omega, h.s⟩
  · exact h
set_option maxHeartbeats 1000000 in
theorem l15Draw_ac (code : List Int) (hc : CodeOk code) (s : Src) (hs : SrcOk code s) : AC Try.prog 119 [Bx 3 0] (srcH code s) (.agg [I (dr15 code s).ev, .own 4 ⟨1, []⟩ 0 (dr15 code s).xs.length]) (heapL [(⟨0, []⟩, ⟨0, []⟩, srcO code (dr15 code s).s), (⟨1, []⟩, ⟨1, []⟩, PO (dr15 code s).xs)]) := by
  have hG := l11Draw_ac code hc s hs
  have hok := dr11_ok hc hs
  unfold dr15
  generalize dr11 code s = g at *
  obtain ⟨ev, xs, s1⟩ := g
  obtain ⟨_, _, hl, _⟩ := hok
  simp only at *
  show AC _ _ _ (heapL [(⟨0, []⟩, ⟨0, []⟩, srcO code s)]) _ _
  by_cases hb : 20 < xs.length ∧ 2 < ev
  · have hb1 := hb.1
    have hb2 := hb.2
    simp only [if_pos hb]
    rw [List.length_take, show min 20 xs.length = 20 by omega]
    refine AC.of_body 1 Try.func119 rfl (fun l h => by simp [heapL, upd] at h; simp [h]) (fun C hC => ?_)
    simp only [startFr, Try.ntmps119, List.length_cons, List.length_nil, Nat.reduceAdd, Nat.reduceSub, List.replicate_succ, List.replicate_zero, List.cons_append, List.nil_append]
    have hD : ∀ l, C.D0 l → l = ⟨0, []⟩ := fun l h => by have := (hC l).1 h; simp [heapL, upd] at this; exact this
    repeat' (first | ((first | apply Ba | (apply Bb; (· rfl); (· rfl)) | (apply Bc; (· exact nxE)) | (apply Bd; (· rfl); (· rfl); (· exact nxE))); (· first | exact Ok.sliceToO (m := 20) rfl rfl rfl (by decide) rfl (by omega) | exact Gx hG rfl rfl rfl rfl | exact Ok.pe)) | ((first | apply Ca | (apply Cb; (· exact nxE))); (· first | exact Gx hG rfl rfl rfl rfl | exact Ok.e0)) | refine Sx ?_ | (refine Sy (fun h => ?_) (fun h => ?_) <;> try (exfalso; omega; done)) | refine Sz (fun h => ?_) (fun h => ?_))
    refine Ya ?_
    refine (Le.takeL ⟨3, [1]⟩ 20 rfl).trans ?_
    (apply Le.head [(⟨0, []⟩, ⟨0, []⟩, srcO code s1), (⟨1, []⟩, ⟨3, [1]⟩, PO (xs.take 20))])
    (case' hfr | hob => (repeat' (first | refine La ?_ ?_ | exact Lc | refine Lo ?_ | refine ⟨⟨_, rfl, ?_⟩, ?_⟩ | refine Lx ?_)))
    all_goals (first | exact Ld | ((simp [dobj, List.map_take]; done)))
  · simp only [if_neg hb]
    refine AC.of_body 1 Try.func119 rfl (fun l h => by simp [heapL, upd] at h; simp [h]) (fun C hC => ?_)
    simp only [startFr, Try.ntmps119, List.length_cons, List.length_nil, Nat.reduceAdd, Nat.reduceSub, List.replicate_succ, List.replicate_zero, List.cons_append, List.nil_append]
    have hD : ∀ l, C.D0 l → l = ⟨0, []⟩ := fun l h => by have := (hC l).1 h; simp [heapL, upd] at this; exact this
    repeat' (first | ((first | apply Ba | (apply Bb; (· rfl); (· rfl)) | (apply Bc; (· exact nxE)) | (apply Bd; (· rfl); (· rfl); (· exact nxE))); (· first | exact Gx hG rfl rfl rfl rfl | exact Ok.pe)) | ((first | apply Ca | (apply Cb; (· exact nxE))); (· first | exact Gx hG rfl rfl rfl rfl | exact Ok.e0)) | refine Sx ?_ | (refine Sy (fun h => ?_) (fun h => ?_) <;> try (exfalso; omega; done)) | refine Sz (fun h => ?_) (fun h => ?_))
    all_goals
      refine Ya ?_
      (apply Le.head [(⟨0, []⟩, ⟨0, []⟩, srcO code s1), (⟨1, []⟩, ⟨3, [1]⟩, PO xs)])
      (case' hfr | hob => (repeat' (first | refine La ?_ ?_ | exact Lc | refine Lo ?_ | refine ⟨⟨_, rfl, ?_⟩, ?_⟩ | refine Lx ?_)))
      all_goals (first | exact Ld | (rfl))
theorem l15DrawZ_ac (code : List Int) (hc : CodeOk code) (s : Src) (hs : SrcOk code s) : AC Try.prog 119 [Bx 3 0] (srcH code s) (grD (dr15 code s).ev (dr15 code s).xs) (srcH code (dr15 code s).s) :=
  (l15Draw_ac code hc s hs).frzS rfl (ARs.agg (.cons (.dd _) (.cons (AR.whole rfl (by simp) (List.length_map _)) .nil)))
/-- A graph and the index of a place, rarely another number. -/
def dr27 (code : List Int) (s : Src) : DrG × Int :=
  let g := dr15 code s
  let a := nxt code g.s 24
  if a.1 = 0 then (⟨g.ev, g.xs, (nxt code a.2 2).2⟩, pick code a.2 [-1, (g.xs.length : Int)]) else (⟨g.ev, g.xs, (nxt code a.2 (g.xs.length : Int)).2⟩, (nxt code a.2 (g.xs.length : Int)).1)
theorem dr27_ok {code : List Int} (hc : CodeOk code) {s : Src} (hs : SrcOk code s) : DrOk code (dr27 code s).1 ∧ -1 ≤ (dr27 code s).2 ∧ (dr27 code s).2 ≤ 40 := by
  have h := dr15_ok hc hs
  have hl := h.len
  obtain ⟨a1, a2, a3⟩ := nxt_ok hc h.s 24
  obtain ⟨b1, b2, b3⟩ := nxt_ok hc a3 2
  obtain ⟨c1, c2, c3⟩ := nxt_ok hc a3 ((dr15 code s).xs.length : Int)
  unfold dr27
  simp only
  split
  · have := pick_mem hc a3 (xs := [-1, ((dr15 code s).xs.length : Int)]) (by simp)
    simp at this
    exact ⟨⟨h.ev, h.xs, h.len, b3⟩, by simp only; omega, by simp only; omega⟩
  · exact ⟨⟨h.ev, h.xs, h.len, c3⟩, by simp only; omega, by simp only; omega⟩
set_option maxHeartbeats 1000000 in
theorem l27DrawIndex_ac (code : List Int) (hc : CodeOk code) (s : Src) (hs : SrcOk code s) : AC Try.prog 109 [Bx 3 0] (srcH code s) (.tup [.agg [I (dr27 code s).1.ev, .own 4 ⟨1, []⟩ 0 (dr27 code s).1.xs.length], I (dr27 code s).2]) (heapL [(⟨0, []⟩, ⟨0, []⟩, srcO code (dr27 code s).1.s), (⟨1, []⟩, ⟨1, []⟩, PO (dr27 code s).1.xs)]) := by
  have hG := l15Draw_ac code hc s hs
  have hok := dr15_ok hc hs
  unfold dr27
  generalize dr15 code s = g at *
  obtain ⟨ev, xs, s1⟩ := g
  obtain ⟨_, _, hl, hs1⟩ := hok
  simp only at *
  obtain ⟨a, s2, a1, a2, h2, q2, N2⟩ := next_ex hc hs1 24
  obtain ⟨b, s3, _, h3, p3, q3, K3⟩ := pick_ex hc h2 [-1, (xs.length : Int)] 2 rfl
  obtain ⟨c, s4, c1, c2, h4, q4, N4⟩ := next_ex hc h2 (xs.length : Int)
  simp only [q2, q3, p3, q4]
  show AC _ _ _ (heapL [(⟨0, []⟩, ⟨0, []⟩, srcO code s)]) _ _
  by_cases ha : a = 0
  · simp only [if_pos ha]
    refine AC.of_body 1 Try.func109 rfl (fun l h => by simp [heapL, upd] at h; simp [h]) (fun C hC => ?_)
    simp only [startFr, Try.ntmps109, List.length_cons, List.length_nil, Nat.reduceAdd, Nat.reduceSub, List.replicate_succ, List.replicate_zero, List.cons_append, List.nil_append]
    have hD : ∀ l, C.D0 l → l = ⟨0, []⟩ := fun l h => by have := (hC l).1 h; simp [heapL, upd] at this; exact this
    repeat' (first | ((first | apply Ba | (apply Bb; (· rfl); (· rfl)) | (apply Bc; (· exact nxE)) | (apply Bd; (· rfl); (· rfl); (· exact nxE))); (· first | exact Gx hG rfl rfl rfl rfl | exact Nx N2 rfl rfl rfl rfl rfl | exact Kx K3 rfl rfl rfl rfl rfl rfl (by decide) | exact Ok.bs2I rfl rfl rfl rfl | exact Ok.pe)) | ((first | apply Ca | (apply Cb; (· exact nxE))); (· first | exact Gx hG rfl rfl rfl rfl | exact Nx N2 rfl rfl rfl rfl rfl | exact Kx K3 rfl rfl rfl rfl rfl rfl (by decide) | exact Ok.bs2I rfl rfl rfl rfl | exact Ok.e0)) | refine Sx ?_ | (refine Sy (fun h => ?_) (fun h => ?_) <;> try (exfalso; omega; done)) | refine Sz (fun h => ?_) (fun h => ?_))
    refine Yb ?_
    (apply Le.head [(⟨0, []⟩, ⟨0, []⟩, srcO code s3), (⟨1, []⟩, ⟨4, [1]⟩, PO xs)])
    (case' hfr | hob => (repeat' (first | refine La ?_ ?_ | exact Lc | refine Lo ?_ | refine ⟨⟨_, rfl, ?_⟩, ?_⟩ | refine Lx ?_)))
    all_goals (first | exact Ld | (rfl))
  · simp only [if_neg ha]
    refine AC.of_body 1 Try.func109 rfl (fun l h => by simp [heapL, upd] at h; simp [h]) (fun C hC => ?_)
    simp only [startFr, Try.ntmps109, List.length_cons, List.length_nil, Nat.reduceAdd, Nat.reduceSub, List.replicate_succ, List.replicate_zero, List.cons_append, List.nil_append]
    have hD : ∀ l, C.D0 l → l = ⟨0, []⟩ := fun l h => by have := (hC l).1 h; simp [heapL, upd] at this; exact this
    repeat' (first | ((first | apply Ba | (apply Bb; (· rfl); (· rfl)) | (apply Bc; (· exact nxE)) | (apply Bd; (· rfl); (· rfl); (· exact nxE))); (· first | exact Gx hG rfl rfl rfl rfl | exact Nx N2 rfl rfl rfl rfl rfl | exact Nx N4 rfl rfl rfl rfl rfl | exact Ok.pe)) | ((first | apply Ca | (apply Cb; (· exact nxE))); (· first | exact Gx hG rfl rfl rfl rfl | exact Nx N2 rfl rfl rfl rfl rfl | exact Nx N4 rfl rfl rfl rfl rfl | exact Ok.e0)) | refine Sx ?_ | (refine Sy (fun h => ?_) (fun h => ?_) <;> try (exfalso; omega; done)) | refine Sz (fun h => ?_) (fun h => ?_))
    refine Yb ?_
    (apply Le.head [(⟨0, []⟩, ⟨0, []⟩, srcO code s4), (⟨1, []⟩, ⟨4, [1]⟩, PO xs)])
    (case' hfr | hob => (repeat' (first | refine La ?_ ?_ | exact Lc | refine Lo ?_ | refine ⟨⟨_, rfl, ?_⟩, ?_⟩ | refine Lx ?_)))
    all_goals (first | exact Ld | (rfl))
theorem l27DrawIndexZ_ac (code : List Int) (hc : CodeOk code) (s : Src) (hs : SrcOk code s) : AC Try.prog 109 [Bx 3 0] (srcH code s) (.tup [grD (dr27 code s).1.ev (dr27 code s).1.xs, I (dr27 code s).2]) (srcH code (dr27 code s).1.s) :=
  (l27DrawIndex_ac code hc s hs).frzS rfl (ARs.tup (.cons (ARs.agg (.cons (.dd _) (.cons (AR.whole rfl (by simp) (List.length_map _)) .nil))) (.cons (.dd _) .nil)))
theorem drawFasterPlace_ex (code : List Int) (hc : CodeOk code) : ∃ (g : DrG) (i b : Int), DrOk code g ∧ (-1 ≤ i ∧ i ≤ 40) ∧ (-20 ≤ b ∧ b ≤ 20) ∧ AC Try.prog 14 [.d (BD code)] H0 (.tup [grD g.ev g.xs, I i, I b]) H0 := by
  have hF := l01From_ac code hc
  have hG := l27DrawIndexZ_ac code hc _ (src0_ok hc)
  obtain ⟨hok, hi1, hi2⟩ := dr27_ok hc (src0_ok hc)
  generalize dr27 code (src0 code) = g at *
  obtain ⟨⟨ev, xs, s1⟩, i⟩ := g
  have hs1 := hok.s
  simp only at hs1 hG hi1 hi2
  obtain ⟨a, s2, a1, a2, h2, q2, N2⟩ := next_ex hc hs1 12
  obtain ⟨b, s3, b1, b2, h3, q3, N3⟩ := next_ex hc h2 20
  have hb : 0 ≤ b.tdiv 19 ∧ b.tdiv 19 ≤ 1 := by rw [Int.tdiv_eq_ediv_of_nonneg b1]; omega
  refine ⟨⟨ev, xs, s1⟩, i, a - b.tdiv 19, hok, ⟨hi1, hi2⟩, by omega, ?_⟩
  refine AC.of_body 0 Try.func14 rfl (fun l h => absurd rfl h) (fun C hC => ?_)
  have hD : ∀ l, ¬ C.D0 l := fun l h => (hC l).1 h rfl
  simp only [startFr, Try.ntmps14, List.length_cons, List.length_nil, Nat.reduceAdd, Nat.reduceSub, List.replicate_succ, List.replicate_zero, List.cons_append, List.nil_append]
  repeat' (first | ((first | apply Ba | (apply Bb; (· rfl); (· rfl)) | (apply Bc; (· exact nxE)) | (apply Bd; (· rfl); (· rfl); (· exact nxE))); (· first | exact Ok.quo rfl rfl rfl (by decide) (by omega) (by omega) | exact Fx hF rfl rfl rfl | exact Zl (args := []) hG rfl rfl rfl rfl .nil (fun _ => by simp [rn]) | exact Nl N2 rfl rfl rfl rfl rfl | exact Nl N3 rfl rfl rfl rfl rfl | exact Ok.pe)) | ((first | apply Ca | (apply Cb; (· exact nxE))); (· first | exact Fx hF rfl rfl rfl | exact Zl (args := []) hG rfl rfl rfl rfl .nil (fun _ => by simp [rn]) | exact Nl N2 rfl rfl rfl rfl rfl | exact Nl N3 rfl rfl rfl rfl rfl | exact Ok.e0)) | refine Sx ?_ | (refine Sy (fun h => ?_) (fun h => ?_) <;> try (exfalso; omega; done)) | refine Sz (fun h => ?_) (fun h => ?_))
  refine Yc ?_
  (apply Le.headZ (hs := []) [] rfl)
  all_goals (try dsimp only [srcs])
  (case' hfr => (repeat' (first | refine La ?_ ?_ | exact Lc | refine Lo ?_ | refine ⟨⟨_, rfl, ?_⟩, ?_⟩ | refine Lx ?_)))
  all_goals (first | exact Ld | exact trivial | (rfl))
theorem drawBestPlace_ex (code : List Int) (hc : CodeOk code) : ∃ (ev : Int) (xs : List Pl) (b : Int), (0 ≤ ev ∧ ev ≤ 11) ∧ xs.length ≤ 40 ∧ AC Try.prog 17 [.d (BD code)] H0 (.tup [grD ev xs, I b]) H0 := by
  have hF := l01From_ac code hc
  have hG := l15DrawZ_ac code hc _ (src0_ok hc)
  have hok := dr15_ok hc (src0_ok hc)
  generalize dr15 code (src0 code) = g at *
  obtain ⟨ev, xs, s1⟩ := g
  obtain ⟨hev, _, hl, hs1⟩ := hok
  simp only at hev hl hs1 hG
  obtain ⟨a, s2, a1, a2, h2, q2, N2⟩ := next_ex hc hs1 16
  obtain ⟨b, s3, _, h3, p3, q3, K3⟩ := pick_ex hc h2 [-1, 0, 1000, 1001] 4 rfl
  obtain ⟨c, s4, c1, c2, h4, q4, N4⟩ := next_ex hc h2 12
  refine ⟨ev, if 9 < xs.length then xs.take 9 else xs, if a = 0 then b else c, hev, by split; (· rw [List.length_take]; omega); (· omega), ?_⟩
  by_cases hx : 9 < xs.length
  · rw [if_pos hx]
    refine AC.of_body 0 Try.func17 rfl (fun l h => absurd rfl h) (fun C hC => ?_)
    have hD : ∀ l, ¬ C.D0 l := fun l h => (hC l).1 h rfl
    simp only [startFr, Try.ntmps17, List.length_cons, List.length_nil, Nat.reduceAdd, Nat.reduceSub, List.replicate_succ, List.replicate_zero, List.cons_append, List.nil_append]
    repeat' (first | ((first | apply Ba | (apply Bb; (· rfl); (· rfl)) | (apply Bc; (· exact nxE)) | (apply Bd; (· rfl); (· rfl); (· exact nxE))); (· first | exact Fx hF rfl rfl rfl | exact Zl (args := []) hG rfl rfl rfl rfl .nil (fun _ => by simp [rn]) | exact Nl N2 rfl rfl rfl rfl rfl | exact Nl N4 rfl rfl rfl rfl rfl | exact Kl K3 rfl rfl rfl rfl rfl rfl (by decide) | exact Ok.bs4 rfl rfl rfl rfl rfl rfl | exact Ok.pe)) | ((first | apply Ca | (apply Cb; (· exact nxE))); (· first | exact Fx hF rfl rfl rfl | exact Zl (args := []) hG rfl rfl rfl rfl .nil (fun _ => by simp [rn]) | exact Nl N2 rfl rfl rfl rfl rfl | exact Nl N4 rfl rfl rfl rfl rfl | exact Kl K3 rfl rfl rfl rfl rfl rfl (by decide) | exact Ok.bs4 rfl rfl rfl rfl rfl rfl | exact Ok.e0)) | refine Sx ?_ | (refine Sy (fun h => ?_) (fun h => ?_) <;> try (exfalso; omega; done)) | refine Sz (fun h => ?_) (fun h => ?_))
    all_goals
      refine Yb ?_
      (apply Le.headZ (hs := []) [] rfl)
      all_goals (try dsimp only [srcs])
      (case' hfr => (repeat' (first | refine La ?_ ?_ | exact Lc | refine Lo ?_ | refine ⟨⟨_, rfl, ?_⟩, ?_⟩ | refine Lx ?_)))
      all_goals (first | exact Ld | exact trivial | (first | (rw [if_pos (by assumption)]; done) | (rw [if_neg (by assumption)]; done)))
  · rw [if_neg hx]
    refine AC.of_body 0 Try.func17 rfl (fun l h => absurd rfl h) (fun C hC => ?_)
    have hD : ∀ l, ¬ C.D0 l := fun l h => (hC l).1 h rfl
    simp only [startFr, Try.ntmps17, List.length_cons, List.length_nil, Nat.reduceAdd, Nat.reduceSub, List.replicate_succ, List.replicate_zero, List.cons_append, List.nil_append]
    repeat' (first | ((first | apply Ba | (apply Bb; (· rfl); (· rfl)) | (apply Bc; (· exact nxE)) | (apply Bd; (· rfl); (· rfl); (· exact nxE))); (· first | exact Fx hF rfl rfl rfl | exact Zl (args := []) hG rfl rfl rfl rfl .nil (fun _ => by simp [rn]) | exact Nl N2 rfl rfl rfl rfl rfl | exact Nl N4 rfl rfl rfl rfl rfl | exact Kl K3 rfl rfl rfl rfl rfl rfl (by decide) | exact Ok.bs4 rfl rfl rfl rfl rfl rfl | exact Ok.pe)) | ((first | apply Ca | (apply Cb; (· exact nxE))); (· first | exact Fx hF rfl rfl rfl | exact Zl (args := []) hG rfl rfl rfl rfl .nil (fun _ => by simp [rn]) | exact Nl N2 rfl rfl rfl rfl rfl | exact Nl N4 rfl rfl rfl rfl rfl | exact Kl K3 rfl rfl rfl rfl rfl rfl (by decide) | exact Ok.bs4 rfl rfl rfl rfl rfl rfl | exact Ok.e0)) | refine Sx ?_ | (refine Sy (fun h => ?_) (fun h => ?_) <;> try (exfalso; omega; done)) | refine Sz (fun h => ?_) (fun h => ?_))
    all_goals
      refine Yb ?_
      (apply Le.headZ (hs := []) [] rfl)
      all_goals (try dsimp only [srcs])
      (case' hfr => (repeat' (first | refine La ?_ ?_ | exact Lc | refine Lo ?_ | refine ⟨⟨_, rfl, ?_⟩, ?_⟩ | refine Lx ?_)))
      all_goals (first | exact Ld | exact trivial | (first | (rw [if_pos (by assumption)]; done) | (rw [if_neg (by assumption)]; done)))
end Go.Proofs.Ytegfjedklebbfaa
end

section
namespace Go.Proofs.Ytegfjedklebbfaa
set_option linter.unusedSimpArgs false
set_option linter.unusedVariables false
open Go Go.RowKit
attribute [local irreducible] AL AD AW OpOk Le AC thenQ blockQ EndQ

set_option maxHeartbeats 1000000 in
theorem drawMoreTokens_ex (code : List Int) (hc : CodeOk code) : ∃ (ev : Int) (xs : List Pl) (i : Int), (0 ≤ ev ∧ ev ≤ 11) ∧ xs.length ≤ 40 ∧ AC Try.prog 20 [.d (BD code)] H0 (.tup [grD ev xs, I i]) H0 := by
  have hF := l01From_ac code hc
  have hG := l27DrawIndex_ac code hc _ (src0_ok hc)
  obtain ⟨hok, hi1, hi2⟩ := dr27_ok hc (src0_ok hc)
  generalize dr27 code (src0 code) = g at *
  obtain ⟨⟨ev, xs, s1⟩, i⟩ := g
  obtain ⟨hev, _, hl, hs1⟩ := hok
  simp only at hev hl hs1 hG hi1 hi2
  have hI := l01In_ac i 0 ((xs.length : Int) - 1)
  have hwi : wi i 0 ((xs.length : Int) - 1) = true → 0 ≤ i ∧ i < xs.length := fun h => by have := wi_iff.1 h; omega
  obtain ⟨a, s2, a1, a2, h2, q2, N2⟩ := next_ex hc hs1 12
  have hxl : (xs.map Pl.row).length = xs.length := List.length_map _
  generalize wi i 0 ((xs.length : Int) - 1) = bi at *
  cases bi
  · refine ⟨ev, xs, i, hev, hl, ?_⟩
    refine AC.of_body 0 Try.func20 rfl (fun l h => absurd rfl h) (fun C hC => ?_)
    have hD : ∀ l, ¬ C.D0 l := fun l h => (hC l).1 h rfl
    simp only [startFr, Try.ntmps20, List.length_cons, List.length_nil, Nat.reduceAdd, Nat.reduceSub, List.replicate_succ, List.replicate_zero, List.cons_append, List.nil_append]
    repeat' (first | ((first | apply Ba | (apply Bb; (· rfl); (· rfl)) | (apply Bc; (· exact nxE)) | (apply Bd; (· rfl); (· rfl); (· exact nxE))); (· first | exact Kz rfl rfl (hI) (Ad (Ad (Ad An))) | exact Fx hF rfl rfl rfl | exact Gl hG rfl rfl rfl rfl (by simp only [rn, List.map_cons, List.map_nil]; rw [emb_one (by decide)]) | exact Ok.pe)) | ((first | apply Ca | (apply Cb; (· exact nxE))); (· first | exact Fx hF rfl rfl rfl | exact Gl hG rfl rfl rfl rfl (by simp only [rn, List.map_cons, List.map_nil]; rw [emb_one (by decide)]) | exact Ok.e0)) | refine Sx ?_ | (refine Sy (fun h => ?_) (fun h => ?_) <;> try (exfalso; omega; done)) | refine Sz (fun h => ?_) (fun h => ?_))
    refine Yb ?_
    (apply Le.headZ (hs := []) [] rfl)
    all_goals (try dsimp only [srcs])
    (case' hfr => (repeat' (first | refine La ?_ ?_ | exact Lc | refine Lo ?_ | refine ⟨⟨_, rfl, ?_⟩, ?_⟩ | refine Lx ?_)))
    all_goals (first | exact Ld | exact trivial | (rfl))
  · obtain ⟨hp1, hp2⟩ := hwi rfl
    obtain ⟨k, rfl⟩ : ∃ k : Nat, i = k := ⟨i.toNat, by omega⟩
    have hkk : k < xs.length := by omega
    have hr := ownPl_row hkk
    have hsP := ownPl_set (xs := xs) (i := k) (p := ⟨(plA xs k).f, (plA xs k).t, (plA xs k).d, 5⟩)
    refine ⟨ev, if a = 0 then xs.set k ⟨(plA xs k).f, (plA xs k).t, (plA xs k).d, 5⟩ else xs, k, hev, by split; (· rw [List.length_set]; omega); (· omega), ?_⟩
    generalize plA xs k = p at *
    obtain ⟨pf, pt, pd, pk⟩ := p
    simp only at hr hsP
    refine AC.of_body 0 Try.func20 rfl (fun l h => absurd rfl h) (fun C hC => ?_)
    have hD : ∀ l, ¬ C.D0 l := fun l h => (hC l).1 h rfl
    simp only [startFr, Try.ntmps20, List.length_cons, List.length_nil, Nat.reduceAdd, Nat.reduceSub, List.replicate_succ, List.replicate_zero, List.cons_append, List.nil_append]
    repeat' (first | ((first | apply Ba | (apply Bb; (· rfl); (· rfl)) | (apply Bc; (· exact nxE)) | (apply Bd; (· rfl); (· rfl); (· exact nxE))); (· first | exact Kz rfl rfl (hI) (Ad (Ad (Ad An))) | exact Fx hF rfl rfl rfl | exact Gl hG rfl rfl rfl rfl (by simp only [rn, List.map_cons, List.map_nil]; rw [emb_one (by decide)]) | exact Nl N2 rfl rfl rfl rfl rfl | exact Ok.storeC rfl rfl rfl rfl hr (by simp only [List.length_cons, List.length_nil, Nat.reduceAdd, Nat.reduceLT]) (by conv => lhs; whnf) (by rfl) (by rfl) hsP | exact Ok.pe)) | ((first | apply Ca | (apply Cb; (· exact nxE))); (· first | exact Fx hF rfl rfl rfl | exact Gl hG rfl rfl rfl rfl (by simp only [rn, List.map_cons, List.map_nil]; rw [emb_one (by decide)]) | exact Nl N2 rfl rfl rfl rfl rfl | exact Ok.storeC rfl rfl rfl rfl hr (by simp only [List.length_cons, List.length_nil, Nat.reduceAdd, Nat.reduceLT]) (by conv => lhs; whnf) (by rfl) (by rfl) hsP | exact Ok.e0)) | refine Sx ?_ | (refine Sy (fun h => ?_) (fun h => ?_) <;> try (exfalso; omega; done)) | refine Sz (fun h => ?_) (fun h => ?_))
    · rw [if_pos (by assumption)]
      refine Yb ?_
      (apply Le.headZ (hs := []) [] rfl)
      all_goals (try dsimp only [srcs])
      (case' hfr => (repeat' (first | refine La ?_ ?_ | exact Lc | refine Lo ?_ | refine ⟨⟨_, rfl, ?_⟩, ?_⟩ | refine Lx ?_)))
      all_goals (first | exact Ld | exact trivial | (rfl))
    · rw [if_neg (by assumption)]
      refine Yb ?_
      (apply Le.headZ (hs := []) [] rfl)
      all_goals (try dsimp only [srcs])
      (case' hfr => (repeat' (first | refine La ?_ ?_ | exact Lc | refine Lo ?_ | refine ⟨⟨_, rfl, ?_⟩, ?_⟩ | refine Lx ?_)))
      all_goals (first | exact Ld | exact trivial | (rfl))
/-! ### UseOf -/
def dUs (code : List Int) (e : Nat) (q : RSt) : RSt :=
  if (nxt code q.1 2).1 = 0 then ((nxt code (nxt code (nxt code q.1 2).2 12).2 2).2, q.2 ++ [⟨e, e, (nxt code (nxt code q.1 2).2 12).1, 1 + (nxt code (nxt code (nxt code q.1 2).2 12).2 2).1⟩]) else ((nxt code q.1 2).2, q.2)
def dU (code : List Int) (ev : Int) : Nat → Nat → RSt → RSt
  | 0, _, q => q
  | f + 1, e, q => if (e : Int) < ev ∧ e < 6 ∧ q.2.length < 14 then dU code ev f (e + 1) (dUs code e q) else q
theorem dUs_ok {code : List Int} (hc : CodeOk code) {e : Nat} {q : RSt} (h : SrcOk code q.1) : SrcOk code (dUs code e q).1 ∧ (dUs code e q).2.length ≤ q.2.length + 1 := by
  obtain ⟨_, _, h1⟩ := nxt_ok hc h 2
  obtain ⟨_, _, h2⟩ := nxt_ok hc h1 12
  obtain ⟨_, _, h3⟩ := nxt_ok hc h2 2
  unfold dUs
  split
  · exact ⟨h3, by simp⟩
  · exact ⟨h1, by simp⟩
theorem dU_ok {code : List Int} (hc : CodeOk code) {ev : Int} : ∀ (f e : Nat) (q : RSt), SrcOk code q.1 → q.2.length ≤ 40 → SrcOk code (dU code ev f e q).1 ∧ (dU code ev f e q).2.length ≤ 40
  | 0, e, q, h, hl => ⟨h, hl⟩
  | f + 1, e, q, h, hl => by
    rw [dU]
    split
    · have := dUs_ok hc (e := e) h
      exact dU_ok hc f (e + 1) _ this.1 (by omega)
    · exact ⟨h, hl⟩
set_option maxHeartbeats 4000000 in
theorem drawUseOf_ex (code : List Int) (hc : CodeOk code) : ∃ (ev : Int) (xs : List Pl) (i : Int), (0 ≤ ev ∧ ev ≤ 11) ∧ xs.length ≤ 40 ∧ AC Try.prog 23 [.d (BD code)] H0 (.tup [grD ev xs, I i]) H0 := by
  have hF := l01From_ac code hc
  have hG := l15Draw_ac code hc _ (src0_ok hc)
  have hok := dr15_ok hc (src0_ok hc)
  generalize dr15 code (src0 code) = g at *
  obtain ⟨ev, xs, s1⟩ := g
  obtain ⟨hev, _, hl, hs1⟩ := hok
  simp only at hev hl hs1 hG
  have hU := dU_ok hc (ev := ev) 7 0 (s1, xs) hs1 hl
  obtain ⟨R, hR⟩ : ∃ R, R = dU code ev 7 0 (s1, xs) := ⟨_, rfl⟩
  rw [← hR] at hU
  obtain ⟨s2, zs⟩ := R
  obtain ⟨hs2, hzl⟩ := hU
  simp only at hs2 hzl
  obtain ⟨a, s3, a1, a2, h3, q3, N3⟩ := next_ex hc hs2 24
  obtain ⟨b, s4, _, h4, p4, q4, K4⟩ := pick_ex hc h3 [-1, ev] 2 rfl
  obtain ⟨c, s5, c1, c2, h5, q5, N5⟩ := next_ex hc h3 ev
  refine ⟨ev, zs, if a = 0 then b else c, hev, hzl, ?_⟩
  refine AC.of_body 0 Try.func23 rfl (fun l h => absurd rfl h) (fun C hC => ?_)
  have hD : ∀ l, ¬ C.D0 l := fun l h => (hC l).1 h rfl
  simp only [startFr, Try.ntmps23, List.length_cons, List.length_nil, Nat.reduceAdd, Nat.reduceSub, List.replicate_succ, List.replicate_zero, List.cons_append, List.nil_append]
  repeat' (first | ((first | apply Ba | (apply Bb; (· rfl); (· rfl)) | (apply Bc; (· exact nxE)) | (apply Bd; (· rfl); (· rfl); (· exact nxE))); (· first | exact Fx hF rfl rfl rfl | exact Gl hG rfl rfl rfl rfl (by simp only [rn, List.map_cons, List.map_nil]; rw [emb_one (by decide)]) | exact Ok.pe)) | ((first | apply Ca | (apply Cb; (· exact nxE))); (· first | exact Fx hF rfl rfl rfl | exact Gl hG rfl rfl rfl rfl (by simp only [rn, List.map_cons, List.map_nil]; rw [emb_one (by decide)]) | exact Ok.e0)) | refine Sx ?_ | (refine Sy (fun h => ?_) (fun h => ?_) <;> try (exfalso; omega; done)) | refine Sz (fun h => ?_) (fun h => ?_))
  refine AW.loop (X := {p : Nat × RSt // p.1 ≤ 6 ∧ dU code ev (7 - p.1) p.1 p.2 = (s2, zs) ∧ SrcOk code p.2.1}) (fun p => ⟨[Oo, Oo, Bx 2 0, Oo, Bx 3 1, Bx 2 2, I p.1.1, Oo, Oo, Oo, Oo, Oo, Oo, Oo, Oo, Oo, Oo, Oo, Oo, Oo, Oo, Oo, Oo, Oo, Oo, Oo, Oo, Oo, Oo, Oo, Oo, Oo, Oo, Oo, Oo, Oo, Oo, Oo, Oo, Oo, Oo, Oo, Oo, Oo, Oo, Oo, Oo, Oo, Oo, Oo, Oo, Oo, Oo, Oo, Oo, Oo, Oo], heapL [(⟨0, []⟩, ⟨0, []⟩, ⟨2, [[I 0, nilS]]⟩), (⟨1, []⟩, ⟨1, []⟩, srcO code p.1.2.1), (⟨2, []⟩, ⟨2, []⟩, ⟨2, [[I ev, .own 4 ⟨3, []⟩ 0 p.1.2.2.length]]⟩), (⟨3, []⟩, ⟨3, []⟩, PO p.1.2.2)], 900⟩) (fun p => 7 - p.1.1) ⟨(0, s1, xs), by simp, hR.symm, hs1⟩ ?_ (fun p => ?_)
  ·
    (apply Le.headZ [_, _, _, _] rfl)
    all_goals (try dsimp only [srcs])
    (case' hfr | hob => (repeat' (first | refine La ?_ ?_ | exact Lc | refine Lo ?_ | refine ⟨⟨_, rfl, ?_⟩, ?_⟩ | refine Lx ?_)))
    all_goals (first | (rfl) | exact Ld)
  obtain ⟨⟨e, s6, us⟩, e1, e2, e3⟩ := p
  simp only at e1 e2 e3 ⊢
  have hul : (us.map Pl.row).length = us.length := List.length_map _
  obtain ⟨z, s7, z1, z2, h7, q7, N7⟩ := next_ex hc e3 2
  obtain ⟨x, s8, x1, x2, h8, q8, N8⟩ := next_ex hc h7 12
  obtain ⟨y, s9, y1, y2, h9, q9, N9⟩ := next_ex hc h8 2
  by_cases hgo : (e : Int) < ev ∧ e < 6 ∧ us.length < 14
  · obtain ⟨g1, g2, g3⟩ := hgo
    rw [show 7 - e = (7 - (e + 1)) + 1 by omega, dU] at e2
    simp only at e2
    rw [if_pos ⟨g1, g2, g3⟩] at e2
    unfold dUs at e2
    simp only [q7, q8, q9] at e2
    by_cases hz : z = 0
    · rw [if_pos hz] at e2
      repeat' (first | ((first | apply Ba | (apply Bb; (· rfl); (· rfl)) | (apply Bc; (· exact nxE)) | (apply Bd; (· rfl); (· rfl); (· exact nxE))); (· first | exact Nl N7 rfl rfl rfl rfl rfl | exact Nl N8 rfl rfl rfl rfl rfl | exact Nl N9 rfl rfl rfl rfl rfl | exact Ok.append1 (row := [DI e, DI e, DI x, DI _]) rfl rfl (by decide) rfl rfl hul rfl rfl rfl (by rfl) (by omega) (by omega) | exact Ok.pe)) | ((first | apply Ca | (apply Cb; (· exact nxE))); (· first | exact Nl N7 rfl rfl rfl rfl rfl | exact Nl N8 rfl rfl rfl rfl rfl | exact Nl N9 rfl rfl rfl rfl rfl | exact Ok.append1 (row := [DI e, DI e, DI x, DI _]) rfl rfl (by decide) rfl rfl hul rfl rfl rfl (by rfl) (by omega) (by omega) | exact Ok.e0)) | refine Sx ?_ | (refine Sy (fun h => ?_) (fun h => ?_) <;> try (exfalso; omega; done)) | refine Sz (fun h => ?_) (fun h => ?_))
      refine ⟨⟨(e + 1, s9, us ++ [⟨e, e, x, 1 + y⟩]), by simp only; omega, e2, h9⟩, ?_, by simp only; omega⟩
      (apply Le.headZ [_, _, _, _] rfl)
      all_goals (try dsimp only [srcs])
      (case' hfr | hob => (repeat' (first | refine La ?_ ?_ | exact Lc | refine Lo ?_ | refine ⟨⟨_, rfl, ?_⟩, ?_⟩ | refine Lx ?_)))
      all_goals (first | ((simp [Pl.row, *]; done)) | exact Ld)
    · rw [if_neg hz] at e2
      repeat' (first | ((first | apply Ba | (apply Bb; (· rfl); (· rfl)) | (apply Bc; (· exact nxE)) | (apply Bd; (· rfl); (· rfl); (· exact nxE))); (· first | exact Nl N7 rfl rfl rfl rfl rfl | exact Nl N8 rfl rfl rfl rfl rfl | exact Nl N9 rfl rfl rfl rfl rfl | exact Ok.pe)) | ((first | apply Ca | (apply Cb; (· exact nxE))); (· first | exact Nl N7 rfl rfl rfl rfl rfl | exact Nl N8 rfl rfl rfl rfl rfl | exact Nl N9 rfl rfl rfl rfl rfl | exact Ok.e0)) | refine Sx ?_ | (refine Sy (fun h => ?_) (fun h => ?_) <;> try (exfalso; omega; done)) | refine Sz (fun h => ?_) (fun h => ?_))
      refine ⟨⟨(e + 1, s7, us), by simp only; omega, e2, h7⟩, ?_, by simp only; omega⟩
      (apply Le.headZ [_, _, _, _] rfl)
      all_goals (try dsimp only [srcs])
      (case' hfr | hob => (repeat' (first | refine La ?_ ?_ | exact Lc | refine Lo ?_ | refine ⟨⟨_, rfl, ?_⟩, ?_⟩ | refine Lx ?_)))
      all_goals (first | ((simp [Pl.row, *]; done)) | exact Ld)
  · have hst : (s2, zs) = (s6, us) := by
      rw [← e2, show 7 - e = (7 - (e + 1)) + 1 by omega, dU]
      simp only
      rw [if_neg hgo]
    cases hst
    repeat' (first | ((first | apply Ba | (apply Bb; (· rfl); (· rfl)) | (apply Bc; (· exact nxE)) | (apply Bd; (· rfl); (· rfl); (· exact nxE))); (· first | exact Nl N3 rfl rfl rfl rfl rfl | exact Nl N5 rfl rfl rfl rfl rfl | exact Kl K4 rfl rfl rfl rfl rfl rfl (by decide) | exact Ok.bs2I rfl rfl rfl rfl | exact Ok.pe)) | ((first | apply Ca | (apply Cb; (· exact nxE))); (· first | exact Nl N3 rfl rfl rfl rfl rfl | exact Nl N5 rfl rfl rfl rfl rfl | exact Kl K4 rfl rfl rfl rfl rfl rfl (by decide) | exact Ok.bs2I rfl rfl rfl rfl | exact Ok.e0)) | refine Sx ?_ | (refine Sy (fun h => ?_) (fun h => ?_) <;> try (exfalso; omega; done)) | refine Sz (fun h => ?_) (fun h => ?_))
    all_goals (first | rw [if_pos (by assumption)] | rw [if_neg (by assumption)])
    all_goals
      refine Yb ?_
      (apply Le.headZ (hs := []) [] rfl)
      all_goals (try dsimp only [srcs])
      (case' hfr => (repeat' (first | refine La ?_ ?_ | exact Lc | refine Lo ?_ | refine ⟨⟨_, rfl, ?_⟩, ?_⟩ | refine Lx ?_)))
      all_goals (first | exact Ld | exact trivial | (rfl))
end Go.Proofs.Ytegfjedklebbfaa
end

section
namespace Go.Proofs.Ytegfjedklebbfaa
set_option linter.unusedSimpArgs false
set_option linter.unusedVariables false
open Go Go.RowKit
attribute [local irreducible] AL AD AW OpOk Le AC thenQ blockQ EndQ

theorem codeI_ok {ev : Int} {xs : List Pl} {b : Bool} (h : codeI ev xs b = 0) : liveI ev xs = 0 ∧ b = true := by
  unfold codeI at h
  cases b with
  | true => simpa using h
  | false =>
    by_cases h1 : liveI ev xs = 1
    · simp [h1] at h
    · simp [h1] at h
theorem cqC_ok {ev : Int} {xs : List Pl} {b : Bool} (h : cqC ev xs b = 0) : liveI ev xs = 0 ∧ b = true ∧ bcC ev xs = 0 := by
  unfold cqC at h
  by_cases h1 : codeI ev xs b = 0
  · rw [if_pos h1] at h
    exact ⟨(codeI_ok h1).1, (codeI_ok h1).2, h⟩
  · rw [if_neg h1] at h; exact absurd h h1
def fpIn (xs : List Pl) (i by' : Int) : Bool := wi i 0 ((xs.length : Int) - 1) && wi by' 0 (plA xs i.toNat).d
noncomputable def fpC (ev : Int) (xs : List Pl) (i by' : Int) : Int := if cqC ev xs (fpIn xs i by') = 0 then bcC ev (fasterL xs i.toNat by') else cqC ev xs (fpIn xs i by')
noncomputable def fpR (ev : Int) (xs : List Pl) (i by' : Int) : Int × Int := if cqC ev xs (fpIn xs i by') = 0 then ctR ev (fasterL xs i.toNat by') else (0, 0)
theorem fasterL_len {xs : List Pl} {i : Nat} {b : Int} : (fasterL xs i b).length = xs.length := by simp [fasterL]
theorem moreL_len {xs : List Pl} {i : Nat} : (moreL xs i).length = xs.length := by simp [moreL]
set_option maxHeartbeats 2000000 in
theorem sFasterPlace_ac (ev : Int) (xs : List Pl) (i by' : Int) (hx : xs.length ≤ 100000000) : AC Try.prog 16 [grD ev xs, I i, I by'] H0 (.tup [.agg [I (fpR ev xs i by').1, I (fpR ev xs i by').2], I (fpC ev xs i by')]) H0 := by
  have hQ := fun b => l27Code_ac ev xs b hx
  have hI := l01In_ac i 0 ((xs.length : Int) - 1)
  unfold fpR fpC
  cases h1 : wi i 0 ((xs.length : Int) - 1)
  · have hf : fpIn xs i by' = false := by unfold fpIn; rw [h1]; rfl
    have hc : cqC ev xs false ≠ 0 := fun h => by have := (cqC_ok h).2.1; cases this
    rw [hf, if_neg hc, if_neg hc]
    rw [h1] at hI
    have hq := hQ false
    refine AC.of_body 0 Try.func16 rfl (fun l h => absurd rfl h) (fun C hC => ?_)
    have hD : ∀ l, ¬ C.D0 l := fun l h => (hC l).1 h rfl
    simp only [startFr, Try.ntmps16, List.length_cons, List.length_nil, Nat.reduceAdd, Nat.reduceSub, List.replicate_succ, List.replicate_zero, List.cons_append, List.nil_append]
    repeat' (first | ((first | apply Ba | (apply Bb; (· rfl); (· rfl)) | (apply Bc; (· exact nxE)) | (apply Bd; (· rfl); (· rfl); (· exact nxE))); (· first | exact Kz rfl rfl (hI) (Ad (Ad (Ad An))) | exact Kz rfl rfl (hq) (Aa (Ad (Ad An)) (Ad An)) | exact Ok.pe)) | ((first | apply Ca | (apply Cb; (· exact nxE))); (· first | exact Ok.e0)) | refine Sx ?_ | (refine Sy (fun h => ?_) (fun h => ?_) <;> try (exfalso; omega; done)) | refine Sz (fun h => ?_) (fun h => ?_))
    refine Yb ?_
    (apply Le.headZ (hs := []) [] rfl)
    all_goals (try dsimp only [srcs])
    (case' hfr => (repeat' (first | refine La ?_ ?_ | exact Lc | refine Lo ?_ | refine ⟨⟨_, rfl, ?_⟩, ?_⟩ | refine Lx ?_)))
    all_goals (first | exact Ld | exact trivial | (rfl))
  · obtain ⟨i', rfl⟩ : ∃ n : Nat, i = n := ⟨i.toNat, by have := wi_iff.1 h1; omega⟩
    have hi : i' < xs.length := by have := wi_iff.1 h1; omega
    have hrow := pl_row (n := 0) hi
    rw [h1] at hI
    have hf : fpIn xs i' by' = wi by' 0 (plA xs i').d := by unfold fpIn; rw [h1]; rfl
    have hI2 := l01In_ac by' 0 (plA xs i').d
    have hq := hQ (wi by' 0 (plA xs i').d)
    rw [hf, Int.toNat_natCast]
    by_cases hc : cqC ev xs (wi by' 0 (plA xs i').d) = 0
    · rw [if_pos hc, if_pos hc]
      obtain ⟨c1, c2, c3⟩ := cqC_ok hc
      obtain ⟨n, rfl, g1, g2, g3, g4, g5⟩ := live_ok c1
      have ho := okPl_at g4 i' hi
      obtain ⟨_, _, ⟨g7, g8⟩, _⟩ := ho
      have hw := wi_iff.1 c2
      rw [hc] at hq
      have hF := l27Faster_ac n n xs i' by' (by omega) hi ⟨g7, g8⟩ (by omega)
      have hT := sCycleTime_ac n (fasterL xs i' by') (by rw [fasterL_len]; exact hx)
      have hfl : ((fasterL xs i' by').map Pl.row).length = xs.length := by simp [fasterL]
      rw [← hfl] at hF
      generalize fasterL xs i' by' = ys at *
      generalize wi by' 0 (plA xs i').d = vb at *
      generalize plA xs i' = p at *
      obtain ⟨pf, pt, pd, pk⟩ := p
      simp only at hrow hI2
      refine AC.of_body 0 Try.func16 rfl (fun l h => absurd rfl h) (fun C hC => ?_)
      have hD : ∀ l, ¬ C.D0 l := fun l h => (hC l).1 h rfl
      simp only [startFr, Try.ntmps16, List.length_cons, List.length_nil, Nat.reduceAdd, Nat.reduceSub, List.replicate_succ, List.replicate_zero, List.cons_append, List.nil_append]
      repeat' (first | ((first | apply Ba | (apply Bb; (· rfl); (· rfl)) | (apply Bc; (· exact nxE)) | (apply Bd; (· rfl); (· rfl); (· exact nxE))); (· first | exact Kz rfl rfl (hI) (Ad (Ad (Ad An))) | exact Kz rfl rfl (hI2) (Ad (Ad (Ad An))) | exact Kz rfl rfl (hq) (Aa (Ad (Ad An)) (Ad An)) | exact Zf rfl rfl (hT) (Sa (Sd (Sw Sn)) Sn) | exact Eo rfl rfl (hF) (Sa (Sd (Sd Sn)) (Sd (Sd Sn))) | exact Ok.pe)) | ((first | apply Ca | (apply Cb; (· exact nxE))); (· first | exact Eo rfl rfl (hF) (Sa (Sd (Sd Sn)) (Sd (Sd Sn))) | exact Ok.e0)) | refine Sx ?_ | (refine Sy (fun h => ?_) (fun h => ?_) <;> try (exfalso; omega; done)) | refine Sz (fun h => ?_) (fun h => ?_))
      refine Yb ?_
      (apply Le.headZ (hs := []) [] rfl)
      all_goals (try dsimp only [srcs])
      (case' hfr => (repeat' (first | refine La ?_ ?_ | exact Lc | refine Lo ?_ | refine ⟨⟨_, rfl, ?_⟩, ?_⟩ | refine Lx ?_)))
      all_goals (first | exact Ld | exact trivial | (rfl))
    · rw [if_neg hc, if_neg hc]
      generalize wi by' 0 (plA xs i').d = vb at *
      generalize plA xs i' = p at *
      obtain ⟨pf, pt, pd, pk⟩ := p
      simp only at hrow hI2
      refine AC.of_body 0 Try.func16 rfl (fun l h => absurd rfl h) (fun C hC => ?_)
      have hD : ∀ l, ¬ C.D0 l := fun l h => (hC l).1 h rfl
      simp only [startFr, Try.ntmps16, List.length_cons, List.length_nil, Nat.reduceAdd, Nat.reduceSub, List.replicate_succ, List.replicate_zero, List.cons_append, List.nil_append]
      repeat' (first | ((first | apply Ba | (apply Bb; (· rfl); (· rfl)) | (apply Bc; (· exact nxE)) | (apply Bd; (· rfl); (· rfl); (· exact nxE))); (· first | exact Kz rfl rfl (hI) (Ad (Ad (Ad An))) | exact Kz rfl rfl (hI2) (Ad (Ad (Ad An))) | exact Kz rfl rfl (hq) (Aa (Ad (Ad An)) (Ad An)) | exact Ok.pe)) | ((first | apply Ca | (apply Cb; (· exact nxE))); (· first | exact Ok.e0)) | refine Sx ?_ | (refine Sy (fun h => ?_) (fun h => ?_) <;> try (exfalso; omega; done)) | refine Sz (fun h => ?_) (fun h => ?_))
      refine Yb ?_
      (apply Le.headZ (hs := []) [] rfl)
      all_goals (try dsimp only [srcs])
      (case' hfr => (repeat' (first | refine La ?_ ?_ | exact Lc | refine Lo ?_ | refine ⟨⟨_, rfl, ?_⟩, ?_⟩ | refine Lx ?_)))
      all_goals (first | exact Ld | exact trivial | (rfl))
noncomputable def mtC (ev : Int) (xs : List Pl) (i : Int) : Int := if cqC ev xs (wi i 0 ((xs.length : Int) - 1)) = 0 then (if (plA xs i.toNat).k = 5 then 3 else bcC ev (moreL xs i.toNat)) else cqC ev xs (wi i 0 ((xs.length : Int) - 1))
noncomputable def mtR (ev : Int) (xs : List Pl) (i : Int) : Int × Int := if cqC ev xs (wi i 0 ((xs.length : Int) - 1)) = 0 then (if (plA xs i.toNat).k = 5 then (0, 0) else ctR ev (moreL xs i.toNat)) else (0, 0)
set_option maxHeartbeats 2000000 in
theorem sMoreTokens_ac (ev : Int) (xs : List Pl) (i : Int) (hx : xs.length ≤ 100000000) : AC Try.prog 22 [grD ev xs, I i] H0 (.tup [.agg [I (mtR ev xs i).1, I (mtR ev xs i).2], I (mtC ev xs i)]) H0 := by
  have hI := l01In_ac i 0 ((xs.length : Int) - 1)
  have hq := l27Code_ac ev xs (wi i 0 ((xs.length : Int) - 1)) hx
  unfold mtR mtC
  by_cases hc : cqC ev xs (wi i 0 ((xs.length : Int) - 1)) = 0
  · rw [if_pos hc, if_pos hc]
    rw [hc] at hq
    obtain ⟨c1, c2, c3⟩ := cqC_ok hc
    obtain ⟨i', rfl⟩ : ∃ n : Nat, i = n := ⟨i.toNat, by have := wi_iff.1 c2; omega⟩
    have hi : i' < xs.length := by have := wi_iff.1 c2; omega
    have hrow := pl_row (n := 0) hi
    obtain ⟨n, rfl, g1, g2, g3, g4, g5⟩ := live_ok c1
    obtain ⟨_, _, ⟨g7, g8⟩, ⟨g9, g10⟩⟩ := okPl_at g4 i' hi
    have hO := l11Own_ac n xs (by omega)
    have hr := ownPl_row hi
    have hs := ownPl_set (xs := xs) (i := i') (p := ⟨(plA xs i').f, (plA xs i').t, (plA xs i').d, (plA xs i').k + 1⟩)
    have hT := sCycleTime_ac n (moreL xs i') (by rw [moreL_len]; exact hx)
    have hfl : ((moreL xs i').map Pl.row).length = xs.length := by simp [moreL]
    rw [Int.toNat_natCast]
    unfold moreL at *
    generalize hys : xs.set i' ⟨(plA xs i').f, (plA xs i').t, (plA xs i').d, (plA xs i').k + 1⟩ = ys at *
    clear hys
    rw [← hfl] at hO
    generalize plA xs i' = p at *
    obtain ⟨pf, pt, pd, pk⟩ := p
    simp only at hrow hr hs g7 g8 g9 g10 ⊢
    by_cases h5 : pk = 5
    · rw [if_pos h5, if_pos h5]
      subst h5
      refine AC.of_body 0 Try.func22 rfl (fun l h => absurd rfl h) (fun C hC => ?_)
      have hD : ∀ l, ¬ C.D0 l := fun l h => (hC l).1 h rfl
      simp only [startFr, Try.ntmps22, List.length_cons, List.length_nil, Nat.reduceAdd, Nat.reduceSub, List.replicate_succ, List.replicate_zero, List.cons_append, List.nil_append]
      repeat' (first | ((first | apply Ba | (apply Bb; (· rfl); (· rfl)) | (apply Bc; (· exact nxE)) | (apply Bd; (· rfl); (· rfl); (· exact nxE))); (· first | exact Kz rfl rfl (hI) (Ad (Ad (Ad An))) | exact Kz rfl rfl (hq) (Aa (Ad (Ad An)) (Ad An)) | exact Ok.pe)) | ((first | apply Ca | (apply Cb; (· exact nxE))); (· first | exact Ok.e0)) | refine Sx ?_ | (refine Sy (fun h => ?_) (fun h => ?_) <;> try (exfalso; omega; done)) | refine Sz (fun h => ?_) (fun h => ?_))
      refine Yb ?_
      (apply Le.headZ (hs := []) [] rfl)
      all_goals (try dsimp only [srcs])
      (case' hfr => (repeat' (first | refine La ?_ ?_ | exact Lc | refine Lo ?_ | refine ⟨⟨_, rfl, ?_⟩, ?_⟩ | refine Lx ?_)))
      all_goals (first | exact Ld | exact trivial | (rfl))
    · rw [if_neg h5, if_neg h5]
      refine AC.of_body 0 Try.func22 rfl (fun l h => absurd rfl h) (fun C hC => ?_)
      have hD : ∀ l, ¬ C.D0 l := fun l h => (hC l).1 h rfl
      simp only [startFr, Try.ntmps22, List.length_cons, List.length_nil, Nat.reduceAdd, Nat.reduceSub, List.replicate_succ, List.replicate_zero, List.cons_append, List.nil_append]
      repeat' (first | ((first | apply Ba | (apply Bb; (· rfl); (· rfl)) | (apply Bc; (· exact nxE)) | (apply Bd; (· rfl); (· rfl); (· exact nxE))); (· first | exact Kz rfl rfl (hI) (Ad (Ad (Ad An))) | exact Kz rfl rfl (hq) (Aa (Ad (Ad An)) (Ad An)) | exact OpOk.loadCell rfl rfl rfl rfl hr rfl | exact Zf rfl rfl (hT) (Sa (Sd (Sw Sn)) Sn) | exact Eo rfl rfl (hO) (Sa (Sd (Sd Sn)) Sn) | exact Ok.storeC rfl rfl rfl rfl hr (by simp only [List.length_cons, List.length_nil, Nat.reduceAdd, Nat.reduceLT]) (by conv => lhs; whnf) (by rfl) (by rfl) hs | exact Ok.pe)) | ((first | apply Ca | (apply Cb; (· exact nxE))); (· first | exact Eo rfl rfl (hO) (Sa (Sd (Sd Sn)) Sn) | exact Ok.storeC rfl rfl rfl rfl hr (by simp only [List.length_cons, List.length_nil, Nat.reduceAdd, Nat.reduceLT]) (by conv => lhs; whnf) (by rfl) (by rfl) hs | exact Ok.e0)) | refine Sx ?_ | (refine Sy (fun h => ?_) (fun h => ?_) <;> try (exfalso; omega; done)) | refine Sz (fun h => ?_) (fun h => ?_))
      refine Yb ?_
      (apply Le.headZ (hs := []) [] rfl)
      all_goals (try dsimp only [srcs])
      (case' hfr => (repeat' (first | refine La ?_ ?_ | exact Lc | refine Lo ?_ | refine ⟨⟨_, rfl, ?_⟩, ?_⟩ | refine Lx ?_)))
      all_goals (first | exact Ld | exact trivial | (rfl))
  · rw [if_neg hc, if_neg hc]
    generalize wi i 0 ((xs.length : Int) - 1) = vb at *
    refine AC.of_body 0 Try.func22 rfl (fun l h => absurd rfl h) (fun C hC => ?_)
    have hD : ∀ l, ¬ C.D0 l := fun l h => (hC l).1 h rfl
    simp only [startFr, Try.ntmps22, List.length_cons, List.length_nil, Nat.reduceAdd, Nat.reduceSub, List.replicate_succ, List.replicate_zero, List.cons_append, List.nil_append]
    repeat' (first | ((first | apply Ba | (apply Bb; (· rfl); (· rfl)) | (apply Bc; (· exact nxE)) | (apply Bd; (· rfl); (· rfl); (· exact nxE))); (· first | exact Kz rfl rfl (hI) (Ad (Ad (Ad An))) | exact Kz rfl rfl (hq) (Aa (Ad (Ad An)) (Ad An)) | exact Ok.pe)) | ((first | apply Ca | (apply Cb; (· exact nxE))); (· first | exact Ok.e0)) | refine Sx ?_ | (refine Sy (fun h => ?_) (fun h => ?_) <;> try (exfalso; omega; done)) | refine Sz (fun h => ?_) (fun h => ?_))
    refine Yb ?_
    (apply Le.headZ (hs := []) [] rfl)
    all_goals (try dsimp only [srcs])
    (case' hfr => (repeat' (first | refine La ?_ ?_ | exact Lc | refine Lo ?_ | refine ⟨⟨_, rfl, ?_⟩, ?_⟩ | refine Lx ?_)))
    all_goals (first | exact Ld | exact trivial | (rfl))
end Go.Proofs.Ytegfjedklebbfaa
end
