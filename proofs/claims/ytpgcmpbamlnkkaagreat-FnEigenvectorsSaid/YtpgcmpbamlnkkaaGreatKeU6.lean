/-
  Walks in the abstract reading, part 6.
-/
import Derived.Test.YtpgcmpbamlnkkaaGreatKeU5
import Derived.Test.YtpgcmpbamlnkkaaGreatKeA3
import Derived.Test.YtpgcmpbamlnkkaaGreatKeU3
section
namespace Go.Proofs.YtpgcmpbamlnkkaaGreat
set_option linter.unusedSimpArgs false
set_option linter.unusedVariables false
open Go Go.RowKit
attribute [local irreducible] AL AD AW OpOk Le AC thenQ blockQ EndQ

theorem big_ac (code : List Int) (hl : code.length ≤ 9223372036854775807) : AC Tryz.prog 7 [.d (BD code)] H0 (Bo (decide (4096 < (code.length : Int)))) H0 := by
  refine AC.of_body 0 Tryz.func7 rfl (fun l h => absurd rfl h) (fun C hC => ?_)
  have hD : ∀ l, ¬ C.D0 l := fun l h => (hC l).1 h rfl
  simp only [startFr, Tryz.ntmps7, List.length_cons, List.length_nil, Nat.reduceAdd, Nat.reduceSub, List.replicate_succ, List.replicate_zero, List.cons_append, List.nil_append]
  repeat' (first | ((first | apply Ba | (apply Bb; (· rfl); (· rfl)) | (apply Bc; (· exact nxE)) | (apply Bd; (· rfl); (· rfl); (· exact nxE))); (· first | exact Ok.pe)) | ((first | apply Ca | (apply Cb; (· exact nxE))); (· first | exact Ok.e0)) | refine Sx ?_ | (refine Sy (fun h => ?_) (fun h => ?_) <;> try (exfalso; omega; done)) | refine Sz (fun h => ?_) (fun h => ?_))
  refine Ya ?_
  (apply Le.headZ (hs := []) [] rfl)
  all_goals (try dsimp only [srcs])
  (case' hfr => (repeat' (first | refine La ?_ ?_ | exact Lc | refine Lo ?_ | refine ⟨⟨_, rfl, ?_⟩, ?_⟩ | refine Lx ?_)))
  all_goals (first | exact Ld | exact trivial | (rfl))
set_option maxHeartbeats 1000000 in
theorem likeInts_refl (xs : List Int) (hn : xs.length ≤ 100000000) : AC Tryz.prog 16 [IL xs, IL xs] H0 (Bo true) H0 := by
  refine AC.of_body 0 Tryz.func16 rfl (fun l h => absurd rfl h) (fun C hC => ?_)
  have hD : ∀ l, ¬ C.D0 l := fun l h => (hC l).1 h rfl
  simp only [startFr, Tryz.ntmps16, List.length_cons, List.length_nil, Nat.reduceAdd, Nat.reduceSub, List.replicate_succ, List.replicate_zero, List.cons_append, List.nil_append]
  repeat' (first | ((first | apply Ba | (apply Bb; (· rfl); (· rfl)) | (apply Bc; (· exact nxE)) | (apply Bd; (· rfl); (· rfl); (· exact nxE))); (· first | exact Ok.pe)) | ((first | apply Ca | (apply Cb; (· exact nxE))); (· first | exact Ok.e0)) | refine Sx ?_ | (refine Sy (fun h => ?_) (fun h => ?_) <;> try (exfalso; omega; done)) | refine Sz (fun h => ?_) (fun h => ?_))
  refine AW.loop (X := {k : Nat // k ≤ xs.length}) (fun k => ⟨[IL xs, IL xs, Oo, Oo, Oo, I (k.1 : Nat), Oo, Oo, Oo, Oo, Oo, Oo, Oo, Oo, Oo, Oo, Oo, Oo, Oo, Oo, Oo, Oo, Oo, Oo, Oo, Oo], heapL [], 900⟩) (fun k => xs.length - k.1) ⟨0, Nat.zero_le _⟩ ?_ (fun k => ?_)
  ·
    (apply Le.headZ [] rfl)
    all_goals (try dsimp only [srcs])
    (case' hfr | hob => (repeat' (first | refine La ?_ ?_ | exact Lc | refine Lo ?_ | refine ⟨⟨_, rfl, ?_⟩, ?_⟩ | refine Lx ?_)))
    all_goals (first | (rfl) | exact Ld)
  obtain ⟨k, hk⟩ := k
  simp only
  by_cases hlt : k < xs.length
  · obtain ⟨x, hx⟩ : ∃ x, xs[k]? = some x := ⟨xs[k], by simp⟩
    have hrow := IR_get hx
    repeat' (first | ((first | apply Ba | (apply Bb; (· rfl); (· rfl)) | (apply Bc; (· exact nxE)) | (apply Bd; (· rfl); (· rfl); (· exact nxE))); (· first | exact Ok.pe)) | ((first | apply Ca | (apply Cb; (· exact nxE))); (· first | exact Ok.e0)) | refine Sx ?_ | (refine Sy (fun h => ?_) (fun h => ?_) <;> try (exfalso; omega; done)) | refine Sz (fun h => ?_) (fun h => ?_))
    refine ⟨⟨k + 1, by omega⟩, ?_, by simp only; omega⟩
    (apply Le.headZ [] rfl)
    all_goals (try dsimp only [srcs])
    (case' hfr | hob => (repeat' (first | refine La ?_ ?_ | exact Lc | refine Lo ?_ | refine ⟨⟨_, rfl, ?_⟩, ?_⟩ | refine Lx ?_)))
    all_goals (first | (rfl) | exact Ld)
  · obtain rfl : k = xs.length := by omega
    repeat' (first | ((first | apply Ba | (apply Bb; (· rfl); (· rfl)) | (apply Bc; (· exact nxE)) | (apply Bd; (· rfl); (· rfl); (· exact nxE))); (· first | exact Ok.pe)) | ((first | apply Ca | (apply Cb; (· exact nxE))); (· first | exact Ok.e0)) | refine Sx ?_ | (refine Sy (fun h => ?_) (fun h => ?_) <;> try (exfalso; omega; done)) | refine Sz (fun h => ?_) (fun h => ?_))
    refine Ya ?_
    (apply Le.headZ (hs := []) [] rfl)
    all_goals (try dsimp only [srcs])
    (case' hfr => (repeat' (first | refine La ?_ ?_ | exact Lc | refine Lo ?_ | refine ⟨⟨_, rfl, ?_⟩, ?_⟩ | refine Lx ?_)))
    all_goals (first | exact Ld | exact trivial | (rfl))
set_option maxHeartbeats 1000000 in
theorem likeTables9_refl (t : List (List Int)) (hn : t.length ≤ 100000000) (hr : ∀ r ∈ t, r.length ≤ 100000000) : AC Tryz.prog 44 [TL t, TL t] H0 (Bo true) H0 := by
  have htl : (mRows 1 (TR t)).length = t.length := by simp
  refine AC.of_body 0 Tryz.func44 rfl (fun l h => absurd rfl h) (fun C hC => ?_)
  have hD : ∀ l, ¬ C.D0 l := fun l h => (hC l).1 h rfl
  simp only [startFr, Tryz.ntmps44, List.length_cons, List.length_nil, Nat.reduceAdd, Nat.reduceSub, List.replicate_succ, List.replicate_zero, List.cons_append, List.nil_append]
  repeat' (first | ((first | apply Ba | (apply Bb; (· rfl); (· rfl)) | (apply Bc; (· exact nxE)) | (apply Bd; (· rfl); (· rfl); (· exact nxE))); (· first | exact Ok.pe)) | ((first | apply Ca | (apply Cb; (· exact nxE))); (· first | exact Ok.e0)) | refine Sx ?_ | (refine Sy (fun h => ?_) (fun h => ?_) <;> try (exfalso; omega; done)) | refine Sz (fun h => ?_) (fun h => ?_))
  refine AW.loop (X := {k : Nat // k ≤ t.length}) (fun k => ⟨[TL t, TL t, Oo, Oo, Oo, I (k.1 : Nat), Oo, Oo, Oo, Oo, Oo, Oo, Oo, Oo, Oo, Oo, Oo, Oo, Oo, Oo, Oo, Oo, Oo, Oo, Oo, Oo, Oo], heapL [], 900⟩) (fun k => t.length - k.1) ⟨0, Nat.zero_le _⟩ ?_ (fun k => ?_)
  ·
    (apply Le.headZ [] rfl)
    all_goals (try dsimp only [srcs])
    (case' hfr | hob => (repeat' (first | refine La ?_ ?_ | exact Lc | refine Lo ?_ | refine ⟨⟨_, rfl, ?_⟩, ?_⟩ | refine Lx ?_)))
    all_goals (first | (rfl) | exact Ld)
  obtain ⟨k, hk⟩ := k
  simp only
  by_cases hlt : k < t.length
  · obtain ⟨x, hx⟩ : ∃ x, t[k]? = some x := ⟨t[k], by simp⟩
    have hrow := TR_get hx
    repeat' (first | ((first | apply Ba | (apply Bb; (· rfl); (· rfl)) | (apply Bc; (· exact nxE)) | (apply Bd; (· rfl); (· rfl); (· exact nxE))); (· first | exact Kz rfl rfl (likeInts_refl x (hr x (List.mem_of_getElem? hx))) (Ad (Ad An)) | exact Ok.pe)) | ((first | apply Ca | (apply Cb; (· exact nxE))); (· first | exact Ok.e0)) | refine Sx ?_ | (refine Sy (fun h => ?_) (fun h => ?_) <;> try (exfalso; omega; done)) | refine Sz (fun h => ?_) (fun h => ?_))
    refine ⟨⟨k + 1, by omega⟩, ?_, by simp only; omega⟩
    (apply Le.headZ [] rfl)
    all_goals (try dsimp only [srcs])
    (case' hfr | hob => (repeat' (first | refine La ?_ ?_ | exact Lc | refine Lo ?_ | refine ⟨⟨_, rfl, ?_⟩, ?_⟩ | refine Lx ?_)))
    all_goals (first | (rfl) | exact Ld)
  · obtain rfl : k = t.length := by omega
    repeat' (first | ((first | apply Ba | (apply Bb; (· rfl); (· rfl)) | (apply Bc; (· exact nxE)) | (apply Bd; (· rfl); (· rfl); (· exact nxE))); (· first | exact Ok.pe)) | ((first | apply Ca | (apply Cb; (· exact nxE))); (· first | exact Ok.e0)) | refine Sx ?_ | (refine Sy (fun h => ?_) (fun h => ?_) <;> try (exfalso; omega; done)) | refine Sz (fun h => ?_) (fun h => ?_))
    refine Ya ?_
    (apply Le.headZ (hs := []) [] rfl)
    all_goals (try dsimp only [srcs])
    (case' hfr => (repeat' (first | refine La ?_ ?_ | exact Lc | refine Lo ?_ | refine ⟨⟨_, rfl, ?_⟩, ?_⟩ | refine Lx ?_)))
    all_goals (first | exact Ld | exact trivial | (rfl))
section
variable {P : Program} {o : Oper} {A : Operand → AV} {H : Heap} {new : Nat}
/-- The source of the draws is made. -/
theorem Fx {fo x : Operand} {ts : Array TypeId} {f : FuncId} {code : List Int} {s : Src} (hc : AC P f [.d (BD code)] H0 (Bx 3 0) (srcH code s)) (ho : o.op = .call { callee := .value fo, args := #[x], argTypes := ts }) [FnBody P f] (hfo : A fo = .clo (.func f) [] [])
    (hx : A x = .d (BD code)) : OpOk P o A [] H new (.ptr 3 ⟨new, [0]⟩ 0 0) [.one ⟨new, [0]⟩ (some (srcO code s))] :=
  OpOk.call1n (xs := [x]) [] ho hfo hc (.inl rfl) (fun g => rnO_dobj _ _ _) (by
    show ARs _ _ _ _ _ [A x]
    rw [hx]; exact .cons (AR.dd _) .nil) (by rw [rn])
theorem Nl {fo x y : Operand} {ts : Array TypeId} {f : FuncId} {l : Loc} {code : List Int} {s s' : Src} {n a : Int} (hc : AC P f [Bx 3 0, I n] (srcH code s) (I a) (srcH code s')) (ho : o.op = .call { callee := .value fo, args := #[x, y], argTypes := ts }) [FnBody P f] (hfo : A fo = .clo (.func f) [] [])
    (hx : A x = .ptr 3 l 0 0) (hy : A y = I n) (hl : H l = some (srcO code s)) : OpOk P o A [l] H new (I a) [.one l (some (srcO code s'))] :=
  OpOk.callM (xs := [x, y]) ho hfo hc hl rfl (by
    show ARs _ _ _ _ _ [A x, A y]
    rw [hx, hy]; exact .cons (AR.ptr 3 ⟨0, []⟩ 0 0 rfl) (.cons (.dd _) .nil))
theorem Kl {fo x y : Operand} {ts : Array TypeId} {f : FuncId} {l0 : Loc} {code : List Int} {s s' : Src} {m : Nat} {xs : List Int} {a : Int} {l : Loc} (hc : AC P f [Bx 3 0, .own 1 ⟨1, []⟩ 0 m] (upd (upd H0 ⟨1, []⟩ (some (IO xs))) ⟨0, []⟩ (some (srcO code s))) (I a) (srcH code s')) (ho : o.op = .call { callee := .value fo, args := #[x, y], argTypes := ts }) [FnBody P f] (hfo : A fo = .clo (.func f) [] [])
    (hx : A x = .ptr 3 l0 0 0) (hy : A y = .own 1 l 0 m) (hl : H l0 = some (srcO code s)) (hl2 : H l = some (IO xs)) (hne : l0 ≠ l) : OpOk P o A [l0, l] H new (I a) [.one l none, .one l0 (some (srcO code s'))] :=
  OpOk.callM2 (xs := [x, y]) ho hfo hc hl hl2 hne rfl (by
    show ARs _ _ _ _ _ [A x, A y]
    rw [hx, hy]
    refine .cons ?_ (.cons ?_ .nil)
    · have := AR.ptr (H := H) (lent := fun _ => False) (τ := two l0 l) (L := (· ∈ [(⟨0, []⟩ : Loc), ⟨1, []⟩])) 3 ⟨0, []⟩ 0 0 (by simp)
      rwa [show two l0 l ⟨0, []⟩ = l0 from if_pos rfl] at this
    · have := AR.own (H := H) (lent := fun _ => False) (τ := two l0 l) (L := (· ∈ [(⟨0, []⟩ : Loc), ⟨1, []⟩])) 1 ⟨1, []⟩ 0 m (by simp)
      rwa [show two l0 l ⟨1, []⟩ = l from if_neg (by decide)] at this)
theorem Zl {fo x : Operand} {xs : List Operand} {ts : Array TypeId} {f : FuncId} {l : Loc} {code : List Int} {s s' : Src} {args : List AV} {res : AV} (hc : AC P f (Bx 3 0 :: args) (srcH code s) res (srcH code s')) (ho : o.op = .call { callee := .value fo, args := (x :: xs).toArray, argTypes := ts }) [FnBody P f] (hfo : A fo = .clo (.func f) [] [])
    (hx : A x = .ptr 3 l 0 0) (hl : H l = some (srcO code s)) (hy : ARs H (fun _ => False) (fun _ => l) (· = ⟨0, []⟩) args (xs.map A)) (hres : ∀ g, rn g res = res) : OpOk P o A [l] H new res [.one l (some (srcO code s'))] :=
  OpOk.callMg ho hfo hc hl hres (by
    rw [List.append_nil]
    show ARs _ _ _ _ _ (A x :: xs.map A)
    rw [hx]; exact .cons (AR.ptr 3 ⟨0, []⟩ 0 0 rfl) hy)
end
end Go.Proofs.YtpgcmpbamlnkkaaGreat
end

section
namespace Go.Proofs.YtpgcmpbamlnkkaaGreat
set_option linter.unusedSimpArgs false
set_option linter.unusedVariables false
open Go Go.RowKit
attribute [local irreducible] AL AD AW OpOk Le AC thenQ blockQ EndQ

section
variable {P : Program} {o : Oper} {A : Operand → AV} {H : Heap} {new : Nat}
theorem Ok.bs7I {t e : TypeId} {k b : Nat} {z : Value} {x1 x2 x3 x4 x5 x6 x7 : Operand} {n1 n2 n3 n4 n5 n6 n7 : Int} (ho : o.op = .buildSlice t 7 #[(0, x1), (1, x2), (2, x3), (3, x4), (4, x5), (5, x6), (6, x7)]) [h : TySlice P t e k b z] (h1 : A x1 = I n1) (h2 : A x2 = I n2) (h3 : A x3 = I n3) (h4 : A x4 = I n4) (h5 : A x5 = I n5) (h6 : A x6 = I n6) (h7 : A x7 = I n7) (hk : k = 1) :
    OpOk P o A [] H new (.own k ⟨new, []⟩ 0 7) [.one ⟨new, []⟩ (some (IO [n1, n2, n3, n4, n5, n6, n7]))] := by
  subst hk
  have := OpOk.buildSlice (P := P) (H := H) (new := new) (A := A) [x1, x2, x3, x4, x5, x6, x7] ho rfl rfl (by decide) (by intro p hp; simp at hp; rcases hp with rfl | rfl | rfl | rfl | rfl | rfl | rfl <;> simp only [h1, h2, h3, h4, h5, h6, h7] <;> rfl) (by intro p hp; simp at hp; rcases hp with rfl | rfl | rfl | rfl | rfl | rfl | rfl <;> simp only [h1, h2, h3, h4, h5, h6, h7] <;> rfl)
  simpa [h1, h2, h3, h4, h5, h6, h7, AV.cells, dobj] using this
end
section
variable {H : Heap} {lent : Loc → Prop} {τ : Loc → Loc} {L : Loc → Prop}
/-- A table whose rows lie anywhere. -/
theorem AR.tabG {m : MI} {n : Nat} (h : m.ok H) (h0 : m.nils = 0) (hn : m.R.length = n) (hl : lent m.src) (hr : ∀ i, i < n → lent (m.row i)) : AR H lent τ L (.d (.sl 1 (mRows m.k m.R))) (.own 1 m.src 0 n) := by
  obtain ⟨ho, hw⟩ := h
  refine .d (.own 1 m.src 0 n _ _ ho hl rfl (by rw [outer_len]; omega) (by simp [mRows, hn]) (fun i q q' hq hq' => ?_) (fun i q q' hq hq' j c c' hc hc' => ?_))
  all_goals
    rw [Nat.zero_add] at hq'
    simp only [mRows, List.getElem?_map, Option.map_eq_some_iff] at hq
    obtain ⟨x, hx, rfl⟩ := hq
    rw [outer_lt hx] at hq'
    obtain rfl := Option.some.inj hq'
  · rfl
  · cases j with
    | succ j => simp at hc
    | zero =>
      simp at hc hc'; subst hc; subst hc'
      have := DRel.dobj (H := H) (lent := lent) (off := 0) (n := x.length) (hw i x hx) (hr i (by rw [← hn]; exact (List.getElem?_eq_some_iff.1 hx).1)) (by omega)
      rwa [List.drop_zero, List.take_of_length_le (Nat.le_refl _)] at this
/-- A table of two rows. -/
theorem AR.two {l a b : Loc} {ra rb : List (List D)} {na nb : Nat} (ho : H l = some ⟨1, [[.own 1 a 0 na], [.own 1 b 0 nb]]⟩) (ha : H a = some (dobj 1 ra)) (hb : H b = some (dobj 1 rb)) (hna : ra.length = na) (hnb : rb.length = nb) (h1 : lent l) (h2 : lent a) (h3 : lent b) : AR H lent τ L (.d (.sl 1 [[.sl 1 ra], [.sl 1 rb]])) (.own 1 l 0 2) := by
  subst hna; subst hnb
  have ka := DRel.dobj (H := H) (lent := lent) (off := 0) (n := ra.length) ha h2 (by omega)
  have kb := DRel.dobj (H := H) (lent := lent) (off := 0) (n := rb.length) hb h3 (by omega)
  rw [List.drop_zero, List.take_of_length_le (Nat.le_refl _)] at ka kb
  refine .d (.own 1 l 0 2 _ _ ho h1 rfl (by simp) (by simp) (fun i q q' hq hq' => ?_) (fun i q q' hq hq' j c c' hc hc' => ?_))
  all_goals
    rw [Nat.zero_add] at hq'
    match i with
    | 0 =>
      simp at hq hq'; subst hq; subst hq'
      first
        | rfl
        | (cases j with
           | succ j => simp at hc
           | zero => simp at hc hc'; subst hc; subst hc'; exact ka)
    | 1 =>
      simp at hq hq'; subst hq; subst hq'
      first
        | rfl
        | (cases j with
           | succ j => simp at hc
           | zero => simp at hc hc'; subst hc; subst hc'; exact kb)
    | i + 2 => simp at hq
end
theorem l01DrawValue_ex (code : List Int) (hc : CodeOk code) (s : Src) (hs : SrcOk code s) : ∃ (v : Int) (s' : Src), (-9223372036854775808 ≤ v ∧ v ≤ 9223372036854775807) ∧ SrcOk code s' ∧ AC Tryz.prog 152 [Bx 3 0] (srcH code s) (I v) (srcH code s') := by
  obtain ⟨a, s1, a1, a2, h1, q1, N1⟩ := next_ex hc hs 24
  by_cases c0 : a ≤ 2
  · refine ⟨-1000000000000000, s1, by omega, h1, ?_⟩
    show AC _ _ _ (heapL [(⟨0, []⟩, ⟨0, []⟩, srcO code s)]) _ _
    refine AC.of_body 1 Tryz.func152 rfl (fun l h => by simp [heapL, upd] at h; simp [h]) (fun C hC => ?_)
    simp only [startFr, Tryz.ntmps152, List.length_cons, List.length_nil, Nat.reduceAdd, Nat.reduceSub, List.replicate_succ, List.replicate_zero, List.cons_append, List.nil_append]
    have hD : ∀ l, C.D0 l → l = ⟨0, []⟩ := fun l h => by have := (hC l).1 h; simp [heapL, upd] at this; exact this
    repeat' (first | ((first | apply Ba | (apply Bb; (· rfl); (· rfl)) | (apply Bc; (· exact nxE)) | (apply Bd; (· rfl); (· rfl); (· exact nxE))); (· first | exact Nx N1 rfl rfl rfl rfl rfl | exact Ok.pe)) | ((first | apply Ca | (apply Cb; (· exact nxE))); (· first | exact Nx N1 rfl rfl rfl rfl rfl | exact Ok.e0)) | refine Sx ?_ | (refine Sy (fun h => ?_) (fun h => ?_) <;> try (exfalso; omega; done)) | refine Sz (fun h => ?_) (fun h => ?_))
    all_goals
      refine Ya ?_
      (apply Le.headZ (hs := [(⟨0, []⟩, ⟨0, []⟩, _)]) [⟨0, []⟩] rfl)
      all_goals (try dsimp only [srcs])
      (case' hfr | hob => (repeat' (first | refine La ?_ ?_ | exact Lc | refine Lo ?_ | refine ⟨⟨_, rfl, ?_⟩, ?_⟩ | refine Lx ?_)))
      all_goals (first | exact Ld | exact trivial | (rfl))
  by_cases c3 : a = 3
  · obtain ⟨b, s2, hb, h2, p2, q2, K2⟩ := pick_ex hc h1 [1000000, 1000001, -1000000, -1000001, -999999999999999, -1000000000000001, 9223372036854775807] 7 rfl
    refine ⟨b, s2, by simp at hb; omega, h2, ?_⟩
    show AC _ _ _ (heapL [(⟨0, []⟩, ⟨0, []⟩, srcO code s)]) _ _
    refine AC.of_body 1 Tryz.func152 rfl (fun l h => by simp [heapL, upd] at h; simp [h]) (fun C hC => ?_)
    simp only [startFr, Tryz.ntmps152, List.length_cons, List.length_nil, Nat.reduceAdd, Nat.reduceSub, List.replicate_succ, List.replicate_zero, List.cons_append, List.nil_append]
    have hD : ∀ l, C.D0 l → l = ⟨0, []⟩ := fun l h => by have := (hC l).1 h; simp [heapL, upd] at this; exact this
    repeat' (first | ((first | apply Ba | (apply Bb; (· rfl); (· rfl)) | (apply Bc; (· exact nxE)) | (apply Bd; (· rfl); (· rfl); (· exact nxE))); (· first | exact Nx N1 rfl rfl rfl rfl rfl | exact Kx K2 rfl rfl rfl rfl rfl rfl (by decide) | exact Ok.bs7I rfl rfl rfl rfl rfl rfl rfl rfl rfl | exact Ok.pe)) | ((first | apply Ca | (apply Cb; (· exact nxE))); (· first | exact Nx N1 rfl rfl rfl rfl rfl | exact Kx K2 rfl rfl rfl rfl rfl rfl (by decide) | exact Ok.bs7I rfl rfl rfl rfl rfl rfl rfl rfl rfl | exact Ok.e0)) | refine Sx ?_ | (refine Sy (fun h => ?_) (fun h => ?_) <;> try (exfalso; omega; done)) | refine Sz (fun h => ?_) (fun h => ?_))
    all_goals
      refine Ya ?_
      (apply Le.headZ (hs := [(⟨0, []⟩, ⟨0, []⟩, _)]) [⟨0, []⟩] rfl)
      all_goals (try dsimp only [srcs])
      (case' hfr | hob => (repeat' (first | refine La ?_ ?_ | exact Lc | refine Lo ?_ | refine ⟨⟨_, rfl, ?_⟩, ?_⟩ | refine Lx ?_)))
      all_goals (first | exact Ld | exact trivial | (rfl))
  by_cases c4 : a = 4
  · obtain ⟨b, s2, b1, b2, h2, q2, N2⟩ := next_ex hc h1 2000
    refine ⟨(b - 1000) * 701, s2, by omega, h2, ?_⟩
    show AC _ _ _ (heapL [(⟨0, []⟩, ⟨0, []⟩, srcO code s)]) _ _
    refine AC.of_body 1 Tryz.func152 rfl (fun l h => by simp [heapL, upd] at h; simp [h]) (fun C hC => ?_)
    simp only [startFr, Tryz.ntmps152, List.length_cons, List.length_nil, Nat.reduceAdd, Nat.reduceSub, List.replicate_succ, List.replicate_zero, List.cons_append, List.nil_append]
    have hD : ∀ l, C.D0 l → l = ⟨0, []⟩ := fun l h => by have := (hC l).1 h; simp [heapL, upd] at this; exact this
    repeat' (first | ((first | apply Ba | (apply Bb; (· rfl); (· rfl)) | (apply Bc; (· exact nxE)) | (apply Bd; (· rfl); (· rfl); (· exact nxE))); (· first | exact Nx N1 rfl rfl rfl rfl rfl | exact Nx N2 rfl rfl rfl rfl rfl | exact Ok.pe)) | ((first | apply Ca | (apply Cb; (· exact nxE))); (· first | exact Nx N1 rfl rfl rfl rfl rfl | exact Nx N2 rfl rfl rfl rfl rfl | exact Ok.e0)) | refine Sx ?_ | (refine Sy (fun h => ?_) (fun h => ?_) <;> try (exfalso; omega; done)) | refine Sz (fun h => ?_) (fun h => ?_))
    all_goals
      refine Ya ?_
      (apply Le.headZ (hs := [(⟨0, []⟩, ⟨0, []⟩, _)]) [⟨0, []⟩] rfl)
      all_goals (try dsimp only [srcs])
      (case' hfr | hob => (repeat' (first | refine La ?_ ?_ | exact Lc | refine Lo ?_ | refine ⟨⟨_, rfl, ?_⟩, ?_⟩ | refine Lx ?_)))
      all_goals (first | exact Ld | exact trivial | (rfl))
  · obtain ⟨b, s2, b1, b2, h2, q2, N2⟩ := next_ex hc h1 41
    refine ⟨b - 20, s2, by omega, h2, ?_⟩
    show AC _ _ _ (heapL [(⟨0, []⟩, ⟨0, []⟩, srcO code s)]) _ _
    refine AC.of_body 1 Tryz.func152 rfl (fun l h => by simp [heapL, upd] at h; simp [h]) (fun C hC => ?_)
    simp only [startFr, Tryz.ntmps152, List.length_cons, List.length_nil, Nat.reduceAdd, Nat.reduceSub, List.replicate_succ, List.replicate_zero, List.cons_append, List.nil_append]
    have hD : ∀ l, C.D0 l → l = ⟨0, []⟩ := fun l h => by have := (hC l).1 h; simp [heapL, upd] at this; exact this
    repeat' (first | ((first | apply Ba | (apply Bb; (· rfl); (· rfl)) | (apply Bc; (· exact nxE)) | (apply Bd; (· rfl); (· rfl); (· exact nxE))); (· first | exact Nx N1 rfl rfl rfl rfl rfl | exact Nx N2 rfl rfl rfl rfl rfl | exact Ok.pe)) | ((first | apply Ca | (apply Cb; (· exact nxE))); (· first | exact Nx N1 rfl rfl rfl rfl rfl | exact Nx N2 rfl rfl rfl rfl rfl | exact Ok.e0)) | refine Sx ?_ | (refine Sy (fun h => ?_) (fun h => ?_) <;> try (exfalso; omega; done)) | refine Sz (fun h => ?_) (fun h => ?_))
    all_goals
      refine Ya ?_
      (apply Le.headZ (hs := [(⟨0, []⟩, ⟨0, []⟩, _)]) [⟨0, []⟩] rfl)
      all_goals (try dsimp only [srcs])
      (case' hfr | hob => (repeat' (first | refine La ?_ ?_ | exact Lc | refine Lo ?_ | refine ⟨⟨_, rfl, ?_⟩, ?_⟩ | refine Lx ?_)))
      all_goals (first | exact Ld | exact trivial | (rfl))
/-! ### Matrices -/
def mzC (code : List Int) (many : Int) (i k : Nat) (q : QF) : QF :=
  if 0 < (nxt code q.1 many).1 then ((nxt code (nxt code q.1 many).2 26).2, fun a b => if a = i ∧ b = k then (nxt code (nxt code q.1 many).2 26).1 - 10 else q.2 a b) else ((nxt code q.1 many).2, q.2)
def mzR (code : List Int) (many : Int) (i : Nat) (q : QF) : Nat → QF
  | 0 => q
  | k + 1 => mzC code many i k (mzR code many i q k)
def mzA (code : List Int) (many : Int) (n : Nat) (q : QF) : Nat → QF
  | 0 => q
  | i + 1 => mzR code many i (mzA code many n q i) n
theorem mzC_ok {code : List Int} (hc : CodeOk code) {many : Int} {i k : Nat} {q : QF} (h : SrcOk code q.1) : SrcOk code (mzC code many i k q).1 := by
  obtain ⟨_, _, a3⟩ := nxt_ok hc h many
  obtain ⟨_, _, b3⟩ := nxt_ok hc a3 26
  unfold mzC; split <;> assumption
theorem mzR_ok {code : List Int} (hc : CodeOk code) {many : Int} {i : Nat} {q : QF} (h : SrcOk code q.1) : ∀ k, SrcOk code (mzR code many i q k).1
  | 0 => h
  | k + 1 => mzC_ok hc (mzR_ok hc h k)
theorem mzA_ok {code : List Int} (hc : CodeOk code) {many : Int} {n : Nat} {q : QF} (h : SrcOk code q.1) : ∀ i, SrcOk code (mzA code many n q i).1
  | 0 => h
  | i + 1 => mzR_ok hc (mzA_ok hc h i) n
theorem botF_tabR {m n : Nat} : tabF m n (fun _ _ => BOT) = botT m n := by
  unfold tabF rowF botT
  simp [List.map_const']
set_option maxHeartbeats 8000000 in
theorem l02DrawSize_ex (code : List Int) (hc : CodeOk code) (s : Src) (hs : SrcOk code s) (m n : Nat) (hm : 1 ≤ m ∧ m ≤ 10) (hn : 1 ≤ n ∧ n ≤ 10) : ∃ (T : List (List Int)) (s' : Src), TabOk T ∧ T.length ≤ m + 1 ∧ SrcOk code s' ∧ AC Tryz.prog 212 [Bx 3 0, I m, I n] (srcH code s) (TL T) (srcH code s') := by
  have hB := l02Bottom_ac m n (by omega) (by omega)
  rw [← botF_tabR] at hB
  obtain ⟨many, s1, hmany, h1, p1, q1, K1⟩ := pick_ex hc hs [2, 3, 5] 3 rfl
  have hA := mzA_ok hc (many := many) (n := n) (q := (s1, fun _ _ => BOT)) h1 m
  generalize hqA : mzA code many n (s1, fun _ _ => BOT) m = qA at hA
  obtain ⟨s2, F⟩ := qA
  simp only at hA
  obtain ⟨y, s3, y1, y2, h3, q3, N3⟩ := next_ex hc hA 60
  obtain ⟨v, s4, hv, h4, V4⟩ := l01DrawValue_ex code hc s3 h3
  have hrw := TRF_get (n := n) (f := F) (show 0 < m by omega)
  have hrl : (IR (rowF n (F 0))).length = n := by rw [IR_len, rowF_len]
  have htF : (TR (tabF m n F)).length = m := by rw [TR_len, tabF_len]
  have hcell : (IR (rowF n (F 0)))[0]? = some [DI (F 0 0)] := IRF_get (by omega)
  refine ⟨if y = 0 then tabF m n (fun a b => if a = 0 ∧ b = 0 then v else F a b) else if y = 1 then tabF m n F ++ [[]] else if y = 2 then [] else tabF m n F, if y = 0 then s4 else s3, ?_, ?_, by split <;> assumption, ?_⟩
  · split
    · exact tabF_ok (by omega) (by omega)
    · split
      · refine ⟨by simp [tabF_len]; omega, fun r hr => ?_⟩
        rcases List.mem_append.1 hr with hr | hr
        · rw [tabF_row2 r hr]; omega
        · simp at hr; subst hr; simp
      · split
        · exact ⟨by simp, fun r hr => by simp at hr⟩
        · exact tabF_ok (by omega) (by omega)
  · (repeat' split) <;> simp [tabF_len]
  show AC _ _ _ (heapL [(⟨0, []⟩, ⟨0, []⟩, srcO code s)]) _ _
  refine AC.of_body 1 Tryz.func212 rfl (fun l h => by simp [heapL, upd] at h; simp [h]) (fun C hC => ?_)
  simp only [startFr, Tryz.ntmps212, List.length_cons, List.length_nil, Nat.reduceAdd, Nat.reduceSub, List.replicate_succ, List.replicate_zero, List.cons_append, List.nil_append]
  have hD : ∀ l, C.D0 l → l = ⟨0, []⟩ := fun l h => by have := (hC l).1 h; simp [heapL, upd] at this; exact this
  repeat' (first | ((first | apply Ba | (apply Bb; (· rfl); (· rfl)) | (apply Bc; (· exact nxE)) | (apply Bd; (· rfl); (· rfl); (· exact nxE))); (· first | exact Tb rfl rfl (hB) (Sd (Sd Sn)) | exact Kx K1 rfl rfl rfl rfl rfl rfl (by decide) | exact Ok.bs3 rfl rfl rfl rfl rfl | exact Ok.pe)) | ((first | apply Ca | (apply Cb; (· exact nxE))); (· first | exact Tb rfl rfl (hB) (Sd (Sd Sn)) | exact Kx K1 rfl rfl rfl rfl rfl rfl (by decide) | exact Ok.bs3 rfl rfl rfl rfl rfl | exact Ok.e0)) | refine Sx ?_ | (refine Sy (fun h => ?_) (fun h => ?_) <;> try (exfalso; omega; done)) | refine Sz (fun h => ?_) (fun h => ?_))
  refine AW.loop (X := {k : Nat // k ≤ m}) (fun k => ⟨[Bx 3 0, I m, I n, Oo, Oo, Oo, Oo, .own 1 ⟨1, []⟩ 0 m, I many, I (k.1 : Nat), Oo, Oo, Oo, Oo, Oo, Oo, Oo, Oo, Oo, Oo, Oo, Oo, Oo, Oo, Oo, Oo, Oo, Oo, Oo, Oo, Oo, Oo, Oo, Oo, Oo, Oo, Oo, Oo, Oo, Oo, Oo, Oo, Oo, Oo, Oo, Oo, Oo, Oo, Oo, Oo, Oo, Oo, Oo, Oo, Oo, Oo, Oo, Oo, Oo], heapX [(⟨0, []⟩, ⟨0, []⟩, srcO code (mzA code many n (s1, fun _ _ => BOT) k.1).1)] [mi1 ⟨1, []⟩ (TR (tabF m n (mzA code many n (s1, fun _ _ => BOT) k.1).2))], 900⟩) (fun k => m - k.1) ⟨0, Nat.zero_le _⟩ ?_ (fun k => ?_)
  ·
    (apply Le.headG [_] [{ l := ⟨1, []⟩, k := 1, R := TR (tabF m n (fun _ _ => BOT)), src := ⟨4, [0]⟩, base := ⟨4, [0]⟩ }] (fun _ => False))
    (case' hlen => rfl)
    (case' hms => rfl)
    all_goals (try dsimp only [srcs])
    (case' hfr | hob => (repeat' (first | refine La ?_ ?_ | exact Lc | refine Lo ?_ | refine ⟨⟨_, rfl, ?_⟩, ?_⟩ | refine Lx ?_)))
    (case' hok => first | exact ⟨MI.ok_same rfl (fun u x hx => congrArg (Option.map (dobj 1)) hx), trivial⟩ | exact trivial)
    (case' hN => rfl)
    (case' hS => rfl)
    all_goals (first | exact Ld | (rfl))
  obtain ⟨w, hw⟩ := k
  simp only
  by_cases hlt2 : w < m
  · have hI := mzA_ok hc (many := many) (n := n) (q := (s1, fun _ _ => BOT)) h1 w
    have hstA : mzA code many n (s1, fun _ _ => BOT) (w + 1) = mzR code many w (mzA code many n (s1, fun _ _ => BOT) w) n := rfl
    generalize mzA code many n (s1, fun _ _ => BOT) w = q at hI hstA ⊢
    repeat' (first | ((first | apply Ba | (apply Bb; (· rfl); (· rfl)) | (apply Bc; (· exact nxE)) | (apply Bd; (· rfl); (· rfl); (· exact nxE))); (· first | exact Ok.pe)) | ((first | apply Ca | (apply Cb; (· exact nxE))); (· first | exact Ok.e0)) | refine Sx ?_ | (refine Sy (fun h => ?_) (fun h => ?_) <;> try (exfalso; omega; done)) | refine Sz (fun h => ?_) (fun h => ?_))
    refine AW.loop (X := {k : Nat // k ≤ n}) (fun k => ⟨[Bx 3 0, I m, I n, Oo, Oo, Oo, Oo, .own 1 ⟨1, []⟩ 0 m, I many, I w, I (k.1 : Nat), Oo, Oo, Oo, Oo, Oo, Oo, Oo, Oo, Oo, Oo, Oo, Oo, Oo, Oo, Oo, Oo, Oo, Oo, Oo, Oo, Oo, Oo, Oo, Oo, Oo, Oo, Oo, Oo, Oo, Oo, Oo, Oo, Oo, Oo, Oo, Oo, Oo, Oo, Oo, Oo, Oo, Oo, Oo, Oo, Oo, Oo, Oo, Oo], heapX [(⟨0, []⟩, ⟨0, []⟩, srcO code (mzR code many w q k.1).1)] [mi1 ⟨1, []⟩ (TR (tabF m n (mzR code many w q k.1).2))], 900⟩) (fun k => n - k.1) ⟨0, Nat.zero_le _⟩ ?_ (fun k => ?_)
    ·
      (apply Le.headG [_] [mi1 ⟨1, []⟩ (TR (tabF m n q.2))] (fun _ => False))
      (case' hlen => rfl)
      (case' hms => rfl)
      all_goals (try dsimp only [srcs])
      (case' hfr | hob => (repeat' (first | refine La ?_ ?_ | exact Lc | refine Lo ?_ | refine ⟨⟨_, rfl, ?_⟩, ?_⟩ | refine Lx ?_)))
      (case' hok => first | exact ⟨MI.ok_same rfl (fun u x hx => congrArg (Option.map (dobj 1)) hx), trivial⟩ | exact trivial)
      (case' hN => rfl)
      (case' hS => rfl)
      all_goals (first | exact Ld | (rfl))
    obtain ⟨e, he⟩ := k
    simp only
    have hJ := mzR_ok hc (many := many) (i := w) hI e
    by_cases hlt3 : e < n
    · have hstR : mzR code many w q (e + 1) = mzC code many w e (mzR code many w q e) := rfl
      generalize mzR code many w q e = r at hJ hstR ⊢
      obtain ⟨s10, G⟩ := r
      simp only at hJ ⊢
      obtain ⟨a, s11, a1, a2, h11, q11, N11⟩ := next_ex hc hJ many
      obtain ⟨b, s12, b1, b2, h12, q12, N12⟩ := next_ex hc h11 26
      have hstC := hstR.trans (show mzC code many w e (s10, G) = if 0 < a then (s12, fun x y => if x = w ∧ y = e then b - 10 else G x y) else (s11, G) by unfold mzC; simp only [q11, q12])
      have hrw := TRF_get (n := n) (f := G) hlt2
      have hrl : (IR (rowF n (G w))).length = n := by rw [IR_len, rowF_len]
      have hcell : (IR (rowF n (G w)))[e]? = some [DI (G w e)] := IRF_get hlt3
      have htF : (TR (tabF m n G)).length = m := by rw [TR_len, tabF_len]
      by_cases ha : 0 < a
      · rw [if_pos ha] at hstC
        repeat' (first | ((first | apply Ba | (apply Bb; (· rfl); (· rfl)) | (apply Bc; (· exact nxE)) | (apply Bd; (· rfl); (· rfl); (· exact nxE))); (· first | exact Ok.ldTn rfl rfl rfl hrw hrl | exact Nx N11 rfl rfl rfl rfl rfl | exact Nx N12 rfl rfl rfl rfl rfl | exact Ok.st1 rfl rfl (congrArg (Option.map (dobj 1)) hrw) (by rw [hrl]; exact hlt3) (by rw [hcell]; rfl) rfl rfl IR_set | exact Ok.pe)) | ((first | apply Ca | (apply Cb; (· exact nxE))); (· first | exact Nx N11 rfl rfl rfl rfl rfl | exact Nx N12 rfl rfl rfl rfl rfl | exact Ok.st1 rfl rfl (congrArg (Option.map (dobj 1)) hrw) (by rw [hrl]; exact hlt3) (by rw [hcell]; rfl) rfl rfl IR_set | exact Ok.e0)) | refine Sx ?_ | (refine Sy (fun h => ?_) (fun h => ?_) <;> try (exfalso; omega; done)) | refine Sz (fun h => ?_) (fun h => ?_))
        refine ⟨⟨e + 1, by omega⟩, ?_, by simp only; omega⟩
        simp only [hstC]
        (apply Le.headG [_] [mi1 ⟨1, []⟩ (TR (tabF m n (fun x y => if x = w ∧ y = e then b - 10 else G x y)))] (fun _ => False))
        (case' hlen => rfl)
        (case' hms => rfl)
        all_goals (try dsimp only [srcs])
        (case' hfr | hob => (repeat' (first | refine La ?_ ?_ | exact Lc | refine Lo ?_ | refine ⟨⟨_, rfl, ?_⟩, ?_⟩ | refine Lx ?_)))
        (case' hok => first | exact ⟨MI.ok_row (tabF_set (fun a b _ _ => rfl)) hrw (by simp) rfl (fun u x hx => congrArg (Option.map (dobj 1)) hx), trivial⟩ | exact trivial)
        (case' hN => rfl)
        (case' hS => rfl)
        all_goals (first | exact Ld | (rfl))
      · rw [if_neg ha] at hstC
        repeat' (first | ((first | apply Ba | (apply Bb; (· rfl); (· rfl)) | (apply Bc; (· exact nxE)) | (apply Bd; (· rfl); (· rfl); (· exact nxE))); (· first | exact Nx N11 rfl rfl rfl rfl rfl | exact Nx N12 rfl rfl rfl rfl rfl | exact Ok.pe)) | ((first | apply Ca | (apply Cb; (· exact nxE))); (· first | exact Nx N11 rfl rfl rfl rfl rfl | exact Nx N12 rfl rfl rfl rfl rfl | exact Ok.e0)) | refine Sx ?_ | (refine Sy (fun h => ?_) (fun h => ?_) <;> try (exfalso; omega; done)) | refine Sz (fun h => ?_) (fun h => ?_))
        refine ⟨⟨e + 1, by omega⟩, ?_, by simp only; omega⟩
        simp only [hstC]
        (apply Le.headG [_] [mi1 ⟨1, []⟩ (TR (tabF m n G))] (fun _ => False))
        (case' hlen => rfl)
        (case' hms => rfl)
        all_goals (try dsimp only [srcs])
        (case' hfr | hob => (repeat' (first | refine La ?_ ?_ | exact Lc | refine Lo ?_ | refine ⟨⟨_, rfl, ?_⟩, ?_⟩ | refine Lx ?_)))
        (case' hok => first | exact ⟨MI.ok_same rfl (fun u x hx => congrArg (Option.map (dobj 1)) hx), trivial⟩ | exact trivial)
        (case' hN => rfl)
        (case' hS => rfl)
        all_goals (first | exact Ld | (rfl))
    · obtain rfl : e = n := by omega
      rw [← hstA]
      repeat' (first | ((first | apply Ba | (apply Bb; (· rfl); (· rfl)) | (apply Bc; (· exact nxE)) | (apply Bd; (· rfl); (· rfl); (· exact nxE))); (· first | exact Ok.pe)) | ((first | apply Ca | (apply Cb; (· exact nxE))); (· first | exact Ok.e0)) | refine Sx ?_ | (refine Sy (fun h => ?_) (fun h => ?_) <;> try (exfalso; omega; done)) | refine Sz (fun h => ?_) (fun h => ?_))
      refine ⟨⟨w + 1, by omega⟩, ?_, by simp only; omega⟩
      (apply Le.headG [_] [mi1 ⟨1, []⟩ (TR (tabF m e (mzA code many e (s1, fun _ _ => BOT) (w + 1)).2))] (fun _ => False))
      (case' hlen => rfl)
      (case' hms => rfl)
      all_goals (try dsimp only [srcs])
      (case' hfr | hob => (repeat' (first | refine La ?_ ?_ | exact Lc | refine Lo ?_ | refine ⟨⟨_, rfl, ?_⟩, ?_⟩ | refine Lx ?_)))
      (case' hok => first | exact ⟨MI.ok_same rfl (fun u x hx => congrArg (Option.map (dobj 1)) hx), trivial⟩ | exact trivial)
      (case' hN => rfl)
      (case' hS => rfl)
      all_goals (first | exact Ld | (rfl))
  obtain rfl : w = m := by omega
  rw [hqA]
  simp only
  by_cases c0 : y = 0
  · simp only [if_pos c0]
    repeat' (first | ((first | apply Ba | (apply Bb; (· rfl); (· rfl)) | (apply Bc; (· exact nxE)) | (apply Bd; (· rfl); (· rfl); (· exact nxE))); (· first | exact Ok.ldTj (i := 0) rfl rfl rfl hrw hrl rfl | exact Nx N3 rfl rfl rfl rfl rfl | exact Zx (args := []) V4 rfl rfl rfl rfl .nil (fun _ => by simp [rn]) | exact Ok.st1 (i := 0) rfl rfl (congrArg (Option.map (dobj 1)) hrw) (by rw [hrl]; omega) (by rw [hcell]; rfl) rfl rfl IR_set | exact Ok.pe)) | ((first | apply Ca | (apply Cb; (· exact nxE))); (· first | exact Nx N3 rfl rfl rfl rfl rfl | exact Zx (args := []) V4 rfl rfl rfl rfl .nil (fun _ => by simp [rn]) | exact Ok.st1 (i := 0) rfl rfl (congrArg (Option.map (dobj 1)) hrw) (by rw [hrl]; omega) (by rw [hcell]; rfl) rfl rfl IR_set | exact Ok.e0)) | refine Sx ?_ | (refine Sy (fun h => ?_) (fun h => ?_) <;> try (exfalso; omega; done)) | refine Sz (fun h => ?_) (fun h => ?_))
    refine Ya ?_
    (apply Le.headZ (hs := [(⟨0, []⟩, ⟨0, []⟩, _)]) [⟨0, []⟩] rfl)
    all_goals (try dsimp only [srcs])
    (case' hfr | hob => (repeat' (first | refine La ?_ ?_ | refine ARs.agg ?_ | refine ARs.tup ?_ | (exact AR.tabM (l := ⟨1, []⟩) (MI.ok_set (H' := H0) (i := 0) (r := IR ((rowF n (F 0)).set 0 v)) (tabF_set (fun a b _ _ => rfl)) (fun x hx => by rw [hrw] at hx; cases hx; simp) rfl (fun j x hx hne => upd_at hne (congrArg (Option.map (dobj 1)) hx)) (fun _ => rfl)) (by rw [TR_len, tabF_len]) (by decide) (by intro j; simp [Loc.at, relo])) | refine La ?_ ?_ | exact Lc | refine Lo ?_ | refine ⟨⟨_, rfl, ?_⟩, ?_⟩ | refine Lx ?_)))
    all_goals (first | exact Ld | exact trivial | (exact AR.tabM (l := ⟨1, []⟩) (MI.ok_set (H' := H0) (i := 0) (r := IR ((rowF n (F 0)).set 0 v)) (tabF_set (fun a b _ _ => rfl)) (fun x hx => by rw [hrw] at hx; cases hx; simp) rfl (fun j x hx hne => upd_at hne (congrArg (Option.map (dobj 1)) hx)) (fun _ => rfl)) (by rw [TR_len, tabF_len]) (by decide) (by intro j; simp [Loc.at, relo])))
  · simp only [if_neg c0]
    by_cases c1 : y = 1
    · simp only [if_pos c1]
      repeat' (first | ((first | apply Ba | (apply Bb; (· rfl); (· rfl)) | (apply Bc; (· exact nxE)) | (apply Bd; (· rfl); (· rfl); (· exact nxE))); (· first | exact Nx N3 rfl rfl rfl rfl rfl | exact Ok.appendT rfl rfl (by decide) rfl rfl rfl (by simp [outer_len, tabF_len]; done) rfl rfl (by rfl) (by omega) (by omega) rfl | exact Ok.pe)) | ((first | apply Ca | (apply Cb; (· exact nxE))); (· first | exact Nx N3 rfl rfl rfl rfl rfl | exact Ok.appendT rfl rfl (by decide) rfl rfl rfl (by simp [outer_len, tabF_len]; done) rfl rfl (by rfl) (by omega) (by omega) rfl | exact Ok.e0)) | refine Sx ?_ | (refine Sy (fun h => ?_) (fun h => ?_) <;> try (exfalso; omega; done)) | refine Sz (fun h => ?_) (fun h => ?_))
      refine Ya ?_
      (apply Le.headZ (hs := [(⟨0, []⟩, ⟨0, []⟩, _)]) [⟨0, []⟩] rfl)
      all_goals (try dsimp only [srcs])
      (case' hfr | hob => (repeat' (first | refine La ?_ ?_ | refine ARs.agg ?_ | refine ARs.tup ?_ | (exact AR.tabG (m := { l := ⟨1, []⟩, k := 1, R := TR (tabF w n F ++ [[]]), src := ⟨912, []⟩, base := ⟨1, []⟩, cut := w, ext := some ⟨910, []⟩ }) (MI.ok_app (r := []) (by simp) htF rfl rfl (Cg) rfl) rfl (by simp [tabF_len]) (by dsimp only; decide) (by intro j _; simp only [MI.row]; split <;> simp [Loc.at])) | refine La ?_ ?_ | exact Lc | refine Lo ?_ | refine ⟨⟨_, rfl, ?_⟩, ?_⟩ | refine Lx ?_)))
      all_goals (first | exact Ld | exact trivial | (exact AR.tabG (m := { l := ⟨1, []⟩, k := 1, R := TR (tabF w n F ++ [[]]), src := ⟨912, []⟩, base := ⟨1, []⟩, cut := w, ext := some ⟨910, []⟩ }) (MI.ok_app (r := []) (by simp) htF rfl rfl (Cg) rfl) rfl (by simp [tabF_len]) (by dsimp only; decide) (by intro j _; simp only [MI.row]; split <;> simp [Loc.at])))
    · simp only [if_neg c1]
      by_cases c2 : y = 2
      · simp only [if_pos c2]
        repeat' (first | ((first | apply Ba | (apply Bb; (· rfl); (· rfl)) | (apply Bc; (· exact nxE)) | (apply Bd; (· rfl); (· rfl); (· exact nxE))); (· first | exact Nx N3 rfl rfl rfl rfl rfl | exact Ok.pe)) | ((first | apply Ca | (apply Cb; (· exact nxE))); (· first | exact Nx N3 rfl rfl rfl rfl rfl | exact Ok.e0)) | refine Sx ?_ | (refine Sy (fun h => ?_) (fun h => ?_) <;> try (exfalso; omega; done)) | refine Sz (fun h => ?_) (fun h => ?_))
        refine Ya ?_
        (apply Le.headZ (hs := [(⟨0, []⟩, ⟨0, []⟩, _)]) [⟨0, []⟩] rfl)
        all_goals (try dsimp only [srcs])
        (case' hfr | hob => (repeat' (first | refine La ?_ ?_ | exact Lc | refine Lo ?_ | refine ⟨⟨_, rfl, ?_⟩, ?_⟩ | refine Lx ?_)))
        all_goals (first | exact Ld | exact trivial | (rfl))
      · simp only [if_neg c2]
        repeat' (first | ((first | apply Ba | (apply Bb; (· rfl); (· rfl)) | (apply Bc; (· exact nxE)) | (apply Bd; (· rfl); (· rfl); (· exact nxE))); (· first | exact Nx N3 rfl rfl rfl rfl rfl | exact Ok.pe)) | ((first | apply Ca | (apply Cb; (· exact nxE))); (· first | exact Nx N3 rfl rfl rfl rfl rfl | exact Ok.e0)) | refine Sx ?_ | (refine Sy (fun h => ?_) (fun h => ?_) <;> try (exfalso; omega; done)) | refine Sz (fun h => ?_) (fun h => ?_))
        refine Ya ?_
        (apply Le.headZ (hs := [(⟨0, []⟩, ⟨0, []⟩, _)]) [⟨0, []⟩] rfl)
        all_goals (try dsimp only [srcs])
        (case' hfr | hob => (repeat' (first | refine La ?_ ?_ | refine ARs.agg ?_ | refine ARs.tup ?_ | (exact AR.tab ⟨rfl, fun u x hx => congrArg (Option.map (dobj 1)) hx⟩ htF (by decide) (by intro j; simp [Loc.at, relo])) | refine La ?_ ?_ | exact Lc | refine Lo ?_ | refine ⟨⟨_, rfl, ?_⟩, ?_⟩ | refine Lx ?_)))
        all_goals (first | exact Ld | exact trivial | (exact AR.tab ⟨rfl, fun u x hx => congrArg (Option.map (dobj 1)) hx⟩ htF (by decide) (by intro j; simp [Loc.at, relo])))
theorem l04Draw_ex (code : List Int) (hc : CodeOk code) (s : Src) (hs : SrcOk code s) : ∃ (T : List (List Int)) (s' : Src), TabOk T ∧ T.length ≤ 6 ∧ SrcOk code s' ∧ AC Tryz.prog 97 [Bx 3 0] (srcH code s) (TL T) (srcH code s') := by
  obtain ⟨a, s1, a1, a2, h1, q1, N1⟩ := next_ex hc hs 5
  obtain ⟨n, rfl⟩ : ∃ n : Nat, a = n := ⟨a.toNat, by omega⟩
  obtain ⟨T, s2, hT, hT6, h2, D2⟩ := l02DrawSize_ex code hc s1 h1 (1 + n) (1 + n) (by omega) (by omega)
  rw [show ((1 + n : Nat) : Int) = 1 + (n : Int) by omega] at D2
  have hQ : AC Tryz.prog 175 [Bx 3 0] (srcH code s) (TL T) (srcH code s2) := by
    show AC _ _ _ (heapL [(⟨0, []⟩, ⟨0, []⟩, srcO code s)]) _ _
    refine AC.of_body 1 Tryz.func175 rfl (fun l h => by simp [heapL, upd] at h; simp [h]) (fun C hC => ?_)
    simp only [startFr, Tryz.ntmps175, List.length_cons, List.length_nil, Nat.reduceAdd, Nat.reduceSub, List.replicate_succ, List.replicate_zero, List.cons_append, List.nil_append]
    have hD : ∀ l, C.D0 l → l = ⟨0, []⟩ := fun l h => by have := (hC l).1 h; simp [heapL, upd] at this; exact this
    repeat' (first | ((first | apply Ba | (apply Bb; (· rfl); (· rfl)) | (apply Bc; (· exact nxE)) | (apply Bd; (· rfl); (· rfl); (· exact nxE))); (· first | exact Nx N1 rfl rfl rfl rfl rfl | exact Zx (args := [I (1 + (n : Int)), I (1 + (n : Int))]) D2 rfl rfl rfl rfl (.cons (.dd _) (.cons (.dd _) .nil)) (fun _ => by simp [rn]) | exact Ok.pe)) | ((first | apply Ca | (apply Cb; (· exact nxE))); (· first | exact Nx N1 rfl rfl rfl rfl rfl | exact Zx (args := [I (1 + (n : Int)), I (1 + (n : Int))]) D2 rfl rfl rfl rfl (.cons (.dd _) (.cons (.dd _) .nil)) (fun _ => by simp [rn]) | exact Ok.e0)) | refine Sx ?_ | (refine Sy (fun h => ?_) (fun h => ?_) <;> try (exfalso; omega; done)) | refine Sz (fun h => ?_) (fun h => ?_))
    refine Ya ?_
    (apply Le.headZ (hs := [(⟨0, []⟩, ⟨0, []⟩, _)]) [⟨0, []⟩] rfl)
    all_goals (try dsimp only [srcs])
    (case' hfr | hob => (repeat' (first | refine La ?_ ?_ | exact Lc | refine Lo ?_ | refine ⟨⟨_, rfl, ?_⟩, ?_⟩ | refine Lx ?_)))
    all_goals (first | exact Ld | exact trivial | (rfl))
  obtain ⟨b, s3, b1, b2, h3, q3, N3⟩ := next_ex hc h2 30
  by_cases hb : b = 0
  · obtain ⟨x, s4, _, h4, p4, q4, K4⟩ := pick_ex hc h3 [1000000, 999983] 2 rfl
    obtain ⟨z, s5, _, h5, p5, q5, K5⟩ := pick_ex hc h4 [1000000, -7] 2 rfl
    refine ⟨[[-1000000000000000, x], [z, -1000000000000000]], s5, ⟨by simp, fun r hr => by simp at hr; rcases hr with rfl | rfl <;> simp⟩, by simp, h5, ?_⟩
    show AC _ _ _ (heapL [(⟨0, []⟩, ⟨0, []⟩, srcO code s)]) _ _
    refine AC.of_body 1 Tryz.func97 rfl (fun l h => by simp [heapL, upd] at h; simp [h]) (fun C hC => ?_)
    simp only [startFr, Tryz.ntmps97, List.length_cons, List.length_nil, Nat.reduceAdd, Nat.reduceSub, List.replicate_succ, List.replicate_zero, List.cons_append, List.nil_append]
    have hD : ∀ l, C.D0 l → l = ⟨0, []⟩ := fun l h => by have := (hC l).1 h; simp [heapL, upd] at this; exact this
    repeat' (first | ((first | apply Ba | (apply Bb; (· rfl); (· rfl)) | (apply Bc; (· exact nxE)) | (apply Bd; (· rfl); (· rfl); (· exact nxE))); (· first | exact Zx (args := []) hQ rfl rfl rfl rfl .nil (fun _ => by simp [rn]) | exact Nx N3 rfl rfl rfl rfl rfl | exact Kx K4 rfl rfl rfl rfl rfl rfl (by decide) | exact Kx K5 rfl rfl rfl rfl rfl rfl (by decide) | exact Ok.bs2I rfl rfl rfl rfl | exact Ok.bs2 rfl (by conv => lhs; whnf) (by conv => lhs; whnf) (by rfl) (by rfl) (by rfl) (by rfl) (by rfl) (by rfl) (by decide) | exact Ok.pe)) | ((first | apply Ca | (apply Cb; (· exact nxE))); (· first | exact Zx (args := []) hQ rfl rfl rfl rfl .nil (fun _ => by simp [rn]) | exact Nx N3 rfl rfl rfl rfl rfl | exact Kx K4 rfl rfl rfl rfl rfl rfl (by decide) | exact Kx K5 rfl rfl rfl rfl rfl rfl (by decide) | exact Ok.bs2I rfl rfl rfl rfl | exact Ok.bs2 rfl (by conv => lhs; whnf) (by conv => lhs; whnf) (by rfl) (by rfl) (by rfl) (by rfl) (by rfl) (by rfl) (by decide) | exact Ok.e0)) | refine Sx ?_ | (refine Sy (fun h => ?_) (fun h => ?_) <;> try (exfalso; omega; done)) | refine Sz (fun h => ?_) (fun h => ?_))
    refine Ya ?_
    (apply Le.headZ (hs := [(⟨0, []⟩, ⟨0, []⟩, _)]) [⟨0, []⟩] rfl)
    all_goals (try dsimp only [srcs])
    (case' hfr | hob => (repeat' (first | refine La ?_ ?_ | refine ARs.agg ?_ | refine ARs.tup ?_ | (exact AR.two (a := ⟨11, []⟩) (b := ⟨15, []⟩) rfl rfl rfl rfl rfl (by decide) (by decide) (by decide)) | refine La ?_ ?_ | exact Lc | refine Lo ?_ | refine ⟨⟨_, rfl, ?_⟩, ?_⟩ | refine Lx ?_)))
    all_goals (first | exact Ld | exact trivial | (exact AR.two (a := ⟨11, []⟩) (b := ⟨15, []⟩) rfl rfl rfl rfl rfl (by decide) (by decide) (by decide)))
  · refine ⟨T, s3, hT, by omega, h3, ?_⟩
    show AC _ _ _ (heapL [(⟨0, []⟩, ⟨0, []⟩, srcO code s)]) _ _
    refine AC.of_body 1 Tryz.func97 rfl (fun l h => by simp [heapL, upd] at h; simp [h]) (fun C hC => ?_)
    simp only [startFr, Tryz.ntmps97, List.length_cons, List.length_nil, Nat.reduceAdd, Nat.reduceSub, List.replicate_succ, List.replicate_zero, List.cons_append, List.nil_append]
    have hD : ∀ l, C.D0 l → l = ⟨0, []⟩ := fun l h => by have := (hC l).1 h; simp [heapL, upd] at this; exact this
    repeat' (first | ((first | apply Ba | (apply Bb; (· rfl); (· rfl)) | (apply Bc; (· exact nxE)) | (apply Bd; (· rfl); (· rfl); (· exact nxE))); (· first | exact Zx (args := []) hQ rfl rfl rfl rfl .nil (fun _ => by simp [rn]) | exact Nx N3 rfl rfl rfl rfl rfl | exact Ok.pe)) | ((first | apply Ca | (apply Cb; (· exact nxE))); (· first | exact Zx (args := []) hQ rfl rfl rfl rfl .nil (fun _ => by simp [rn]) | exact Nx N3 rfl rfl rfl rfl rfl | exact Ok.e0)) | refine Sx ?_ | (refine Sy (fun h => ?_) (fun h => ?_) <;> try (exfalso; omega; done)) | refine Sz (fun h => ?_) (fun h => ?_))
    refine Ya ?_
    (apply Le.headZ (hs := [(⟨0, []⟩, ⟨0, []⟩, _)]) [⟨0, []⟩] rfl)
    all_goals (try dsimp only [srcs])
    (case' hfr | hob => (repeat' (first | refine La ?_ ?_ | exact Lc | refine Lo ?_ | refine ⟨⟨_, rfl, ?_⟩, ?_⟩ | refine Lx ?_)))
    all_goals (first | exact Ld | exact trivial | (rfl))
end Go.Proofs.YtpgcmpbamlnkkaaGreat
end

section
namespace Go.Proofs.YtpgcmpbamlnkkaaGreat
set_option linter.unusedSimpArgs false
set_option linter.unusedVariables false
open Go Go.RowKit
attribute [local irreducible] AL AD AW OpOk Le AC thenQ blockQ EndQ

end Go.Proofs.YtpgcmpbamlnkkaaGreat
end

section
namespace Go.Proofs.YtpgcmpbamlnkkaaGreat
set_option linter.unusedSimpArgs false
set_option linter.unusedVariables false
open Go Go.RowKit
attribute [local irreducible] AL AD AW OpOk Le AC thenQ blockQ EndQ

theorem Wk.same {xs ys : List Pl} (hl : ys.length = xs.length) (h : ∀ i, (plA ys i).f = (plA xs i).f ∧ (plA ys i).t = (plA xs i).t) : ∀ {c : List Nat} {u v : Int}, Wk xs u c v → Wk ys u c v
  | [], _, _, hw => hw
  | i :: c, u, v, ⟨h1, h2, h3⟩ => ⟨by omega, by rw [(h i).1]; exact h2, by rw [(h i).2]; exact Wk.same hl h h3⟩
theorem Circ.same {xs ys : List Pl} (hl : ys.length = xs.length) (h : ∀ i, (plA ys i).f = (plA xs i).f ∧ (plA ys i).t = (plA xs i).t) {c : List Nat} (hc : Circ xs c) : Circ ys c := by
  have e : (c.map fun i => (plA ys i).f) = c.map fun i => (plA xs i).f := List.map_congr_left fun i _ => (h i).1
  refine ⟨hc.ne, ?_, by rw [e]; exact hc.nd, fun i hi => ?_⟩
  · have := hc.wk.same hl h
    simp only [firstF] at this ⊢
    rw [(h (hdN c)).1]
    exact this
  · have := hc.mn i hi
    simp only [firstF] at this ⊢
    rw [(h (hdN c)).1, (h i).1]
    exact this
end Go.Proofs.YtpgcmpbamlnkkaaGreat
end

section
namespace Go.Proofs.YtpgcmpbamlnkkaaGreat
set_option linter.unusedSimpArgs false
set_option linter.unusedVariables false
open Go Go.RowKit
attribute [local irreducible] AL AD AW OpOk Le AC thenQ blockQ EndQ

abbrev prF (a b : List (List Int)) (i j : Nat) : Nat → Int := fun q => timesB (entN a i q) (entN b q j)
def mulF (a b : List (List Int)) (n : Nat) : Nat → Nat → Int := fun i j => maxN (prF a b i j) n
def parF (a b : List (List Int)) (n i j m : Nat) : Nat → Nat → Int := fun x y => if x = i ∧ y = j then maxN (prF a b i j) m else mixF (mulF a b n) botF i j x y
theorem parF_0 {a b : List (List Int)} {n i j : Nat} : parF a b n i j 0 = mixF (mulF a b n) botF i j := by
  funext x y
  unfold parF
  by_cases h : x = i ∧ y = j
  · obtain ⟨rfl, rfl⟩ := h
    rw [if_pos ⟨rfl, rfl⟩]; unfold mixF; rw [if_neg (by omega)]; rfl
  · rw [if_neg h]
theorem parF_n {a b : List (List Int)} {n i j : Nat} : parF a b n i j n = mixF (mulF a b n) botF i (j + 1) := by
  funext x y
  rw [mixF_set]
  rfl
theorem parF_at {a b : List (List Int)} {n i j m : Nat} : parF a b n i j m i j = maxN (prF a b i j) m := by simp [parF]
theorem parF_set {a b : List (List Int)} {n i j m x y : Nat} : parF a b n i j (m + 1) x y = if x = i ∧ y = j then max (parF a b n i j m i j) (prF a b i j m) else parF a b n i j m x y := by
  rw [parF_at]
  unfold parF
  by_cases h : x = i ∧ y = j
  · rw [if_pos h, if_pos h]; rfl
  · rw [if_neg h, if_neg h, if_neg h]
set_option maxHeartbeats 4000000 in
theorem l02Multiply_ac (n : Nat) (a b : List (List Int)) (ha : Rc a n n) (hb : Rc b n n) (hn : n ≤ 1000) (h0 : 0 < n)
    (ht : ∀ i q j, i < n → q < n → j < n → entN a i q ≠ BOT → entN b q j ≠ BOT → -9223372036854775808 ≤ entN a i q + entN b q j ∧ entN a i q + entN b q j ≤ 9223372036854775807) :
    AC Tryz.prog 147 [TL a, TL b] H0 (own1 1 n) (hpM 1 (TR (tabF n n (mulF a b n)))) := by
  have hal := ha.l
  have hbl := hb.l
  have hz : tabF n n (mixF (mulF a b n) botF 0 0) = botT n n := by rw [mixF_0, botF_tab]
  obtain ⟨B0, hB1, hB2, hB3⟩ := hb.get h0 h0
  have hBr := TR_get hB1
  have hBl : (IR B0).length = n := by rw [IR_len, hB3]
  have hB : AC Tryz.prog 149 [I a.length, I B0.length] H0 (own1 1 n) (hpM 1 (TR (tabF n n (mixF (mulF a b n) botF 0 0)))) := by
    rw [hal, hB3, hz]; exact l02Bottom_ac n n (by omega) (by omega)
  refine AC.of_body 0 Tryz.func147 rfl (fun l h => absurd rfl h) (fun C hC => ?_)
  have hD : ∀ l, ¬ C.D0 l := fun l h => (hC l).1 h rfl
  simp only [startFr, Tryz.ntmps147, List.length_cons, List.length_nil, Nat.reduceAdd, Nat.reduceSub, List.replicate_succ, List.replicate_zero, List.cons_append, List.nil_append]
  repeat' (first | ((first | apply Ba | (apply Bb; (· rfl); (· rfl)) | (apply Bc; (· exact nxE)) | (apply Bd; (· rfl); (· rfl); (· exact nxE))); (· first | exact Tb rfl rfl (hB) (Sd (Sd Sn)) | exact Ok.pe)) | ((first | apply Ca | (apply Cb; (· exact nxE))); (· first | exact Tb rfl rfl (hB) (Sd (Sd Sn)) | exact Ok.e0)) | refine Sx ?_ | (refine Sy (fun h => ?_) (fun h => ?_) <;> try (exfalso; omega; done)) | refine Sz (fun h => ?_) (fun h => ?_))
  refine AW.loop (X := {k : Nat // k ≤ n}) (fun k => ⟨[TL a, TL b, Oo, Oo, Oo, .own 1 ⟨1, []⟩ 0 n, I (k.1 : Nat), Oo, Oo, Oo, Oo, Oo, Oo, Oo, Oo, Oo, Oo, Oo, Oo, Oo, Oo, Oo, Oo, Oo, Oo, Oo, Oo, Oo, Oo, Oo, Oo, Oo, Oo, Oo, Oo, Oo, Oo, Oo, Oo, Oo, Oo, Oo, Oo, Oo, Oo, Oo, Oo, Oo, Oo, Oo, Oo, Oo, Oo, Oo, Oo, Oo, Oo, Oo, Oo, Oo, Oo, Oo, Oo, Oo, Oo, Oo], heapX [] [mi1 ⟨1, []⟩ (TR (tabF n n (mixF (mulF a b n) botF k.1 0)))], 900⟩) (fun k => n - k.1) ⟨0, Nat.zero_le _⟩ ?_ (fun k => ?_)
  ·
    (apply Le.headG [] [{ l := ⟨1, []⟩, k := 1, R := TR (tabF n n (mixF (mulF a b n) botF 0 0)), src := ⟨7, [0]⟩, base := ⟨7, [0]⟩ }] (fun _ => False))
    (case' hlen => rfl)
    (case' hms => rfl)
    all_goals (try dsimp only [srcs])
    (case' hfr | hob => (repeat' (first | refine La ?_ ?_ | exact Lc | refine Lo ?_ | refine ⟨⟨_, rfl, ?_⟩, ?_⟩ | refine Lx ?_)))
    (case' hok => first | exact ⟨MI.ok_same rfl (Cg), trivial⟩ | exact trivial)
    (case' hN => rfl)
    (case' hS => rfl)
    all_goals (first | exact Ld | (rfl))
  obtain ⟨i, hi⟩ := k
  simp only
  by_cases hlt : i < n
  ·
    repeat' (first | ((first | apply Ba | (apply Bb; (· rfl); (· rfl)) | (apply Bc; (· exact nxE)) | (apply Bd; (· rfl); (· rfl); (· exact nxE))); (· first | exact Ok.pe)) | ((first | apply Ca | (apply Cb; (· exact nxE))); (· first | exact Ok.e0)) | refine Sx ?_ | (refine Sy (fun h => ?_) (fun h => ?_) <;> try (exfalso; omega; done)) | refine Sz (fun h => ?_) (fun h => ?_))
    refine AW.loop (X := {k : Nat // k ≤ n}) (fun k => ⟨[TL a, TL b, Oo, Oo, Oo, .own 1 ⟨1, []⟩ 0 n, I i, I (k.1 : Nat), Oo, Oo, Oo, Oo, Oo, Oo, Oo, Oo, Oo, Oo, Oo, Oo, Oo, Oo, Oo, Oo, Oo, Oo, Oo, Oo, Oo, Oo, Oo, Oo, Oo, Oo, Oo, Oo, Oo, Oo, Oo, Oo, Oo, Oo, Oo, Oo, Oo, Oo, Oo, Oo, Oo, Oo, Oo, Oo, Oo, Oo, Oo, Oo, Oo, Oo, Oo, Oo, Oo, Oo, Oo, Oo, Oo, Oo], heapX [] [mi1 ⟨1, []⟩ (TR (tabF n n (mixF (mulF a b n) botF i k.1)))], 900⟩) (fun k => n - k.1) ⟨0, Nat.zero_le _⟩ ?_ (fun k => ?_)
    ·
      (apply Le.headG [] [mi1 ⟨1, []⟩ (TR (tabF n n (mixF (mulF a b n) botF i 0)))] (fun _ => False))
      (case' hlen => rfl)
      (case' hms => rfl)
      all_goals (try dsimp only [srcs])
      (case' hfr | hob => (repeat' (first | refine La ?_ ?_ | exact Lc | refine Lo ?_ | refine ⟨⟨_, rfl, ?_⟩, ?_⟩ | refine Lx ?_)))
      (case' hok => first | exact ⟨MI.ok_same rfl (Cg), trivial⟩ | exact trivial)
      (case' hN => rfl)
      (case' hS => rfl)
      all_goals (first | exact Ld | (rfl))
    obtain ⟨j, hj⟩ := k
    simp only
    by_cases hlt2 : j < n
    ·
      repeat' (first | ((first | apply Ba | (apply Bb; (· rfl); (· rfl)) | (apply Bc; (· exact nxE)) | (apply Bd; (· rfl); (· rfl); (· exact nxE))); (· first | exact Ok.pe)) | ((first | apply Ca | (apply Cb; (· exact nxE))); (· first | exact Ok.e0)) | refine Sx ?_ | (refine Sy (fun h => ?_) (fun h => ?_) <;> try (exfalso; omega; done)) | refine Sz (fun h => ?_) (fun h => ?_))
      rw [← parF_0]
      refine AW.loop (X := {k : Nat // k ≤ n}) (fun k => ⟨[TL a, TL b, Oo, Oo, Oo, .own 1 ⟨1, []⟩ 0 n, I i, I j, I (k.1 : Nat), Oo, Oo, Oo, Oo, Oo, Oo, Oo, Oo, Oo, Oo, Oo, Oo, Oo, Oo, Oo, Oo, Oo, Oo, Oo, Oo, Oo, Oo, Oo, Oo, Oo, Oo, Oo, Oo, Oo, Oo, Oo, Oo, Oo, Oo, Oo, Oo, Oo, Oo, Oo, Oo, Oo, Oo, Oo, Oo, Oo, Oo, Oo, Oo, Oo, Oo, Oo, Oo, Oo, Oo, Oo, Oo, Oo], heapX [] [mi1 ⟨1, []⟩ (TR (tabF n n (parF a b n i j k.1)))], 900⟩) (fun k => n - k.1) ⟨0, Nat.zero_le _⟩ ?_ (fun k => ?_)
      ·
        (apply Le.headG [] [mi1 ⟨1, []⟩ (TR (tabF n n (parF a b n i j 0)))] (fun _ => False))
        (case' hlen => rfl)
        (case' hms => rfl)
        all_goals (try dsimp only [srcs])
        (case' hfr | hob => (repeat' (first | refine La ?_ ?_ | exact Lc | refine Lo ?_ | refine ⟨⟨_, rfl, ?_⟩, ?_⟩ | refine Lx ?_)))
        (case' hok => first | exact ⟨MI.ok_same rfl (Cg), trivial⟩ | exact trivial)
        (case' hN => rfl)
        (case' hS => rfl)
        all_goals (first | exact Ld | (rfl))
      obtain ⟨q, hq⟩ := k
      simp only
      by_cases hlt3 : q < n
      ·
        have hrw := TRF_get (n := n) (f := parF a b n i j q) hlt
        have hli : (IR (rowF n (parF a b n i j q i))).length = n := by rw [IR_len, rowF_len]
        have hij := IRF_get (g := parF a b n i j q i) hlt2
        obtain ⟨R, hR1, hR2, hR3⟩ := ha.get hlt hlt3
        have hRr := TR_get hR1
        have hRf := IR_get hR2
        have hRl : (IR R).length = n := by rw [IR_len, hR3]
        obtain ⟨S, hS1, hS2, hS3⟩ := hb.get hlt3 hlt2
        have hSr := TR_get hS1
        have hSf := IR_get hS2
        have hSl : (IR S).length = n := by rw [IR_len, hS3]
        have hset : (IR (rowF n (parF a b n i j q i))).set j [DI (max (parF a b n i j q i j) (timesB (entN a i q) (entN b q j)))] = IR ((rowF n (parF a b n i j q i)).set j (max (parF a b n i j q i j) (prF a b i j q))) := IR_set
        repeat' (first | ((first | apply Ba | (apply Bb; (· rfl); (· rfl)) | (apply Bc; (· exact nxE)) | (apply Bd; (· rfl); (· rfl); (· exact nxE))); (· first | exact Ok.ldTn rfl rfl rfl hrw hli | exact Ok.ld1 rfl rfl (congrArg (Option.map (dobj 1)) hrw) hij | exact Kz rfl rfl (l01Times_ac (entN a i q) (entN b q j) (ht i q j hlt hlt3 hlt2)) (Ad (Ad An)) | exact Ok.st1 rfl rfl (congrArg (Option.map (dobj 1)) hrw) (by rw [hli]; omega) (by rw [hij]; rfl) rfl rfl hset | exact Ok.pe)) | ((first | apply Ca | (apply Cb; (· exact nxE))); (· first | exact Ok.st1 rfl rfl (congrArg (Option.map (dobj 1)) hrw) (by rw [hli]; omega) (by rw [hij]; rfl) rfl rfl hset | exact Ok.e0)) | refine Sx ?_ | (refine Sy (fun h => ?_) (fun h => ?_) <;> try (exfalso; omega; done)) | refine Sz (fun h => ?_) (fun h => ?_))
        refine ⟨⟨q + 1, by omega⟩, ?_, by simp only; omega⟩
        (apply Le.headG [] [mi1 ⟨1, []⟩ (TR (tabF n n (parF a b n i j (q + 1))))] (fun _ => False))
        (case' hlen => rfl)
        (case' hms => rfl)
        all_goals (try dsimp only [srcs])
        (case' hfr | hob => (repeat' (first | refine La ?_ ?_ | exact Lc | refine Lo ?_ | refine ⟨⟨_, rfl, ?_⟩, ?_⟩ | refine Lx ?_)))
        (case' hok => first | exact ⟨MI.ok_row (tabF_set (fun x y _ _ => parF_set)) hrw (by simp) rfl (Cg), trivial⟩ | exact trivial)
        (case' hN => rfl)
        (case' hS => rfl)
        all_goals (first | exact Ld | (rfl))
      ·
        obtain rfl : q = n := by omega
        repeat' (first | ((first | apply Ba | (apply Bb; (· rfl); (· rfl)) | (apply Bc; (· exact nxE)) | (apply Bd; (· rfl); (· rfl); (· exact nxE))); (· first | exact Ok.pe)) | ((first | apply Ca | (apply Cb; (· exact nxE))); (· first | exact Ok.e0)) | refine Sx ?_ | (refine Sy (fun h => ?_) (fun h => ?_) <;> try (exfalso; omega; done)) | refine Sz (fun h => ?_) (fun h => ?_))
        refine ⟨⟨j + 1, by omega⟩, ?_, by simp only; omega⟩
        simp only
        rw [← parF_n]
        (apply Le.headG [] [mi1 ⟨1, []⟩ (TR (tabF q q (parF a b q i j q)))] (fun _ => False))
        (case' hlen => rfl)
        (case' hms => rfl)
        all_goals (try dsimp only [srcs])
        (case' hfr | hob => (repeat' (first | refine La ?_ ?_ | exact Lc | refine Lo ?_ | refine ⟨⟨_, rfl, ?_⟩, ?_⟩ | refine Lx ?_)))
        (case' hok => first | exact ⟨MI.ok_same rfl (Cg), trivial⟩ | exact trivial)
        (case' hN => rfl)
        (case' hS => rfl)
        all_goals (first | exact Ld | (rfl))
    ·
      obtain rfl : j = n := by omega
      repeat' (first | ((first | apply Ba | (apply Bb; (· rfl); (· rfl)) | (apply Bc; (· exact nxE)) | (apply Bd; (· rfl); (· rfl); (· exact nxE))); (· first | exact Ok.pe)) | ((first | apply Ca | (apply Cb; (· exact nxE))); (· first | exact Ok.e0)) | refine Sx ?_ | (refine Sy (fun h => ?_) (fun h => ?_) <;> try (exfalso; omega; done)) | refine Sz (fun h => ?_) (fun h => ?_))
      refine ⟨⟨i + 1, by omega⟩, ?_, by simp only; omega⟩
      simp only
      rw [← mixF_row]
      (apply Le.headG [] [mi1 ⟨1, []⟩ (TR (tabF j j (mixF (mulF a b j) botF i j)))] (fun _ => False))
      (case' hlen => rfl)
      (case' hms => rfl)
      all_goals (try dsimp only [srcs])
      (case' hfr | hob => (repeat' (first | refine La ?_ ?_ | exact Lc | refine Lo ?_ | refine ⟨⟨_, rfl, ?_⟩, ?_⟩ | refine Lx ?_)))
      (case' hok => first | exact ⟨MI.ok_same rfl (Cg), trivial⟩ | exact trivial)
      (case' hN => rfl)
      (case' hS => rfl)
      all_goals (first | exact Ld | (rfl))
  ·
    obtain rfl : i = n := by omega
    rw [mixF_all]
    repeat' (first | ((first | apply Ba | (apply Bb; (· rfl); (· rfl)) | (apply Bc; (· exact nxE)) | (apply Bd; (· rfl); (· rfl); (· exact nxE))); (· first | exact Ok.pe)) | ((first | apply Ca | (apply Cb; (· exact nxE))); (· first | exact Ok.e0)) | refine Sx ?_ | (refine Sy (fun h => ?_) (fun h => ?_) <;> try (exfalso; omega; done)) | refine Sz (fun h => ?_) (fun h => ?_))
    refine Ya ?_
    (apply Le.headG [] [{ l := ⟨0, []⟩, k := 1, R := TR (tabF i i (mulF a b i)), src := ⟨1, []⟩, base := ⟨1, []⟩ }] (fun _ => False))
    (case' hlen => rfl)
    (case' hms => rfl)
    all_goals (try dsimp only [srcs])
    (case' hfr | hob => (repeat' (first | refine La ?_ ?_ | exact Lc | refine Lo ?_ | refine ⟨⟨_, rfl, ?_⟩, ?_⟩ | refine Lx ?_)))
    (case' hok => first | exact ⟨MI.ok_same rfl (Cg), trivial⟩ | exact trivial)
    (case' hN => rfl)
    (case' hS => rfl)
    all_goals (first | exact Ld | (rfl))
end Go.Proofs.YtpgcmpbamlnkkaaGreat
end
