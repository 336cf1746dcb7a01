/-
  Walks in the abstract reading, part 8.
-/
import Derived.Test.YtofakjlamoigcaaDoorKeR3
import Derived.Test.YtofakjlamoigcaaDoorKeU4
section
namespace Go.Proofs.YtofakjlamoigcaaDoor
set_option linter.unusedSimpArgs false
set_option linter.unusedVariables false
open Go Go.RowKit
attribute [local irreducible] AL AD AW OpOk Le AC thenQ blockQ EndQ

section
variable {P : Program} {o : Oper} {A : Operand → AV} {H : Heap} {new : Nat}
theorem Ok.bs4 [Mode] {t e : TypeId} {k b : Nat} {z : Value} {x y w v : Operand} {n1 n2 n3 n4 : Int} (ho : o.op = .buildSlice t 4 #[(0, x), (1, y), (2, w), (3, v)]) [h : TySlice P t e k b z] (hx : A x = I n1) (hy : A y = I n2) (hw : A w = I n3) (hv : A v = I n4) (hk : k = 1) :
    OpOk P o A [] H new (.own k ⟨new, []⟩ 0 4) [.one ⟨new, []⟩ (some (IO [n1, n2, n3, n4]))] := by
  subst hk
  have := OpOk.buildSlice (P := P) (H := H) (new := new) (A := A) [x, y, w, v] ho rfl rfl (by decide) (by intro p hp; simp at hp; rcases hp with rfl | rfl | rfl | rfl <;> simp only [hx, hy, hw, hv] <;> rfl) (by intro p hp; simp at hp; rcases hp with rfl | rfl | rfl | rfl <;> simp only [hx, hy, hw, hv] <;> rfl)
  simpa [hx, hy, hw, hv, AV.cells, dobj] using this
end
theorem l11DrawZ_ac [Mode] (code : List Int) (hc : CodeOk code) (s : Src) (hs : SrcOk code s) : AC Tryd.prog 33 [Bx 3 0] (srcH code s) (grD (dr11 code s).ev (dr11 code s).xs) (srcH code (dr11 code s).s) :=
  (l11Draw_ac code hc s hs).frzS rfl (ARs.agg (.cons (.dd _) (.cons (AR.whole rfl (by simp) (List.length_map _)) .nil)))
/-! ### A graph, sometimes with a dead cycle -/
theorem DrOk.st [Mode] {code : List Int} {g : DrG} (h : DrOk code g) : RStOk code 40 (g.s, g.xs) := ⟨h.s, h.xs, h.len⟩
end Go.Proofs.YtofakjlamoigcaaDoor
end

section
namespace Go.Proofs.YtofakjlamoigcaaDoor
set_option linter.unusedSimpArgs false
set_option linter.unusedVariables false
open Go Go.RowKit
attribute [local irreducible] AL AD AW OpOk Le AC thenQ blockQ EndQ

section
variable {P : Program} {o : Oper} {A : Operand → AV} {H : Heap} {new : Nat}
/-- The source of the draws is made. -/
theorem Fx [Mode] {fo x : Operand} {ts : Array TypeId} {f : FuncId} {code : List Int} {s : Src} (hc : AC P f [.d (BD code)] H0 (Bx 3 0) (srcH code s)) (ho : o.op = .call { callee := .value fo, args := #[x], argTypes := ts }) [FnBody P f] (hfo : A fo = .clo (.func f) [] [])
    (hx : A x = .d (BD code)) : OpOk P o A [] H new (.ptr 3 ⟨new, [0]⟩ 0 0) [.one ⟨new, [0]⟩ (some (srcO code s))] :=
  OpOk.call1n (xs := [x]) [] ho hfo hc (.inl rfl) (fun g => rnO_dobj _ _ _) (by
    show ARs _ _ _ _ _ [A x]
    rw [hx]; exact .cons (AR.dd _) .nil) (by rw [rn])
theorem Nl [Mode] {fo x y : Operand} {ts : Array TypeId} {f : FuncId} {l : Loc} {code : List Int} {s s' : Src} {n a : Int} (hc : AC P f [Bx 3 0, I n] (srcH code s) (I a) (srcH code s')) (ho : o.op = .call { callee := .value fo, args := #[x, y], argTypes := ts }) [FnBody P f] (hfo : A fo = .clo (.func f) [] [])
    (hx : A x = .ptr 3 l 0 0) (hy : A y = I n) (hl : H l = some (srcO code s)) : OpOk P o A [l] H new (I a) [.one l (some (srcO code s'))] :=
  OpOk.callM (xs := [x, y]) ho hfo hc hl rfl (by
    show ARs _ _ _ _ _ [A x, A y]
    rw [hx, hy]; exact .cons (AR.ptr 3 ⟨0, []⟩ 0 0 rfl) (.cons (.dd _) .nil))
theorem Zl [Mode] {fo x : Operand} {xs : List Operand} {ts : Array TypeId} {f : FuncId} {l : Loc} {code : List Int} {s s' : Src} {args : List AV} {res : AV} (hc : AC P f (Bx 3 0 :: args) (srcH code s) res (srcH code s')) (ho : o.op = .call { callee := .value fo, args := (x :: xs).toArray, argTypes := ts }) [FnBody P f] (hfo : A fo = .clo (.func f) [] [])
    (hx : A x = .ptr 3 l 0 0) (hl : H l = some (srcO code s)) (hy : ARs H (fun _ => False) (fun _ => l) (· = ⟨0, []⟩) args (xs.map A)) (hres : ∀ g, rn g res = res) : OpOk P o A [l] H new res [.one l (some (srcO code s'))] :=
  OpOk.callMg ho hfo hc hl hres (by
    rw [List.append_nil]
    show ARs _ _ _ _ _ (A x :: xs.map A)
    rw [hx]; exact .cons (AR.ptr 3 ⟨0, []⟩ 0 0 rfl) hy)
end
theorem big_ac [Mode] (code : List Int) (hl : code.length ≤ 9223372036854775807) : AC Tryd.prog 7 [.d (BD code)] H0 (Bo (decide (4096 < (code.length : Int)))) H0 := by
  refine AC.of_body 0 Tryd.func7 rfl (fun l h => absurd rfl h) (fun C hC => ?_)
  have hD : ∀ l, ¬ C.D0 l := fun l h => (hC l).1 h rfl
  simp only [startFr, Tryd.ntmps7, List.length_cons, List.length_nil, Nat.reduceAdd, Nat.reduceSub, List.replicate_succ, List.replicate_zero, List.cons_append, List.nil_append]
  repeat' (first | ((first | apply Ba | (apply Bb; (· rfl); (· rfl)) | (apply Bc; (· exact nxE)) | (apply Bd; (· rfl); (· rfl); (· exact nxE))); (· first | exact Ok.pe)) | ((first | apply Ca | (apply Cb; (· exact nxE))); (· first | exact Ok.e0)) | refine Sx ?_ | (refine Sy (fun h => ?_) (fun h => ?_) <;> try (exfalso; omega; done)) | refine Sz (fun h => ?_) (fun h => ?_))
  refine Ya ?_
  (apply Le.headZ (hs := []) [] rfl)
  all_goals (try dsimp only [srcs])
  (case' hfr => (repeat' (first | refine La ?_ ?_ | exact Lc | refine Lo ?_ | refine ⟨⟨_, rfl, ?_⟩, ?_⟩ | refine Lx ?_)))
  all_goals (first | exact Ld | exact trivial | (rfl))
end Go.Proofs.YtofakjlamoigcaaDoor
end

section
namespace Go.Proofs.YtofakjlamoigcaaDoor
set_option linter.unusedSimpArgs false
set_option linter.unusedVariables false
open Go Go.RowKit
section
variable {P : Program} {o : Oper} {A : Operand → AV} {H : Heap} {new : Nat}
theorem Ok.bs8S [Mode] {t e : TypeId} {k b : Nat} {z : Value} {x1 x2 x3 x4 x5 x6 x7 x8 : Operand} {c1 c2 c3 c4 c5 c6 c7 c8 : List UInt8} (ho : o.op = .buildSlice t 8 #[(0, x1), (1, x2), (2, x3), (3, x4), (4, x5), (5, x6), (6, x7), (7, x8)]) [h : TySlice P t e k b z] (h1 : A x1 = Str c1) (h2 : A x2 = Str c2) (h3 : A x3 = Str c3) (h4 : A x4 = Str c4) (h5 : A x5 = Str c5) (h6 : A x6 = Str c6) (h7 : A x7 = Str c7) (h8 : A x8 = Str c8) (hk : k = 1) :
    OpOk P o A [] H new (.own k ⟨new, []⟩ 0 8) [.one ⟨new, []⟩ (some (SO [c1, c2, c3, c4, c5, c6, c7, c8]))] := by
  subst hk
  have := OpOk.buildSlice (P := P) (H := H) (new := new) (A := A) [x1, x2, x3, x4, x5, x6, x7, x8] ho rfl rfl (by decide) (by intro p hp; simp at hp; rcases hp with rfl | rfl | rfl | rfl | rfl | rfl | rfl | rfl <;> simp only [h1, h2, h3, h4, h5, h6, h7, h8] <;> rfl) (by intro p hp; simp at hp; rcases hp with rfl | rfl | rfl | rfl | rfl | rfl | rfl | rfl <;> simp only [h1, h2, h3, h4, h5, h6, h7, h8] <;> rfl)
  simpa [h1, h2, h3, h4, h5, h6, h7, h8, AV.cells, dobj, stR] using this
end
theorem SO_get [Mode] {ss : List (List UInt8)} {i : Nat} {s : List UInt8} (h : ss[i]? = some s) : (SO ss).rows[0 + ((i : Nat) : Int).toNat]? = some [Str s] := by
  rw [Nat.zero_add, Int.toNat_natCast]
  simp [dobj, stR, h]
attribute [local irreducible] AL AD AW OpOk Le AC thenQ blockQ EndQ

set_option maxHeartbeats 4000000 in
theorem l01Damage_ex [Mode] (code : List Int) (hc : CodeOk code) (s : Src) (hs : SrcOk code s) (t : List UInt8) (ht : t.length ≤ 10000000) : ∃ (t' : List UInt8) (s' : Src), SrcOk code s' ∧ t'.length ≤ t.length + 1 ∧ AC Tryd.prog 41 [Bx 3 0, Str t] (srcH code s) (Str t') (srcH code s') := by
  obtain ⟨k0, s1, k1, k2, h1, q1, N1⟩ := next_ex hc hs ((t.length : Int) + 1)
  obtain ⟨z, s2, z1, z2, h2, q2, N2⟩ := next_ex hc h1 8
  obtain ⟨w0, s3, w1, w2, h3, q3, N3⟩ := next_ex hc h2 8
  obtain ⟨k, rfl⟩ : ∃ k : Nat, k0 = k := ⟨k0.toNat, by omega⟩
  obtain ⟨w, rfl⟩ : ∃ w : Nat, w0 = w := ⟨w0.toNat, by omega⟩
  have hk : k ≤ t.length := by omega
  have hw : w < 8 := by omega
  show ∃ (t' : List UInt8) (s' : Src), SrcOk code s' ∧ t'.length ≤ t.length + 1 ∧ AC _ _ _ (heapL [(⟨0, []⟩, ⟨0, []⟩, srcO code s)]) _ _
  clear q1 q2 q3
  by_cases c0 : z = 0
  · subst c0
    refine ⟨t.take k, s2, h2, by rw [List.length_take]; omega, ?_⟩
    refine AC.of_body 1 Tryd.func41 rfl (fun l h => by simp [heapL, upd] at h; simp [h]) (fun C hC => ?_)
    simp only [startFr, Tryd.ntmps41, List.length_cons, List.length_nil, Nat.reduceAdd, Nat.reduceSub, List.replicate_succ, List.replicate_zero, List.cons_append, List.nil_append]
    have hD : ∀ l, C.D0 l → l = ⟨0, []⟩ := fun l h => by have := (hC l).1 h; simp [heapL, upd] at this; exact this
    repeat' (first | ((first | apply Ba | (apply Bb; (· rfl); (· rfl)) | (apply Bc; (· exact nxE)) | (apply Bd; (· rfl); (· rfl); (· exact nxE))); (· first | exact Ok.sTo (j := k) rfl rfl rfl rfl (by omega) | exact Ok.slen rfl rfl | exact Nx N1 rfl rfl rfl rfl rfl | exact Nx N2 rfl rfl rfl rfl rfl | exact Ok.pe)) | ((first | apply Ca | (apply Cb; (· exact nxE))); (· first | exact Nx N1 rfl rfl rfl rfl rfl | exact Nx N2 rfl rfl rfl rfl rfl | exact Ok.e0)) | refine Sx ?_ | (refine Sy (fun h => ?_) (fun h => ?_) <;> try (exfalso; omega; done)) | refine Sz (fun h => ?_) (fun h => ?_))
    all_goals
      refine Ya ?_
      (apply Le.headZ (hs := [(⟨0, []⟩, ⟨0, []⟩, _)]) [⟨0, []⟩] rfl)
      all_goals (try dsimp only [srcs])
      (case' hfr | hob => (repeat' (first | refine La ?_ ?_ | exact Lc | refine Lo ?_ | refine ⟨⟨_, rfl, ?_⟩, ?_⟩ | refine Lx ?_)))
      all_goals (first | exact Ld | exact trivial | (rfl))
  by_cases c1 : z = 1
  · subst c1
    obtain ⟨c, hcw⟩ : ∃ c, ([[48], [49], [32], [45], [46], [44], [10], [59]] : List (List UInt8))[w]? = some c := ⟨_, List.getElem?_eq_getElem (by simpa using hw)⟩
    have hcl : c.length = 1 := by
      have := List.mem_of_getElem? hcw
      simp only [List.mem_cons, List.not_mem_nil, or_false] at this
      rcases this with rfl | rfl | rfl | rfl | rfl | rfl | rfl | rfl <;> rfl
    have hrow := SO_get hcw
    have hl1 : (t.take k).length = k := by rw [List.length_take]; omega
    have hl2 : (t.drop k).length = t.length - k := List.length_drop
    refine ⟨t.take k ++ c ++ t.drop k, s3, h3, by rw [List.length_append, List.length_append, hl1, hl2, hcl]; omega, ?_⟩
    refine AC.of_body 1 Tryd.func41 rfl (fun l h => by simp [heapL, upd] at h; simp [h]) (fun C hC => ?_)
    simp only [startFr, Tryd.ntmps41, List.length_cons, List.length_nil, Nat.reduceAdd, Nat.reduceSub, List.replicate_succ, List.replicate_zero, List.cons_append, List.nil_append]
    have hD : ∀ l, C.D0 l → l = ⟨0, []⟩ := fun l h => by have := (hC l).1 h; simp [heapL, upd] at this; exact this
    repeat' (first | ((first | apply Ba | (apply Bb; (· rfl); (· rfl)) | (apply Bc; (· exact nxE)) | (apply Bd; (· rfl); (· rfl); (· exact nxE))); (· first | exact Ok.sTo (j := k) rfl rfl rfl rfl (by omega) | exact Ok.sFrom (j := k) rfl rfl rfl rfl (by omega) | exact OpOk.loadCell rfl rfl rfl rfl hrow rfl | exact Ok.sjoin (a := t.take k) (b := c) rfl rfl rfl (by omega) | exact Ok.sjoin (a := t.take k ++ c) (b := t.drop k) rfl rfl rfl (by rw [List.length_append]; omega) | exact Ok.slen rfl rfl | exact Nx N1 rfl rfl rfl rfl rfl | exact Nx N2 rfl rfl rfl rfl rfl | exact Nx N3 rfl rfl rfl rfl rfl | exact Ok.bs8S rfl rfl rfl rfl rfl rfl rfl rfl rfl rfl | exact Ok.pe)) | ((first | apply Ca | (apply Cb; (· exact nxE))); (· first | exact Nx N1 rfl rfl rfl rfl rfl | exact Nx N2 rfl rfl rfl rfl rfl | exact Nx N3 rfl rfl rfl rfl rfl | exact Ok.bs8S rfl rfl rfl rfl rfl rfl rfl rfl rfl rfl | exact Ok.e0)) | refine Sx ?_ | (refine Sy (fun h => ?_) (fun h => ?_) <;> try (exfalso; omega; done)) | refine Sz (fun h => ?_) (fun h => ?_))
    all_goals
      refine Ya ?_
      (apply Le.headZ (hs := [(⟨0, []⟩, ⟨0, []⟩, _)]) [⟨0, []⟩] rfl)
      all_goals (try dsimp only [srcs])
      (case' hfr | hob => (repeat' (first | refine La ?_ ?_ | exact Lc | refine Lo ?_ | refine ⟨⟨_, rfl, ?_⟩, ?_⟩ | refine Lx ?_)))
      all_goals (first | exact Ld | exact trivial | (rfl))
  by_cases c2 : z = 2 ∧ k < t.length
  · obtain ⟨rfl, hlt⟩ := c2
    have hl1 : (t.take k).length = k := by rw [List.length_take]; omega
    have hl2 : (t.drop (k + 1)).length = t.length - (k + 1) := List.length_drop
    refine ⟨t.take k ++ t.drop (k + 1), s2, h2, by rw [List.length_append, hl1, hl2]; omega, ?_⟩
    refine AC.of_body 1 Tryd.func41 rfl (fun l h => by simp [heapL, upd] at h; simp [h]) (fun C hC => ?_)
    simp only [startFr, Tryd.ntmps41, List.length_cons, List.length_nil, Nat.reduceAdd, Nat.reduceSub, List.replicate_succ, List.replicate_zero, List.cons_append, List.nil_append]
    have hD : ∀ l, C.D0 l → l = ⟨0, []⟩ := fun l h => by have := (hC l).1 h; simp [heapL, upd] at this; exact this
    repeat' (first | ((first | apply Ba | (apply Bb; (· rfl); (· rfl)) | (apply Bc; (· exact nxE)) | (apply Bd; (· rfl); (· rfl); (· exact nxE))); (· first | exact Ok.sTo (j := k) rfl rfl rfl rfl (by omega) | exact Ok.sFrom (j := k + 1) rfl rfl rfl (by first | rfl | omega) (by omega) | exact Ok.sjoin (a := t.take k) (b := t.drop (k + 1)) rfl rfl rfl (by omega) | exact Ok.slen rfl rfl | exact Nx N1 rfl rfl rfl rfl rfl | exact Nx N2 rfl rfl rfl rfl rfl | exact Ok.pe)) | ((first | apply Ca | (apply Cb; (· exact nxE))); (· first | exact Nx N1 rfl rfl rfl rfl rfl | exact Nx N2 rfl rfl rfl rfl rfl | exact Ok.e0)) | refine Sx ?_ | (refine Sy (fun h => ?_) (fun h => ?_) <;> try (exfalso; omega; done)) | refine Sz (fun h => ?_) (fun h => ?_))
    all_goals
      refine Ya ?_
      (apply Le.headZ (hs := [(⟨0, []⟩, ⟨0, []⟩, _)]) [⟨0, []⟩] rfl)
      all_goals (try dsimp only [srcs])
      (case' hfr | hob => (repeat' (first | refine La ?_ ?_ | exact Lc | refine Lo ?_ | refine ⟨⟨_, rfl, ?_⟩, ?_⟩ | refine Lx ?_)))
      all_goals (first | exact Ld | exact trivial | (rfl))
  · refine ⟨t, s2, h2, by omega, ?_⟩
    refine AC.of_body 1 Tryd.func41 rfl (fun l h => by simp [heapL, upd] at h; simp [h]) (fun C hC => ?_)
    simp only [startFr, Tryd.ntmps41, List.length_cons, List.length_nil, Nat.reduceAdd, Nat.reduceSub, List.replicate_succ, List.replicate_zero, List.cons_append, List.nil_append]
    have hD : ∀ l, C.D0 l → l = ⟨0, []⟩ := fun l h => by have := (hC l).1 h; simp [heapL, upd] at this; exact this
    by_cases c3 : z = 2
    · have hge : ¬ k < t.length := fun h => c2 ⟨c3, h⟩
      repeat' (first | ((first | apply Ba | (apply Bb; (· rfl); (· rfl)) | (apply Bc; (· exact nxE)) | (apply Bd; (· rfl); (· rfl); (· exact nxE))); (· first | exact Ok.slen rfl rfl | exact Nx N1 rfl rfl rfl rfl rfl | exact Nx N2 rfl rfl rfl rfl rfl | exact Ok.pe)) | ((first | apply Ca | (apply Cb; (· exact nxE))); (· first | exact Nx N1 rfl rfl rfl rfl rfl | exact Nx N2 rfl rfl rfl rfl rfl | exact Ok.e0)) | refine Sx ?_ | (refine Sy (fun h => ?_) (fun h => ?_) <;> try (exfalso; omega; done)) | refine Sz (fun h => ?_) (fun h => ?_))
      all_goals
        refine Ya ?_
        (apply Le.headZ (hs := [(⟨0, []⟩, ⟨0, []⟩, _)]) [⟨0, []⟩] rfl)
        all_goals (try dsimp only [srcs])
        (case' hfr | hob => (repeat' (first | refine La ?_ ?_ | exact Lc | refine Lo ?_ | refine ⟨⟨_, rfl, ?_⟩, ?_⟩ | refine Lx ?_)))
        all_goals (first | exact Ld | exact trivial | (rfl))
    ·
      repeat' (first | ((first | apply Ba | (apply Bb; (· rfl); (· rfl)) | (apply Bc; (· exact nxE)) | (apply Bd; (· rfl); (· rfl); (· exact nxE))); (· first | exact Ok.slen rfl rfl | exact Nx N1 rfl rfl rfl rfl rfl | exact Nx N2 rfl rfl rfl rfl rfl | exact Ok.pe)) | ((first | apply Ca | (apply Cb; (· exact nxE))); (· first | exact Nx N1 rfl rfl rfl rfl rfl | exact Nx N2 rfl rfl rfl rfl rfl | exact Ok.e0)) | refine Sx ?_ | (refine Sy (fun h => ?_) (fun h => ?_) <;> try (exfalso; omega; done)) | refine Sz (fun h => ?_) (fun h => ?_))
      all_goals
        refine Ya ?_
        (apply Le.headZ (hs := [(⟨0, []⟩, ⟨0, []⟩, _)]) [⟨0, []⟩] rfl)
        all_goals (try dsimp only [srcs])
        (case' hfr | hob => (repeat' (first | refine La ?_ ?_ | exact Lc | refine Lo ?_ | refine ⟨⟨_, rfl, ?_⟩, ?_⟩ | refine Lx ?_)))
        all_goals (first | exact Ld | exact trivial | (rfl))
end Go.Proofs.YtofakjlamoigcaaDoor
end
