/-
  Walks in the abstract reading: the draw of an edit.
-/
import Derived.Test.YtofakjlamoigcaaDoorKeU8
import Derived.Test.YtofakjlamoigcaaDoorKeU4
namespace Go.Proofs.YtofakjlamoigcaaDoor
set_option linter.unusedSimpArgs false
set_option linter.unusedVariables false
open Go Go.RowKit
attribute [local irreducible] AL AD AW OpOk Le AC thenQ blockQ EndQ

section
variable {P : Program} {o : Oper} {A : Operand → AV} {H : Heap} {new : Nat}
theorem Ok.bs5I [Mode] {t e : TypeId} {k b : Nat} {z : Value} {x y w v u : Operand} {n1 n2 n3 n4 n5 : Int} (ho : o.op = .buildSlice t 5 #[(0, x), (1, y), (2, w), (3, v), (4, u)]) [h : TySlice P t e k b z] (hx : A x = I n1) (hy : A y = I n2) (hw : A w = I n3) (hv : A v = I n4) (hu : A u = I n5) (hk : k = 1) :
    OpOk P o A [] H new (.own k ⟨new, []⟩ 0 5) [.one ⟨new, []⟩ (some (IO [n1, n2, n3, n4, n5]))] := by
  subst hk
  have := OpOk.buildSlice (P := P) (H := H) (new := new) (A := A) [x, y, w, v, u] ho rfl rfl (by decide) (by intro p hp; simp at hp; rcases hp with rfl | rfl | rfl | rfl | rfl <;> simp only [hx, hy, hw, hv, hu] <;> rfl) (by intro p hp; simp at hp; rcases hp with rfl | rfl | rfl | rfl | rfl <;> simp only [hx, hy, hw, hv, hu] <;> rfl)
  simpa [hx, hy, hw, hv, hu, AV.cells, dobj] using this
end
/-- What is drawn behind the place: the edit and the source. -/
theorem de_tail [Mode] {code : List Int} (hc : CodeOk code) (a i : Int) (pl : Pl) (s0 : Src) (h0 : SrcOk code s0) (n : Int) : ∃ (z : Int) (s7 s8 s9 s10 s11 s' : Src) (b0 b1 b2 b3 : Int) (e : Ed), SrcOk code s' ∧ (0 ≤ z ∧ z < 30) ∧
    AC Tryd.prog 40 [Bx 3 0, I 30] (srcH code s0) (I z) (srcH code s7) ∧
    AC Tryd.prog 62 [Bx 3 0, .own 1 ⟨1, []⟩ 0 4] (upd (upd H0 ⟨1, []⟩ (some (IO [0, 4, 1, 2]))) ⟨0, []⟩ (some (srcO code s7))) (I b0) (srcH code s8) ∧
    AC Tryd.prog 62 [Bx 3 0, .own 1 ⟨1, []⟩ 0 5] (upd (upd H0 ⟨1, []⟩ (some (IO [-1, n, n + 1, 30, 31]))) ⟨0, []⟩ (some (srcO code s7))) (I b1) (srcH code s9) ∧
    AC Tryd.prog 62 [Bx 3 0, .own 1 ⟨1, []⟩ 0 3] (upd (upd H0 ⟨1, []⟩ (some (IO [5, 6, 1]))) ⟨0, []⟩ (some (srcO code s7))) (I b2) (srcH code s10) ∧
    AC Tryd.prog 62 [Bx 3 0, .own 1 ⟨1, []⟩ 0 3] (upd (upd H0 ⟨1, []⟩ (some (IO [9, 10, -1]))) ⟨0, []⟩ (some (srcO code s7))) (I b3) (srcH code s11) ∧
    (z = 0 → e.kind = b0 ∧ e.pl = pl ∧ s' = s8) ∧ (z ≠ 0 → e.kind = 1 + a) ∧ (z = 1 → e.idx = b1 ∧ e.pl = pl ∧ s' = s9) ∧ (z ≠ 1 → (1 + a ≠ 1 ∧ i = n ∧ 0 < n → e.idx = n - 1) ∧ (¬(1 + a ≠ 1 ∧ i = n ∧ 0 < n) → e.idx = i)) ∧
    (z = 2 → e.pl = ⟨pl.f, pl.t, pl.d, b2⟩ ∧ s' = s10) ∧ (z = 3 → e.pl = ⟨b3, pl.t, pl.d, pl.k⟩ ∧ s' = s11) ∧ (z ≠ 0 → z ≠ 1 → z ≠ 2 → z ≠ 3 → e.pl = pl ∧ s' = s7) := by
  obtain ⟨z, s7, z1, z2, h7, q7, N7⟩ := next_ex hc h0 30
  obtain ⟨b0, s8, _, h8, _, _, K8⟩ := pick_ex hc h7 [0, 4, 1, 2] 4 rfl
  obtain ⟨b1, s9, _, h9, _, _, K9⟩ := pick_ex hc h7 [-1, n, n + 1, 30, 31] 5 rfl
  obtain ⟨b2, s10, _, h10, _, _, K10⟩ := pick_ex hc h7 [5, 6, 1] 3 rfl
  obtain ⟨b3, s11, _, h11, _, _, K11⟩ := pick_ex hc h7 [9, 10, -1] 3 rfl
  refine ⟨z, s7, s8, s9, s10, s11, if z = 0 then s8 else if z = 1 then s9 else if z = 2 then s10 else if z = 3 then s11 else s7, b0, b1, b2, b3, ⟨if z = 0 then b0 else 1 + a, if z = 1 then b1 else if 1 + a ≠ 1 ∧ i = n ∧ 0 < n then n - 1 else i, if z = 2 then ⟨pl.f, pl.t, pl.d, b2⟩ else if z = 3 then ⟨b3, pl.t, pl.d, pl.k⟩ else pl⟩, ?_, ⟨z1, by omega⟩, N7, K8, K9, K10, K11, ?_, ?_, ?_, ?_, ?_, ?_, ?_⟩
  · (repeat' split) <;> assumption
  all_goals
    first
      | (intro h; simp only [if_neg h]; exact ⟨fun g => if_pos g, fun g => if_neg g⟩)
      | (intro h; simp [h]; done)
      | (intro h0 h1 h2 h3; simp [h0, h1, h2, h3]; done)
set_option maxHeartbeats 8000000 in
theorem de1 [Mode] (code : List Int) (hc : CodeOk code) (s : Src) (hs : SrcOk code s) (ev : Int) (xs : List Pl) (hx : xs.length ≤ 1000) (a i f t d q : Int) (s1 s2 s3 s4 s5 s6 : Src) (a1 : 0 ≤ a ∧ a ≤ 2) (hk : a = 1)
    (h0 : SrcOk code s2)
    (N1 : AC Tryd.prog 40 [Bx 3 0, I 3] (srcH code s) (I a) (srcH code s1)) (N2 : AC Tryd.prog 40 [Bx 3 0, I ((xs.length : Int) + 1)] (srcH code s1) (I i) (srcH code s2))
    (N3 : AC Tryd.prog 40 [Bx 3 0, I ev] (srcH code s2) (I f) (srcH code s3)) (N4 : AC Tryd.prog 40 [Bx 3 0, I ev] (srcH code s3) (I t) (srcH code s4)) (N5 : AC Tryd.prog 40 [Bx 3 0, I 20] (srcH code s4) (I d) (srcH code s5)) (N6 : AC Tryd.prog 40 [Bx 3 0, I 4] (srcH code s5) (I q) (srcH code s6)) :
    ∃ (e : Ed) (s' : Src), SrcOk code s' ∧ AC Tryd.prog 32 [Bx 3 0, grD ev xs] (srcH code s) e.av (srcH code s') := by
  obtain ⟨z, s7, s8, s9, s10, s11, s', b0, b1, b2, b3, ⟨ek, ei, ⟨ef, et, ed, eq⟩⟩, hs', hz, N7, K8, K9, K10, K11, c0, c1, c2, c3, c4, c5, c6⟩ := de_tail hc a i plZ s2 h0 xs.length
  refine ⟨⟨ek, ei, ⟨ef, et, ed, eq⟩⟩, s', hs', ?_⟩
  simp only [plZ, Pl.mk.injEq] at c0 c1 c2 c3 c4 c5 c6
  show AC _ _ _ (heapL [(⟨0, []⟩, ⟨0, []⟩, srcO code s)]) _ _
  refine AC.of_body 1 Tryd.func32 rfl (fun l h => by simp [heapL, upd] at h; simp [h]) (fun C hC => ?_)
  simp only [startFr, Tryd.ntmps32, List.length_cons, List.length_nil, Nat.reduceAdd, Nat.reduceSub, List.replicate_succ, List.replicate_zero, List.cons_append, List.nil_append]
  have hD : ∀ l, C.D0 l → l = ⟨0, []⟩ := fun l h => by have := (hC l).1 h; simp [heapL, upd] at this; exact this
  repeat' (first | ((first | apply Ba | (apply Bb; (· rfl); (· rfl)) | (apply Bc; (· exact nxE)) | (apply Bd; (· rfl); (· rfl); (· exact nxE))); (· first | exact Nx N1 rfl rfl rfl rfl rfl | exact Nx N2 rfl rfl rfl rfl rfl | exact Nx N7 rfl rfl rfl rfl rfl | exact Kx K8 rfl rfl rfl rfl rfl rfl (by decide) | exact Kx K9 rfl rfl rfl rfl rfl rfl (by decide) | exact Kx K10 rfl rfl rfl rfl rfl rfl (by decide) | exact Kx K11 rfl rfl rfl rfl rfl rfl (by decide) | exact Ok.bs5I rfl rfl rfl rfl rfl rfl rfl | exact Ok.bs4 rfl rfl rfl rfl rfl rfl | exact Ok.bs3 rfl rfl rfl rfl rfl | exact Ok.pe)) | ((first | apply Ca | (apply Cb; (· exact nxE))); (· first | exact Nx N1 rfl rfl rfl rfl rfl | exact Nx N2 rfl rfl rfl rfl rfl | exact Nx N7 rfl rfl rfl rfl rfl | exact Kx K8 rfl rfl rfl rfl rfl rfl (by decide) | exact Kx K9 rfl rfl rfl rfl rfl rfl (by decide) | exact Kx K10 rfl rfl rfl rfl rfl rfl (by decide) | exact Kx K11 rfl rfl rfl rfl rfl rfl (by decide) | exact Ok.bs5I rfl rfl rfl rfl rfl rfl rfl | exact Ok.bs4 rfl rfl rfl rfl rfl rfl | exact Ok.bs3 rfl rfl rfl rfl rfl | exact Ok.e0)) | refine Sx ?_ | (refine Sy (fun h => ?_) (fun h => ?_) <;> try (exfalso; omega; done)) | refine Sz (fun h => ?_) (fun h => ?_))
  all_goals
    (first | (have hq := (c0 (by omega)).2.2; subst hq) | (have hq := (c2 (by omega)).2.2; subst hq) | (have hq := (c4 (by omega)).2; subst hq) | (have hq := (c5 (by omega)).2; subst hq) | (have hq := (c6 (by omega) (by omega) (by omega) (by omega)).2; subst hq))
    refine Ya ?_
    (apply Le.headZ (hs := [(⟨0, []⟩, ⟨0, []⟩, _)]) [⟨0, []⟩] rfl)
    all_goals (try dsimp only [srcs])
    (case' hfr | hob => (repeat' (first | refine La ?_ ?_ | refine ARs.agg ?_ | refine ARs.tup ?_ | (first | exact AR.i (by first | rfl | omega)) | refine La ?_ ?_ | exact Lc | refine Lo ?_ | refine ⟨⟨_, rfl, ?_⟩, ?_⟩ | refine Lx ?_)))
    all_goals (first | exact Ld | exact trivial | (first | exact AR.i (by first | rfl | omega)))
set_option maxHeartbeats 8000000 in
theorem de0 [Mode] (code : List Int) (hc : CodeOk code) (s : Src) (hs : SrcOk code s) (ev : Int) (xs : List Pl) (hx : xs.length ≤ 1000) (a i f t d q : Int) (s1 s2 s3 s4 s5 s6 : Src) (a1 : 0 ≤ a ∧ a ≤ 2) (hk : a ≠ 1)
    (h0 : SrcOk code s6)
    (N1 : AC Tryd.prog 40 [Bx 3 0, I 3] (srcH code s) (I a) (srcH code s1)) (N2 : AC Tryd.prog 40 [Bx 3 0, I ((xs.length : Int) + 1)] (srcH code s1) (I i) (srcH code s2))
    (N3 : AC Tryd.prog 40 [Bx 3 0, I ev] (srcH code s2) (I f) (srcH code s3)) (N4 : AC Tryd.prog 40 [Bx 3 0, I ev] (srcH code s3) (I t) (srcH code s4)) (N5 : AC Tryd.prog 40 [Bx 3 0, I 20] (srcH code s4) (I d) (srcH code s5)) (N6 : AC Tryd.prog 40 [Bx 3 0, I 4] (srcH code s5) (I q) (srcH code s6)) :
    ∃ (e : Ed) (s' : Src), SrcOk code s' ∧ AC Tryd.prog 32 [Bx 3 0, grD ev xs] (srcH code s) e.av (srcH code s') := by
  obtain ⟨z, s7, s8, s9, s10, s11, s', b0, b1, b2, b3, ⟨ek, ei, ⟨ef, et, ed, eq⟩⟩, hs', hz, N7, K8, K9, K10, K11, c0, c1, c2, c3, c4, c5, c6⟩ := de_tail hc a i ⟨f, t, d, q⟩ s6 h0 xs.length
  refine ⟨⟨ek, ei, ⟨ef, et, ed, eq⟩⟩, s', hs', ?_⟩
  simp only [plZ, Pl.mk.injEq] at c0 c1 c2 c3 c4 c5 c6
  show AC _ _ _ (heapL [(⟨0, []⟩, ⟨0, []⟩, srcO code s)]) _ _
  refine AC.of_body 1 Tryd.func32 rfl (fun l h => by simp [heapL, upd] at h; simp [h]) (fun C hC => ?_)
  simp only [startFr, Tryd.ntmps32, List.length_cons, List.length_nil, Nat.reduceAdd, Nat.reduceSub, List.replicate_succ, List.replicate_zero, List.cons_append, List.nil_append]
  have hD : ∀ l, C.D0 l → l = ⟨0, []⟩ := fun l h => by have := (hC l).1 h; simp [heapL, upd] at this; exact this
  repeat' (first | ((first | apply Ba | (apply Bb; (· rfl); (· rfl)) | (apply Bc; (· exact nxE)) | (apply Bd; (· rfl); (· rfl); (· exact nxE))); (· first | exact Nx N1 rfl rfl rfl rfl rfl | exact Nx N2 rfl rfl rfl rfl rfl | exact Nx N3 rfl rfl rfl rfl rfl | exact Nx N4 rfl rfl rfl rfl rfl | exact Nx N5 rfl rfl rfl rfl rfl | exact Nx N6 rfl rfl rfl rfl rfl | exact Nx N7 rfl rfl rfl rfl rfl | exact Kx K8 rfl rfl rfl rfl rfl rfl (by decide) | exact Kx K9 rfl rfl rfl rfl rfl rfl (by decide) | exact Kx K10 rfl rfl rfl rfl rfl rfl (by decide) | exact Kx K11 rfl rfl rfl rfl rfl rfl (by decide) | exact Ok.bs5I rfl rfl rfl rfl rfl rfl rfl | exact Ok.bs4 rfl rfl rfl rfl rfl rfl | exact Ok.bs3 rfl rfl rfl rfl rfl | exact Ok.pe)) | ((first | apply Ca | (apply Cb; (· exact nxE))); (· first | exact Nx N1 rfl rfl rfl rfl rfl | exact Nx N2 rfl rfl rfl rfl rfl | exact Nx N3 rfl rfl rfl rfl rfl | exact Nx N4 rfl rfl rfl rfl rfl | exact Nx N5 rfl rfl rfl rfl rfl | exact Nx N6 rfl rfl rfl rfl rfl | exact Nx N7 rfl rfl rfl rfl rfl | exact Kx K8 rfl rfl rfl rfl rfl rfl (by decide) | exact Kx K9 rfl rfl rfl rfl rfl rfl (by decide) | exact Kx K10 rfl rfl rfl rfl rfl rfl (by decide) | exact Kx K11 rfl rfl rfl rfl rfl rfl (by decide) | exact Ok.bs5I rfl rfl rfl rfl rfl rfl rfl | exact Ok.bs4 rfl rfl rfl rfl rfl rfl | exact Ok.bs3 rfl rfl rfl rfl rfl | exact Ok.e0)) | refine Sx ?_ | (refine Sy (fun h => ?_) (fun h => ?_) <;> try (exfalso; omega; done)) | refine Sz (fun h => ?_) (fun h => ?_))
  all_goals
    (first | (have hq := (c0 (by omega)).2.2; subst hq) | (have hq := (c2 (by omega)).2.2; subst hq) | (have hq := (c4 (by omega)).2; subst hq) | (have hq := (c5 (by omega)).2; subst hq) | (have hq := (c6 (by omega) (by omega) (by omega) (by omega)).2; subst hq))
    refine Ya ?_
    (apply Le.headZ (hs := [(⟨0, []⟩, ⟨0, []⟩, _)]) [⟨0, []⟩] rfl)
    all_goals (try dsimp only [srcs])
    (case' hfr | hob => (repeat' (first | refine La ?_ ?_ | refine ARs.agg ?_ | refine ARs.tup ?_ | (first | exact AR.i (by first | rfl | omega)) | refine La ?_ ?_ | exact Lc | refine Lo ?_ | refine ⟨⟨_, rfl, ?_⟩, ?_⟩ | refine Lx ?_)))
    all_goals (first | exact Ld | exact trivial | (first | exact AR.i (by first | rfl | omega)))
theorem l29DrawEdit_ex [Mode] (code : List Int) (hc : CodeOk code) (s : Src) (hs : SrcOk code s) (ev : Int) (xs : List Pl) (hx : xs.length ≤ 1000) : ∃ (e : Ed) (s' : Src), SrcOk code s' ∧ AC Tryd.prog 32 [Bx 3 0, grD ev xs] (srcH code s) e.av (srcH code s') := by
  obtain ⟨a, s1, a1, a2, h1, q1, N1⟩ := next_ex hc hs 3
  obtain ⟨i, s2, i1, i2, h2, q2, N2⟩ := next_ex hc h1 ((xs.length : Int) + 1)
  obtain ⟨f, s3, _, _, h3, q3, N3⟩ := next_ex hc h2 ev
  obtain ⟨t, s4, _, _, h4, q4, N4⟩ := next_ex hc h3 ev
  obtain ⟨d, s5, _, _, h5, q5, N5⟩ := next_ex hc h4 20
  obtain ⟨q, s6, _, _, h6, q6, N6⟩ := next_ex hc h5 4
  by_cases hk : a = 1
  · exact de1 code hc s hs ev xs hx a i f t d q s1 s2 s3 s4 s5 s6 ⟨a1, by omega⟩ hk h2 N1 N2 N3 N4 N5 N6
  · exact de0 code hc s hs ev xs hx a i f t d q s1 s2 s3 s4 s5 s6 ⟨a1, by omega⟩ hk h6 N1 N2 N3 N4 N5 N6
end Go.Proofs.YtofakjlamoigcaaDoor
