/-
  Walks in the abstract reading, part 13.
-/
import Derived.Test.YtpgcmpbamlnkkaaKtU12
section
namespace Go.Proofs.Ytpgcmpbamlnkkaa
set_option linter.unusedSimpArgs false
set_option linter.unusedVariables false
open Go Go.RowKit
attribute [local irreducible] AL AD AW OpOk Le AC thenQ blockQ EndQ

set_option maxHeartbeats 8000000 in
theorem l20DrawPeriod_ex (code : List Int) (hc : CodeOk code) (s : Src) (hs : SrcOk code s) : ∃ (ev : Int) (xs : List Pl) (P : Int) (s' : Src), (0 ≤ ev ∧ ev ≤ 11) ∧ xs.length ≤ 40 ∧ (-1 ≤ P ∧ P ≤ 100002) ∧ SrcOk code s' ∧ AC Try.prog 109 [Bx 3 0] (srcH code s) (.tup [grD ev xs, I P]) (srcH code s') := by
  have D1 := l15DrawZ_ac code hc s hs
  have hok := dr15_ok hc hs
  generalize dr15 code s = g at *
  obtain ⟨ev, xs, s1⟩ := g
  obtain ⟨hev, _, hl, h1⟩ := hok
  simp only at hev hl h1 D1
  obtain ⟨a, s2, a1, a2, h2, _, N2⟩ := next_ex hc h1 20
  by_cases ha : a = 0
  case neg =>
    have hL := sLeastPeriod_ac ev (xs) (by first | omega | (simp only [List.length_take]; omega))
    have hlb : lpC ev (xs) = 0 → 0 ≤ lpV ev (xs) ∧ lpV ev (xs) ≤ 100000 := fun h => by
      obtain ⟨m, rfl, _, _, _, _, _, h2, _⟩ := lp_ok h
      omega
    generalize lpC ev (xs) = c at *
    generalize lpV ev (xs) = p at *
    by_cases hc0 : c = 0
    case neg =>
      obtain ⟨x1, t1, _, _, k1, _, M1⟩ := next_ex hc h2 30
      obtain ⟨x2, t2, _, _, k2, _, M2⟩ := next_ex hc k1 30
      obtain ⟨x3, t3, _, _, k3, _, M3⟩ := next_ex hc k2 30
      obtain ⟨x4, t4, hx4, k4, _, _, K4⟩ := pick_ex hc k3 [-1, 0, 100000, 100001] 4 rfl
      obtain ⟨x5, t5, hx5, k5, _, _, K5⟩ := pick_ex hc k4 [x1, x2, x3, x4] 4 rfl
      refine ⟨ev, xs, x5, t5, hev, hl, ?_, k5, ?_⟩
      · simp only [List.mem_cons, List.not_mem_nil, or_false] at hx4 hx5
        omega
      show AC _ _ _ (heapL [(⟨0, []⟩, ⟨0, []⟩, srcO code s)]) _ _
      refine AC.of_body 1 Try.func109 rfl (fun l h => by simp [heapL, upd] at h; simp [h]) (fun C hC => ?_)
      simp only [startFr, Try.ntmps109, List.length_cons, List.length_nil, Nat.reduceAdd, Nat.reduceSub, List.replicate_succ, List.replicate_zero, List.cons_append, List.nil_append]
      have hD : ∀ l, C.D0 l → l = ⟨0, []⟩ := fun l h => by have := (hC l).1 h; simp [heapL, upd] at this; exact this
      repeat' (first | ((first | apply Ba | (apply Bb; (· rfl); (· rfl)) | (apply Bc; (· exact nxE)) | (apply Bd; (· rfl); (· rfl); (· exact nxE))); (· first | exact Kz rfl rfl (hL) (Aa (Ad (Ad An)) An) | exact Zx (args := []) D1 rfl rfl rfl rfl .nil (fun _ => by simp [rn]) | exact Nx N2 rfl rfl rfl rfl rfl | exact Nx M1 rfl rfl rfl rfl rfl | exact Nx M2 rfl rfl rfl rfl rfl | exact Nx M3 rfl rfl rfl rfl rfl | exact Kx K4 rfl rfl rfl rfl rfl rfl (by decide) | exact Kx K5 rfl rfl rfl rfl rfl rfl (by decide) | exact Ok.bs4 rfl rfl rfl rfl rfl rfl | exact Ok.pe)) | ((first | apply Ca | (apply Cb; (· exact nxE))); (· first | exact Zx (args := []) D1 rfl rfl rfl rfl .nil (fun _ => by simp [rn]) | exact Nx N2 rfl rfl rfl rfl rfl | exact Nx M1 rfl rfl rfl rfl rfl | exact Nx M2 rfl rfl rfl rfl rfl | exact Nx M3 rfl rfl rfl rfl rfl | exact Kx K4 rfl rfl rfl rfl rfl rfl (by decide) | exact Kx K5 rfl rfl rfl rfl rfl rfl (by decide) | exact Ok.bs4 rfl rfl rfl rfl rfl rfl | exact Ok.e0)) | refine Sx ?_ | (refine Sy (fun h => ?_) (fun h => ?_) <;> try (exfalso; omega; done)) | refine Sz (fun h => ?_) (fun h => ?_))
      all_goals
        refine Yb ?_
        (apply Le.headZ (hs := [(⟨0, []⟩, ⟨0, []⟩, _)]) [⟨0, []⟩] rfl)
        all_goals (try dsimp only [srcs])
        (case' hfr | hob => (repeat' (first | refine La ?_ ?_ | exact Lc | refine Lo ?_ | refine ⟨⟨_, rfl, ?_⟩, ?_⟩ | refine Lx ?_)))
        all_goals (first | exact Ld | exact trivial | (rfl))
    subst hc0
    have hlb := hlb rfl
    obtain ⟨y, s5, y1, y2, h5, _, N5⟩ := next_ex hc h2 4
    by_cases hy : y = 0
    · obtain ⟨x1, t1, _, _, k1, _, M1⟩ := next_ex hc h5 30
      obtain ⟨x2, t2, _, _, k2, _, M2⟩ := next_ex hc k1 30
      obtain ⟨x3, t3, _, _, k3, _, M3⟩ := next_ex hc k2 30
      obtain ⟨x4, t4, hx4, k4, _, _, K4⟩ := pick_ex hc k3 [-1, 0, 100000, 100001] 4 rfl
      obtain ⟨x5, t5, hx5, k5, _, _, K5⟩ := pick_ex hc k4 [x1, x2, x3, x4] 4 rfl
      refine ⟨ev, xs, x5, t5, hev, hl, ?_, k5, ?_⟩
      · simp only [List.mem_cons, List.not_mem_nil, or_false] at hx4 hx5
        omega
      show AC _ _ _ (heapL [(⟨0, []⟩, ⟨0, []⟩, srcO code s)]) _ _
      refine AC.of_body 1 Try.func109 rfl (fun l h => by simp [heapL, upd] at h; simp [h]) (fun C hC => ?_)
      simp only [startFr, Try.ntmps109, List.length_cons, List.length_nil, Nat.reduceAdd, Nat.reduceSub, List.replicate_succ, List.replicate_zero, List.cons_append, List.nil_append]
      have hD : ∀ l, C.D0 l → l = ⟨0, []⟩ := fun l h => by have := (hC l).1 h; simp [heapL, upd] at this; exact this
      repeat' (first | ((first | apply Ba | (apply Bb; (· rfl); (· rfl)) | (apply Bc; (· exact nxE)) | (apply Bd; (· rfl); (· rfl); (· exact nxE))); (· first | exact Kz rfl rfl (hL) (Aa (Ad (Ad An)) An) | exact Zx (args := []) D1 rfl rfl rfl rfl .nil (fun _ => by simp [rn]) | exact Nx N2 rfl rfl rfl rfl rfl | exact Nx N5 rfl rfl rfl rfl rfl | exact Nx M1 rfl rfl rfl rfl rfl | exact Nx M2 rfl rfl rfl rfl rfl | exact Nx M3 rfl rfl rfl rfl rfl | exact Kx K4 rfl rfl rfl rfl rfl rfl (by decide) | exact Kx K5 rfl rfl rfl rfl rfl rfl (by decide) | exact Ok.bs4 rfl rfl rfl rfl rfl rfl | exact Ok.pe)) | ((first | apply Ca | (apply Cb; (· exact nxE))); (· first | exact Zx (args := []) D1 rfl rfl rfl rfl .nil (fun _ => by simp [rn]) | exact Nx N2 rfl rfl rfl rfl rfl | exact Nx N5 rfl rfl rfl rfl rfl | exact Nx M1 rfl rfl rfl rfl rfl | exact Nx M2 rfl rfl rfl rfl rfl | exact Nx M3 rfl rfl rfl rfl rfl | exact Kx K4 rfl rfl rfl rfl rfl rfl (by decide) | exact Kx K5 rfl rfl rfl rfl rfl rfl (by decide) | exact Ok.bs4 rfl rfl rfl rfl rfl rfl | exact Ok.e0)) | refine Sx ?_ | (refine Sy (fun h => ?_) (fun h => ?_) <;> try (exfalso; omega; done)) | refine Sz (fun h => ?_) (fun h => ?_))
      all_goals
        refine Yb ?_
        (apply Le.headZ (hs := [(⟨0, []⟩, ⟨0, []⟩, _)]) [⟨0, []⟩] rfl)
        all_goals (try dsimp only [srcs])
        (case' hfr | hob => (repeat' (first | refine La ?_ ?_ | exact Lc | refine Lo ?_ | refine ⟨⟨_, rfl, ?_⟩, ?_⟩ | refine Lx ?_)))
        all_goals (first | exact Ld | exact trivial | (rfl))
    · obtain ⟨z, s6, z1, z2, h6, _, N6⟩ := next_ex hc h5 4
      refine ⟨ev, xs, max 0 (p + z - 1), s6, hev, hl, by omega, h6, ?_⟩
      show AC _ _ _ (heapL [(⟨0, []⟩, ⟨0, []⟩, srcO code s)]) _ _
      refine AC.of_body 1 Try.func109 rfl (fun l h => by simp [heapL, upd] at h; simp [h]) (fun C hC => ?_)
      simp only [startFr, Try.ntmps109, List.length_cons, List.length_nil, Nat.reduceAdd, Nat.reduceSub, List.replicate_succ, List.replicate_zero, List.cons_append, List.nil_append]
      have hD : ∀ l, C.D0 l → l = ⟨0, []⟩ := fun l h => by have := (hC l).1 h; simp [heapL, upd] at this; exact this
      repeat' (first | ((first | apply Ba | (apply Bb; (· rfl); (· rfl)) | (apply Bc; (· exact nxE)) | (apply Bd; (· rfl); (· rfl); (· exact nxE))); (· first | exact Kz rfl rfl (hL) (Aa (Ad (Ad An)) An) | exact Zx (args := []) D1 rfl rfl rfl rfl .nil (fun _ => by simp [rn]) | exact Nx N2 rfl rfl rfl rfl rfl | exact Nx N5 rfl rfl rfl rfl rfl | exact Nx N6 rfl rfl rfl rfl rfl | exact Ok.pe)) | ((first | apply Ca | (apply Cb; (· exact nxE))); (· first | exact Zx (args := []) D1 rfl rfl rfl rfl .nil (fun _ => by simp [rn]) | exact Nx N2 rfl rfl rfl rfl rfl | exact Nx N5 rfl rfl rfl rfl rfl | exact Nx N6 rfl rfl rfl rfl rfl | exact Ok.e0)) | refine Sx ?_ | (refine Sy (fun h => ?_) (fun h => ?_) <;> try (exfalso; omega; done)) | refine Sz (fun h => ?_) (fun h => ?_))
      all_goals
        refine Yb ?_
        (apply Le.headZ (hs := [(⟨0, []⟩, ⟨0, []⟩, _)]) [⟨0, []⟩] rfl)
        all_goals (try dsimp only [srcs])
        (case' hfr | hob => (repeat' (first | refine La ?_ ?_ | exact Lc | refine Lo ?_ | refine ⟨⟨_, rfl, ?_⟩, ?_⟩ | refine Lx ?_)))
        all_goals (first | exact Ld | exact trivial | (rfl))
  have D3 := l12DrawZ_ac code hc s2 h2
  have hok2 := dr12_ok hc h2
  generalize dr12 code s2 = g2 at *
  obtain ⟨ew, ys, s3⟩ := g2
  obtain ⟨hew, _, hk, h3⟩ := hok2
  simp only at hew hk h3 D3
  by_cases hcut : 20 < ys.length ∧ 2 < ew
  · obtain ⟨u1, u2⟩ := hcut
    have hL := sLeastPeriod_ac ew (ys.take 20) (by first | omega | (simp only [List.length_take]; omega))
    have hlb : lpC ew (ys.take 20) = 0 → 0 ≤ lpV ew (ys.take 20) ∧ lpV ew (ys.take 20) ≤ 100000 := fun h => by
      obtain ⟨m, rfl, _, _, _, _, _, h2, _⟩ := lp_ok h
      omega
    generalize lpC ew (ys.take 20) = c at *
    generalize lpV ew (ys.take 20) = p at *
    by_cases hc0 : c = 0
    case neg =>
      obtain ⟨x1, t1, _, _, k1, _, M1⟩ := next_ex hc h3 30
      obtain ⟨x2, t2, _, _, k2, _, M2⟩ := next_ex hc k1 30
      obtain ⟨x3, t3, _, _, k3, _, M3⟩ := next_ex hc k2 30
      obtain ⟨x4, t4, hx4, k4, _, _, K4⟩ := pick_ex hc k3 [-1, 0, 100000, 100001] 4 rfl
      obtain ⟨x5, t5, hx5, k5, _, _, K5⟩ := pick_ex hc k4 [x1, x2, x3, x4] 4 rfl
      refine ⟨ew, ys.take 20, x5, t5, hew, (by rw [List.length_take]; omega), ?_, k5, ?_⟩
      · simp only [List.mem_cons, List.not_mem_nil, or_false] at hx4 hx5
        omega
      show AC _ _ _ (heapL [(⟨0, []⟩, ⟨0, []⟩, srcO code s)]) _ _
      refine AC.of_body 1 Try.func109 rfl (fun l h => by simp [heapL, upd] at h; simp [h]) (fun C hC => ?_)
      simp only [startFr, Try.ntmps109, List.length_cons, List.length_nil, Nat.reduceAdd, Nat.reduceSub, List.replicate_succ, List.replicate_zero, List.cons_append, List.nil_append]
      have hD : ∀ l, C.D0 l → l = ⟨0, []⟩ := fun l h => by have := (hC l).1 h; simp [heapL, upd] at this; exact this
      repeat' (first | ((first | apply Ba | (apply Bb; (· rfl); (· rfl)) | (apply Bc; (· exact nxE)) | (apply Bd; (· rfl); (· rfl); (· exact nxE))); (· first | exact Kz rfl rfl (hL) (Aa (Ad (Ad An)) An) | exact Zx (args := []) D1 rfl rfl rfl rfl .nil (fun _ => by simp [rn]) | exact Zx (args := []) D3 rfl rfl rfl rfl .nil (fun _ => by simp [rn]) | exact Nx N2 rfl rfl rfl rfl rfl | exact Nx M1 rfl rfl rfl rfl rfl | exact Nx M2 rfl rfl rfl rfl rfl | exact Nx M3 rfl rfl rfl rfl rfl | exact Kx K4 rfl rfl rfl rfl rfl rfl (by decide) | exact Kx K5 rfl rfl rfl rfl rfl rfl (by decide) | exact Ok.bs4 rfl rfl rfl rfl rfl rfl | exact Ok.pe)) | ((first | apply Ca | (apply Cb; (· exact nxE))); (· first | exact Zx (args := []) D1 rfl rfl rfl rfl .nil (fun _ => by simp [rn]) | exact Zx (args := []) D3 rfl rfl rfl rfl .nil (fun _ => by simp [rn]) | exact Nx N2 rfl rfl rfl rfl rfl | exact Nx M1 rfl rfl rfl rfl rfl | exact Nx M2 rfl rfl rfl rfl rfl | exact Nx M3 rfl rfl rfl rfl rfl | exact Kx K4 rfl rfl rfl rfl rfl rfl (by decide) | exact Kx K5 rfl rfl rfl rfl rfl rfl (by decide) | exact Ok.bs4 rfl rfl rfl rfl rfl rfl | exact Ok.e0)) | refine Sx ?_ | (refine Sy (fun h => ?_) (fun h => ?_) <;> try (exfalso; omega; done)) | refine Sz (fun h => ?_) (fun h => ?_))
      all_goals
        refine Yb ?_
        (apply Le.headZ (hs := [(⟨0, []⟩, ⟨0, []⟩, _)]) [⟨0, []⟩] rfl)
        all_goals (try dsimp only [srcs])
        (case' hfr | hob => (repeat' (first | refine La ?_ ?_ | exact Lc | refine Lo ?_ | refine ⟨⟨_, rfl, ?_⟩, ?_⟩ | refine Lx ?_)))
        all_goals (first | exact Ld | exact trivial | (rfl))
    subst hc0
    have hlb := hlb rfl
    obtain ⟨y, s5, y1, y2, h5, _, N5⟩ := next_ex hc h3 4
    by_cases hy : y = 0
    · obtain ⟨x1, t1, _, _, k1, _, M1⟩ := next_ex hc h5 30
      obtain ⟨x2, t2, _, _, k2, _, M2⟩ := next_ex hc k1 30
      obtain ⟨x3, t3, _, _, k3, _, M3⟩ := next_ex hc k2 30
      obtain ⟨x4, t4, hx4, k4, _, _, K4⟩ := pick_ex hc k3 [-1, 0, 100000, 100001] 4 rfl
      obtain ⟨x5, t5, hx5, k5, _, _, K5⟩ := pick_ex hc k4 [x1, x2, x3, x4] 4 rfl
      refine ⟨ew, ys.take 20, x5, t5, hew, (by rw [List.length_take]; omega), ?_, k5, ?_⟩
      · simp only [List.mem_cons, List.not_mem_nil, or_false] at hx4 hx5
        omega
      show AC _ _ _ (heapL [(⟨0, []⟩, ⟨0, []⟩, srcO code s)]) _ _
      refine AC.of_body 1 Try.func109 rfl (fun l h => by simp [heapL, upd] at h; simp [h]) (fun C hC => ?_)
      simp only [startFr, Try.ntmps109, List.length_cons, List.length_nil, Nat.reduceAdd, Nat.reduceSub, List.replicate_succ, List.replicate_zero, List.cons_append, List.nil_append]
      have hD : ∀ l, C.D0 l → l = ⟨0, []⟩ := fun l h => by have := (hC l).1 h; simp [heapL, upd] at this; exact this
      repeat' (first | ((first | apply Ba | (apply Bb; (· rfl); (· rfl)) | (apply Bc; (· exact nxE)) | (apply Bd; (· rfl); (· rfl); (· exact nxE))); (· first | exact Kz rfl rfl (hL) (Aa (Ad (Ad An)) An) | exact Zx (args := []) D1 rfl rfl rfl rfl .nil (fun _ => by simp [rn]) | exact Zx (args := []) D3 rfl rfl rfl rfl .nil (fun _ => by simp [rn]) | exact Nx N2 rfl rfl rfl rfl rfl | exact Nx N5 rfl rfl rfl rfl rfl | exact Nx M1 rfl rfl rfl rfl rfl | exact Nx M2 rfl rfl rfl rfl rfl | exact Nx M3 rfl rfl rfl rfl rfl | exact Kx K4 rfl rfl rfl rfl rfl rfl (by decide) | exact Kx K5 rfl rfl rfl rfl rfl rfl (by decide) | exact Ok.bs4 rfl rfl rfl rfl rfl rfl | exact Ok.pe)) | ((first | apply Ca | (apply Cb; (· exact nxE))); (· first | exact Zx (args := []) D1 rfl rfl rfl rfl .nil (fun _ => by simp [rn]) | exact Zx (args := []) D3 rfl rfl rfl rfl .nil (fun _ => by simp [rn]) | exact Nx N2 rfl rfl rfl rfl rfl | exact Nx N5 rfl rfl rfl rfl rfl | exact Nx M1 rfl rfl rfl rfl rfl | exact Nx M2 rfl rfl rfl rfl rfl | exact Nx M3 rfl rfl rfl rfl rfl | exact Kx K4 rfl rfl rfl rfl rfl rfl (by decide) | exact Kx K5 rfl rfl rfl rfl rfl rfl (by decide) | exact Ok.bs4 rfl rfl rfl rfl rfl rfl | exact Ok.e0)) | refine Sx ?_ | (refine Sy (fun h => ?_) (fun h => ?_) <;> try (exfalso; omega; done)) | refine Sz (fun h => ?_) (fun h => ?_))
      all_goals
        refine Yb ?_
        (apply Le.headZ (hs := [(⟨0, []⟩, ⟨0, []⟩, _)]) [⟨0, []⟩] rfl)
        all_goals (try dsimp only [srcs])
        (case' hfr | hob => (repeat' (first | refine La ?_ ?_ | exact Lc | refine Lo ?_ | refine ⟨⟨_, rfl, ?_⟩, ?_⟩ | refine Lx ?_)))
        all_goals (first | exact Ld | exact trivial | (rfl))
    · obtain ⟨z, s6, z1, z2, h6, _, N6⟩ := next_ex hc h5 4
      refine ⟨ew, ys.take 20, max 0 (p + z - 1), s6, hew, (by rw [List.length_take]; omega), by omega, h6, ?_⟩
      show AC _ _ _ (heapL [(⟨0, []⟩, ⟨0, []⟩, srcO code s)]) _ _
      refine AC.of_body 1 Try.func109 rfl (fun l h => by simp [heapL, upd] at h; simp [h]) (fun C hC => ?_)
      simp only [startFr, Try.ntmps109, List.length_cons, List.length_nil, Nat.reduceAdd, Nat.reduceSub, List.replicate_succ, List.replicate_zero, List.cons_append, List.nil_append]
      have hD : ∀ l, C.D0 l → l = ⟨0, []⟩ := fun l h => by have := (hC l).1 h; simp [heapL, upd] at this; exact this
      repeat' (first | ((first | apply Ba | (apply Bb; (· rfl); (· rfl)) | (apply Bc; (· exact nxE)) | (apply Bd; (· rfl); (· rfl); (· exact nxE))); (· first | exact Kz rfl rfl (hL) (Aa (Ad (Ad An)) An) | exact Zx (args := []) D1 rfl rfl rfl rfl .nil (fun _ => by simp [rn]) | exact Zx (args := []) D3 rfl rfl rfl rfl .nil (fun _ => by simp [rn]) | exact Nx N2 rfl rfl rfl rfl rfl | exact Nx N5 rfl rfl rfl rfl rfl | exact Nx N6 rfl rfl rfl rfl rfl | exact Ok.pe)) | ((first | apply Ca | (apply Cb; (· exact nxE))); (· first | exact Zx (args := []) D1 rfl rfl rfl rfl .nil (fun _ => by simp [rn]) | exact Zx (args := []) D3 rfl rfl rfl rfl .nil (fun _ => by simp [rn]) | exact Nx N2 rfl rfl rfl rfl rfl | exact Nx N5 rfl rfl rfl rfl rfl | exact Nx N6 rfl rfl rfl rfl rfl | exact Ok.e0)) | refine Sx ?_ | (refine Sy (fun h => ?_) (fun h => ?_) <;> try (exfalso; omega; done)) | refine Sz (fun h => ?_) (fun h => ?_))
      all_goals
        refine Yb ?_
        (apply Le.headZ (hs := [(⟨0, []⟩, ⟨0, []⟩, _)]) [⟨0, []⟩] rfl)
        all_goals (try dsimp only [srcs])
        (case' hfr | hob => (repeat' (first | refine La ?_ ?_ | exact Lc | refine Lo ?_ | refine ⟨⟨_, rfl, ?_⟩, ?_⟩ | refine Lx ?_)))
        all_goals (first | exact Ld | exact trivial | (rfl))
  · have hcut2 : ys.length ≤ 20 ∨ ew ≤ 2 := by omega
    have hL := sLeastPeriod_ac ew (ys) (by first | omega | (simp only [List.length_take]; omega))
    have hlb : lpC ew (ys) = 0 → 0 ≤ lpV ew (ys) ∧ lpV ew (ys) ≤ 100000 := fun h => by
      obtain ⟨m, rfl, _, _, _, _, _, h2, _⟩ := lp_ok h
      omega
    generalize lpC ew (ys) = c at *
    generalize lpV ew (ys) = p at *
    by_cases hc0 : c = 0
    case neg =>
      obtain ⟨x1, t1, _, _, k1, _, M1⟩ := next_ex hc h3 30
      obtain ⟨x2, t2, _, _, k2, _, M2⟩ := next_ex hc k1 30
      obtain ⟨x3, t3, _, _, k3, _, M3⟩ := next_ex hc k2 30
      obtain ⟨x4, t4, hx4, k4, _, _, K4⟩ := pick_ex hc k3 [-1, 0, 100000, 100001] 4 rfl
      obtain ⟨x5, t5, hx5, k5, _, _, K5⟩ := pick_ex hc k4 [x1, x2, x3, x4] 4 rfl
      refine ⟨ew, ys, x5, t5, hew, hk, ?_, k5, ?_⟩
      · simp only [List.mem_cons, List.not_mem_nil, or_false] at hx4 hx5
        omega
      show AC _ _ _ (heapL [(⟨0, []⟩, ⟨0, []⟩, srcO code s)]) _ _
      refine AC.of_body 1 Try.func109 rfl (fun l h => by simp [heapL, upd] at h; simp [h]) (fun C hC => ?_)
      simp only [startFr, Try.ntmps109, List.length_cons, List.length_nil, Nat.reduceAdd, Nat.reduceSub, List.replicate_succ, List.replicate_zero, List.cons_append, List.nil_append]
      have hD : ∀ l, C.D0 l → l = ⟨0, []⟩ := fun l h => by have := (hC l).1 h; simp [heapL, upd] at this; exact this
      repeat' (first | ((first | apply Ba | (apply Bb; (· rfl); (· rfl)) | (apply Bc; (· exact nxE)) | (apply Bd; (· rfl); (· rfl); (· exact nxE))); (· first | exact Kz rfl rfl (hL) (Aa (Ad (Ad An)) An) | exact Zx (args := []) D1 rfl rfl rfl rfl .nil (fun _ => by simp [rn]) | exact Zx (args := []) D3 rfl rfl rfl rfl .nil (fun _ => by simp [rn]) | exact Nx N2 rfl rfl rfl rfl rfl | exact Nx M1 rfl rfl rfl rfl rfl | exact Nx M2 rfl rfl rfl rfl rfl | exact Nx M3 rfl rfl rfl rfl rfl | exact Kx K4 rfl rfl rfl rfl rfl rfl (by decide) | exact Kx K5 rfl rfl rfl rfl rfl rfl (by decide) | exact Ok.bs4 rfl rfl rfl rfl rfl rfl | exact Ok.pe)) | ((first | apply Ca | (apply Cb; (· exact nxE))); (· first | exact Zx (args := []) D1 rfl rfl rfl rfl .nil (fun _ => by simp [rn]) | exact Zx (args := []) D3 rfl rfl rfl rfl .nil (fun _ => by simp [rn]) | exact Nx N2 rfl rfl rfl rfl rfl | exact Nx M1 rfl rfl rfl rfl rfl | exact Nx M2 rfl rfl rfl rfl rfl | exact Nx M3 rfl rfl rfl rfl rfl | exact Kx K4 rfl rfl rfl rfl rfl rfl (by decide) | exact Kx K5 rfl rfl rfl rfl rfl rfl (by decide) | exact Ok.bs4 rfl rfl rfl rfl rfl rfl | exact Ok.e0)) | refine Sx ?_ | (refine Sy (fun h => ?_) (fun h => ?_) <;> try (exfalso; omega; done)) | refine Sz (fun h => ?_) (fun h => ?_))
      all_goals
        refine Yb ?_
        (apply Le.headZ (hs := [(⟨0, []⟩, ⟨0, []⟩, _)]) [⟨0, []⟩] rfl)
        all_goals (try dsimp only [srcs])
        (case' hfr | hob => (repeat' (first | refine La ?_ ?_ | exact Lc | refine Lo ?_ | refine ⟨⟨_, rfl, ?_⟩, ?_⟩ | refine Lx ?_)))
        all_goals (first | exact Ld | exact trivial | (rfl))
    subst hc0
    have hlb := hlb rfl
    obtain ⟨y, s5, y1, y2, h5, _, N5⟩ := next_ex hc h3 4
    by_cases hy : y = 0
    · obtain ⟨x1, t1, _, _, k1, _, M1⟩ := next_ex hc h5 30
      obtain ⟨x2, t2, _, _, k2, _, M2⟩ := next_ex hc k1 30
      obtain ⟨x3, t3, _, _, k3, _, M3⟩ := next_ex hc k2 30
      obtain ⟨x4, t4, hx4, k4, _, _, K4⟩ := pick_ex hc k3 [-1, 0, 100000, 100001] 4 rfl
      obtain ⟨x5, t5, hx5, k5, _, _, K5⟩ := pick_ex hc k4 [x1, x2, x3, x4] 4 rfl
      refine ⟨ew, ys, x5, t5, hew, hk, ?_, k5, ?_⟩
      · simp only [List.mem_cons, List.not_mem_nil, or_false] at hx4 hx5
        omega
      show AC _ _ _ (heapL [(⟨0, []⟩, ⟨0, []⟩, srcO code s)]) _ _
      refine AC.of_body 1 Try.func109 rfl (fun l h => by simp [heapL, upd] at h; simp [h]) (fun C hC => ?_)
      simp only [startFr, Try.ntmps109, List.length_cons, List.length_nil, Nat.reduceAdd, Nat.reduceSub, List.replicate_succ, List.replicate_zero, List.cons_append, List.nil_append]
      have hD : ∀ l, C.D0 l → l = ⟨0, []⟩ := fun l h => by have := (hC l).1 h; simp [heapL, upd] at this; exact this
      repeat' (first | ((first | apply Ba | (apply Bb; (· rfl); (· rfl)) | (apply Bc; (· exact nxE)) | (apply Bd; (· rfl); (· rfl); (· exact nxE))); (· first | exact Kz rfl rfl (hL) (Aa (Ad (Ad An)) An) | exact Zx (args := []) D1 rfl rfl rfl rfl .nil (fun _ => by simp [rn]) | exact Zx (args := []) D3 rfl rfl rfl rfl .nil (fun _ => by simp [rn]) | exact Nx N2 rfl rfl rfl rfl rfl | exact Nx N5 rfl rfl rfl rfl rfl | exact Nx M1 rfl rfl rfl rfl rfl | exact Nx M2 rfl rfl rfl rfl rfl | exact Nx M3 rfl rfl rfl rfl rfl | exact Kx K4 rfl rfl rfl rfl rfl rfl (by decide) | exact Kx K5 rfl rfl rfl rfl rfl rfl (by decide) | exact Ok.bs4 rfl rfl rfl rfl rfl rfl | exact Ok.pe)) | ((first | apply Ca | (apply Cb; (· exact nxE))); (· first | exact Zx (args := []) D1 rfl rfl rfl rfl .nil (fun _ => by simp [rn]) | exact Zx (args := []) D3 rfl rfl rfl rfl .nil (fun _ => by simp [rn]) | exact Nx N2 rfl rfl rfl rfl rfl | exact Nx N5 rfl rfl rfl rfl rfl | exact Nx M1 rfl rfl rfl rfl rfl | exact Nx M2 rfl rfl rfl rfl rfl | exact Nx M3 rfl rfl rfl rfl rfl | exact Kx K4 rfl rfl rfl rfl rfl rfl (by decide) | exact Kx K5 rfl rfl rfl rfl rfl rfl (by decide) | exact Ok.bs4 rfl rfl rfl rfl rfl rfl | exact Ok.e0)) | refine Sx ?_ | (refine Sy (fun h => ?_) (fun h => ?_) <;> try (exfalso; omega; done)) | refine Sz (fun h => ?_) (fun h => ?_))
      all_goals
        refine Yb ?_
        (apply Le.headZ (hs := [(⟨0, []⟩, ⟨0, []⟩, _)]) [⟨0, []⟩] rfl)
        all_goals (try dsimp only [srcs])
        (case' hfr | hob => (repeat' (first | refine La ?_ ?_ | exact Lc | refine Lo ?_ | refine ⟨⟨_, rfl, ?_⟩, ?_⟩ | refine Lx ?_)))
        all_goals (first | exact Ld | exact trivial | (rfl))
    · obtain ⟨z, s6, z1, z2, h6, _, N6⟩ := next_ex hc h5 4
      refine ⟨ew, ys, max 0 (p + z - 1), s6, hew, hk, by omega, h6, ?_⟩
      show AC _ _ _ (heapL [(⟨0, []⟩, ⟨0, []⟩, srcO code s)]) _ _
      refine AC.of_body 1 Try.func109 rfl (fun l h => by simp [heapL, upd] at h; simp [h]) (fun C hC => ?_)
      simp only [startFr, Try.ntmps109, List.length_cons, List.length_nil, Nat.reduceAdd, Nat.reduceSub, List.replicate_succ, List.replicate_zero, List.cons_append, List.nil_append]
      have hD : ∀ l, C.D0 l → l = ⟨0, []⟩ := fun l h => by have := (hC l).1 h; simp [heapL, upd] at this; exact this
      repeat' (first | ((first | apply Ba | (apply Bb; (· rfl); (· rfl)) | (apply Bc; (· exact nxE)) | (apply Bd; (· rfl); (· rfl); (· exact nxE))); (· first | exact Kz rfl rfl (hL) (Aa (Ad (Ad An)) An) | exact Zx (args := []) D1 rfl rfl rfl rfl .nil (fun _ => by simp [rn]) | exact Zx (args := []) D3 rfl rfl rfl rfl .nil (fun _ => by simp [rn]) | exact Nx N2 rfl rfl rfl rfl rfl | exact Nx N5 rfl rfl rfl rfl rfl | exact Nx N6 rfl rfl rfl rfl rfl | exact Ok.pe)) | ((first | apply Ca | (apply Cb; (· exact nxE))); (· first | exact Zx (args := []) D1 rfl rfl rfl rfl .nil (fun _ => by simp [rn]) | exact Zx (args := []) D3 rfl rfl rfl rfl .nil (fun _ => by simp [rn]) | exact Nx N2 rfl rfl rfl rfl rfl | exact Nx N5 rfl rfl rfl rfl rfl | exact Nx N6 rfl rfl rfl rfl rfl | exact Ok.e0)) | refine Sx ?_ | (refine Sy (fun h => ?_) (fun h => ?_) <;> try (exfalso; omega; done)) | refine Sz (fun h => ?_) (fun h => ?_))
      all_goals
        refine Yb ?_
        (apply Le.headZ (hs := [(⟨0, []⟩, ⟨0, []⟩, _)]) [⟨0, []⟩] rfl)
        all_goals (try dsimp only [srcs])
        (case' hfr | hob => (repeat' (first | refine La ?_ ?_ | exact Lc | refine Lo ?_ | refine ⟨⟨_, rfl, ?_⟩, ?_⟩ | refine Lx ?_)))
        all_goals (first | exact Ld | exact trivial | (rfl))
theorem drawEarliestTimetable_ex (code : List Int) (hc : CodeOk code) : ∃ (ev : Int) (xs : List Pl) (P : Int), (0 ≤ ev ∧ ev ≤ 11) ∧ xs.length ≤ 40 ∧ (-1 ≤ P ∧ P ≤ 100002) ∧ AC Try.prog 25 [.d (BD code)] H0 (.tup [grD ev xs, I P]) H0 := by
  have hF := l01From_ac code hc
  obtain ⟨ev, xs, P, s1, hev, hl, hP, h1, D1⟩ := l20DrawPeriod_ex code hc _ (src0_ok hc)
  refine ⟨ev, xs, P, hev, hl, hP, ?_⟩
  refine AC.of_body 0 Try.func25 rfl (fun l h => absurd rfl h) (fun C hC => ?_)
  have hD : ∀ l, ¬ C.D0 l := fun l h => (hC l).1 h rfl
  simp only [startFr, Try.ntmps25, List.length_cons, List.length_nil, Nat.reduceAdd, Nat.reduceSub, List.replicate_succ, List.replicate_zero, List.cons_append, List.nil_append]
  repeat' (first | ((first | apply Ba | (apply Bb; (· rfl); (· rfl)) | (apply Bc; (· exact nxE)) | (apply Bd; (· rfl); (· rfl); (· exact nxE))); (· first | exact Fx hF rfl rfl rfl | exact Zl (args := []) D1 rfl rfl rfl rfl .nil (fun _ => by simp [rn]) | exact Ok.pe)) | ((first | apply Ca | (apply Cb; (· exact nxE))); (· first | exact Fx hF rfl rfl rfl | exact Zl (args := []) D1 rfl rfl rfl rfl .nil (fun _ => by simp [rn]) | exact Ok.e0)) | refine Sx ?_ | (refine Sy (fun h => ?_) (fun h => ?_) <;> try (exfalso; omega; done)) | refine Sz (fun h => ?_) (fun h => ?_))
  refine Yb ?_
  (apply Le.headZ (hs := []) [] rfl)
  all_goals (try dsimp only [srcs])
  (case' hfr => (repeat' (first | refine La ?_ ?_ | exact Lc | refine Lo ?_ | refine ⟨⟨_, rfl, ?_⟩, ?_⟩ | refine Lx ?_)))
  all_goals (first | exact Ld | exact trivial | (rfl))
theorem drawConflictCircuit_ex (code : List Int) (hc : CodeOk code) : ∃ (ev : Int) (xs : List Pl) (P : Int), (0 ≤ ev ∧ ev ≤ 11) ∧ xs.length ≤ 40 ∧ (-1 ≤ P ∧ P ≤ 100002) ∧ AC Try.prog 28 [.d (BD code)] H0 (.tup [grD ev xs, I P]) H0 := by
  have hF := l01From_ac code hc
  obtain ⟨ev, xs, P, s1, hev, hl, hP, h1, D1⟩ := l20DrawPeriod_ex code hc _ (src0_ok hc)
  refine ⟨ev, xs, P, hev, hl, hP, ?_⟩
  refine AC.of_body 0 Try.func28 rfl (fun l h => absurd rfl h) (fun C hC => ?_)
  have hD : ∀ l, ¬ C.D0 l := fun l h => (hC l).1 h rfl
  simp only [startFr, Try.ntmps28, List.length_cons, List.length_nil, Nat.reduceAdd, Nat.reduceSub, List.replicate_succ, List.replicate_zero, List.cons_append, List.nil_append]
  repeat' (first | ((first | apply Ba | (apply Bb; (· rfl); (· rfl)) | (apply Bc; (· exact nxE)) | (apply Bd; (· rfl); (· rfl); (· exact nxE))); (· first | exact Fx hF rfl rfl rfl | exact Zl (args := []) D1 rfl rfl rfl rfl .nil (fun _ => by simp [rn]) | exact Ok.pe)) | ((first | apply Ca | (apply Cb; (· exact nxE))); (· first | exact Fx hF rfl rfl rfl | exact Zl (args := []) D1 rfl rfl rfl rfl .nil (fun _ => by simp [rn]) | exact Ok.e0)) | refine Sx ?_ | (refine Sy (fun h => ?_) (fun h => ?_) <;> try (exfalso; omega; done)) | refine Sz (fun h => ?_) (fun h => ?_))
  refine Yb ?_
  (apply Le.headZ (hs := []) [] rfl)
  all_goals (try dsimp only [srcs])
  (case' hfr => (repeat' (first | refine La ?_ ?_ | exact Lc | refine Lo ?_ | refine ⟨⟨_, rfl, ?_⟩, ?_⟩ | refine Lx ?_)))
  all_goals (first | exact Ld | exact trivial | (rfl))
theorem drawLeastPeriod_ex (code : List Int) (hc : CodeOk code) : ∃ (ev : Int) (xs : List Pl), (0 ≤ ev ∧ ev ≤ 11) ∧ xs.length ≤ 40 ∧ AC Try.prog 41 [.d (BD code)] H0 (grD ev xs) H0 := by
  have hF := l01From_ac code hc
  obtain ⟨ev, xs, P, s1, hev, hl, hP, h1, D1⟩ := l20DrawPeriod_ex code hc _ (src0_ok hc)
  refine ⟨ev, xs, hev, hl, ?_⟩
  refine AC.of_body 0 Try.func41 rfl (fun l h => absurd rfl h) (fun C hC => ?_)
  have hD : ∀ l, ¬ C.D0 l := fun l h => (hC l).1 h rfl
  simp only [startFr, Try.ntmps41, List.length_cons, List.length_nil, Nat.reduceAdd, Nat.reduceSub, List.replicate_succ, List.replicate_zero, List.cons_append, List.nil_append]
  repeat' (first | ((first | apply Ba | (apply Bb; (· rfl); (· rfl)) | (apply Bc; (· exact nxE)) | (apply Bd; (· rfl); (· rfl); (· exact nxE))); (· first | exact Fx hF rfl rfl rfl | exact Zl (args := []) D1 rfl rfl rfl rfl .nil (fun _ => by simp [rn]) | exact Ok.pe)) | ((first | apply Ca | (apply Cb; (· exact nxE))); (· first | exact Fx hF rfl rfl rfl | exact Zl (args := []) D1 rfl rfl rfl rfl .nil (fun _ => by simp [rn]) | exact Ok.e0)) | refine Sx ?_ | (refine Sy (fun h => ?_) (fun h => ?_) <;> try (exfalso; omega; done)) | refine Sz (fun h => ?_) (fun h => ?_))
  refine Ya ?_
  (apply Le.headZ (hs := []) [] rfl)
  all_goals (try dsimp only [srcs])
  (case' hfr => (repeat' (first | refine La ?_ ?_ | exact Lc | refine Lo ?_ | refine ⟨⟨_, rfl, ?_⟩, ?_⟩ | refine Lx ?_)))
  all_goals (first | exact Ld | exact trivial | (rfl))
end Go.Proofs.Ytpgcmpbamlnkkaa
end

section
namespace Go.Proofs.Ytpgcmpbamlnkkaa
set_option linter.unusedSimpArgs false
set_option linter.unusedVariables false
open Go Go.RowKit
attribute [local irreducible] AL AD AW OpOk Le AC thenQ blockQ EndQ

theorem Ok.makeE {P : Program} {o : Oper} {A : Operand → AV} {H : Heap} {new : Nat} {t e : TypeId} {x y : Operand} {k b m : Nat} {z : Value} {v : Int} {R : List (List D)} (ho : o.op = .makeSlice t x y) (hx : A x = I v) (hy : A y = I v) [h : TySlice P t e k b z] (hm : v = (m : Int)) (hR : List.replicate m [DI 0] = R) (hz : z.cells.toList.map D.v = [DI 0]) (hb : b * m ≤ 281474976710656) (h63 : m ≤ 9223372036854775807) : OpOk P o A [] H new (.own k ⟨new, []⟩ 0 m) [.one ⟨new, []⟩ (some (dobj k R))] := by
  subst hm; subst hR; rw [← hz]; exact Ok.makeN ho hx hy hb h63
set_option maxHeartbeats 16000000 in
theorem l20Draw_ex (code : List Int) (hc : CodeOk code) (s : Src) (hs : SrcOk code s) : ∃ (ev : Int) (xs : List Pl) (P : Int) (st : List Int) (s' : Src), (0 ≤ ev ∧ ev ≤ 11) ∧ xs.length ≤ 40 ∧ st.length ≤ 1000 ∧ SrcOk code s' ∧ AC Try.prog 119 [Bx 3 0] (srcH code s) (.tup [grD ev xs, ttA P st]) (srcH code s') := by
  obtain ⟨ev, xs, P, s2, hev, hl, hP, h2, D1⟩ := l20DrawPeriod_ex code hc s hs
  have hT := sEarliestTimetable_cs ev xs P (by omega)
  generalize etC ev xs P = c at *
  generalize etP ev xs P = Q at *
  generalize etS ev xs P = y at *
  rcases hT with ⟨hc0, hT⟩ | ⟨hc0, n, hn, n1, n2, hxl, hxb, hT⟩
  · obtain ⟨m, hm⟩ : ∃ m : Nat, max 0 (min 12 ev) = (m : Int) := ⟨(max 0 (min 12 ev)).toNat, by omega⟩
    have hm12 : m ≤ 12 := by omega
    obtain ⟨x, hx⟩ : ∃ x : List Int, x = List.replicate m 0 := ⟨_, rfl⟩
    have hxl : x.length = m := by rw [hx, List.length_replicate]
    have hxb : ∀ a ∈ x, 0 ≤ a ∧ a ≤ 100000 := fun a ha => by rw [hx] at ha; have := List.eq_of_mem_replicate ha; omega
    have hxr : (IR x).length = m := by rw [IR_len, hxl]
    have hmk : dobj 1 (List.replicate m [DI 0]) = IO x := by rw [hx]; simp [dobj]
    have hmk2 : List.replicate m [DI 0] = IR x := by rw [hx]; simp
    by_cases hm0 : m = 0
    · refine ⟨ev, xs, P, x, s2, hev, hl, by omega, h2, ?_⟩
      show AC _ _ _ (heapL [(⟨0, []⟩, ⟨0, []⟩, srcO code s)]) _ _
      refine AC.of_body 1 Try.func119 rfl (fun l h => by simp [heapL, upd] at h; simp [h]) (fun C hC => ?_)
      simp only [startFr, Try.ntmps119, List.length_cons, List.length_nil, Nat.reduceAdd, Nat.reduceSub, List.replicate_succ, List.replicate_zero, List.cons_append, List.nil_append]
      have hD : ∀ l, C.D0 l → l = ⟨0, []⟩ := fun l h => by have := (hC l).1 h; simp [heapL, upd] at this; exact this
      repeat' (first | ((first | apply Ba | (apply Bb; (· rfl); (· rfl)) | (apply Bc; (· exact nxE)) | (apply Bd; (· rfl); (· rfl); (· exact nxE))); (· first | exact Kz rfl rfl (hT) (Aa (Ad (Ad An)) (Ad An)) | exact Zx (args := []) D1 rfl rfl rfl rfl .nil (fun _ => by simp [rn]) | exact Ok.makeE rfl rfl rfl hm hmk2 (by rfl) (by omega) (by omega) | exact Ok.pe)) | ((first | apply Ca | (apply Cb; (· exact nxE))); (· first | exact Zx (args := []) D1 rfl rfl rfl rfl .nil (fun _ => by simp [rn]) | exact Ok.makeE rfl rfl rfl hm hmk2 (by rfl) (by omega) (by omega) | exact Ok.e0)) | refine Sx ?_ | (refine Sy (fun h => ?_) (fun h => ?_) <;> try (exfalso; omega; done)) | refine Sz (fun h => ?_) (fun h => ?_))
      all_goals
        refine Yb ?_
        (apply Le.headZ (hs := [(⟨0, []⟩, ⟨0, []⟩, _)]) [⟨0, []⟩] rfl)
        all_goals (try dsimp only [srcs])
        (case' hfr | hob => (repeat' (first | refine La ?_ ?_ | refine ARs.agg ?_ | refine ARs.tup ?_ | (first | exact AR.whole rfl (by simp) (by first | (simp; done) | (simp; exact hxl))) | refine La ?_ ?_ | exact Lc | refine Lo ?_ | refine ⟨⟨_, rfl, ?_⟩, ?_⟩ | refine Lx ?_)))
        all_goals (first | exact Ld | exact trivial | (first | exact AR.whole rfl (by simp) (by first | (simp; done) | (simp; exact hxl))))
    obtain ⟨b, s3, b1, b2, h3, _, N3⟩ := next_ex hc h2 (m : Nat)
    obtain ⟨k, rfl⟩ : ∃ k : Nat, b = k := ⟨b.toNat, by omega⟩
    have hk : k < x.length := by omega
    have hv := hxb _ (List.getElem_mem hk)
    have hcell : (IR x)[k]? = some [DI x[k]] := by simp [hk]
    have hset := fun w : Int => (show (IR x).set k [DI w] = IR (x.set k w) by simp [List.map_set])
    have hsl := fun w : Int => (show (x.set k w).length = m by rw [List.length_set]; exact hxl)
    generalize x[k] = v at *
    obtain ⟨q, s4, q1, q2, h4, _, N4⟩ := next_ex hc h3 6
    by_cases hq0 : q = 0
    · obtain ⟨e, s5, e1, e2, h5, _, N5⟩ := next_ex hc h4 5
      have hst := hset (v + e)
      refine ⟨ev, xs, P, x.set k (v + e), s5, hev, hl, by rw [hsl]; omega, h5, ?_⟩
      show AC _ _ _ (heapL [(⟨0, []⟩, ⟨0, []⟩, srcO code s)]) _ _
      refine AC.of_body 1 Try.func119 rfl (fun l h => by simp [heapL, upd] at h; simp [h]) (fun C hC => ?_)
      simp only [startFr, Try.ntmps119, List.length_cons, List.length_nil, Nat.reduceAdd, Nat.reduceSub, List.replicate_succ, List.replicate_zero, List.cons_append, List.nil_append]
      have hD : ∀ l, C.D0 l → l = ⟨0, []⟩ := fun l h => by have := (hC l).1 h; simp [heapL, upd] at this; exact this
      repeat' (first | ((first | apply Ba | (apply Bb; (· rfl); (· rfl)) | (apply Bc; (· exact nxE)) | (apply Bd; (· rfl); (· rfl); (· exact nxE))); (· first | exact Kz rfl rfl (hT) (Aa (Ad (Ad An)) (Ad An)) | exact Ok.ld1 rfl rfl rfl hcell | exact Zx (args := []) D1 rfl rfl rfl rfl .nil (fun _ => by simp [rn]) | exact Ok.makeE rfl rfl rfl hm hmk2 (by rfl) (by omega) (by omega) | exact Nx N3 rfl rfl rfl rfl rfl | exact Nx N4 rfl rfl rfl rfl rfl | exact Nx N5 rfl rfl rfl rfl rfl | exact Ok.st1 rfl rfl rfl (by rw [hxr]; omega) (by rw [hcell]; rfl) rfl rfl hst | exact Ok.pe)) | ((first | apply Ca | (apply Cb; (· exact nxE))); (· first | exact Zx (args := []) D1 rfl rfl rfl rfl .nil (fun _ => by simp [rn]) | exact Ok.makeE rfl rfl rfl hm hmk2 (by rfl) (by omega) (by omega) | exact Nx N3 rfl rfl rfl rfl rfl | exact Nx N4 rfl rfl rfl rfl rfl | exact Nx N5 rfl rfl rfl rfl rfl | exact Ok.st1 rfl rfl rfl (by rw [hxr]; omega) (by rw [hcell]; rfl) rfl rfl hst | exact Ok.e0)) | refine Sx ?_ | (refine Sy (fun h => ?_) (fun h => ?_) <;> try (exfalso; omega; done)) | refine Sz (fun h => ?_) (fun h => ?_))
      all_goals
        refine Yb ?_
        (apply Le.headZ (hs := [(⟨0, []⟩, ⟨0, []⟩, _)]) [⟨0, []⟩] rfl)
        all_goals (try dsimp only [srcs])
        (case' hfr | hob => (repeat' (first | refine La ?_ ?_ | refine ARs.agg ?_ | refine ARs.tup ?_ | (first | exact AR.whole rfl (by simp) (by first | (simp; done) | (simp; exact hxl))) | refine La ?_ ?_ | exact Lc | refine Lo ?_ | refine ⟨⟨_, rfl, ?_⟩, ?_⟩ | refine Lx ?_)))
        all_goals (first | exact Ld | exact trivial | (first | exact AR.whole rfl (by simp) (by first | (simp; done) | (simp; exact hxl))))
    by_cases hq1 : q = 1
    · have hst := hset (max 0 (v - 1))
      refine ⟨ev, xs, P, x.set k (max 0 (v - 1)), s4, hev, hl, by rw [hsl]; omega, h4, ?_⟩
      show AC _ _ _ (heapL [(⟨0, []⟩, ⟨0, []⟩, srcO code s)]) _ _
      refine AC.of_body 1 Try.func119 rfl (fun l h => by simp [heapL, upd] at h; simp [h]) (fun C hC => ?_)
      simp only [startFr, Try.ntmps119, List.length_cons, List.length_nil, Nat.reduceAdd, Nat.reduceSub, List.replicate_succ, List.replicate_zero, List.cons_append, List.nil_append]
      have hD : ∀ l, C.D0 l → l = ⟨0, []⟩ := fun l h => by have := (hC l).1 h; simp [heapL, upd] at this; exact this
      repeat' (first | ((first | apply Ba | (apply Bb; (· rfl); (· rfl)) | (apply Bc; (· exact nxE)) | (apply Bd; (· rfl); (· rfl); (· exact nxE))); (· first | exact Kz rfl rfl (hT) (Aa (Ad (Ad An)) (Ad An)) | exact Ok.ld1 rfl rfl rfl hcell | exact Zx (args := []) D1 rfl rfl rfl rfl .nil (fun _ => by simp [rn]) | exact Ok.makeE rfl rfl rfl hm hmk2 (by rfl) (by omega) (by omega) | exact Nx N3 rfl rfl rfl rfl rfl | exact Nx N4 rfl rfl rfl rfl rfl | exact Ok.st1 rfl rfl rfl (by rw [hxr]; omega) (by rw [hcell]; rfl) rfl rfl hst | exact Ok.pe)) | ((first | apply Ca | (apply Cb; (· exact nxE))); (· first | exact Zx (args := []) D1 rfl rfl rfl rfl .nil (fun _ => by simp [rn]) | exact Ok.makeE rfl rfl rfl hm hmk2 (by rfl) (by omega) (by omega) | exact Nx N3 rfl rfl rfl rfl rfl | exact Nx N4 rfl rfl rfl rfl rfl | exact Ok.st1 rfl rfl rfl (by rw [hxr]; omega) (by rw [hcell]; rfl) rfl rfl hst | exact Ok.e0)) | refine Sx ?_ | (refine Sy (fun h => ?_) (fun h => ?_) <;> try (exfalso; omega; done)) | refine Sz (fun h => ?_) (fun h => ?_))
      all_goals
        refine Yb ?_
        (apply Le.headZ (hs := [(⟨0, []⟩, ⟨0, []⟩, _)]) [⟨0, []⟩] rfl)
        all_goals (try dsimp only [srcs])
        (case' hfr | hob => (repeat' (first | refine La ?_ ?_ | refine ARs.agg ?_ | refine ARs.tup ?_ | (first | exact AR.whole rfl (by simp) (by first | (simp; done) | (simp; exact hxl))) | refine La ?_ ?_ | exact Lc | refine Lo ?_ | refine ⟨⟨_, rfl, ?_⟩, ?_⟩ | refine Lx ?_)))
        all_goals (first | exact Ld | exact trivial | (first | exact AR.whole rfl (by simp) (by first | (simp; done) | (simp; exact hxl))))
    by_cases hq2 : q = 2
    · obtain ⟨e, s5, e1, e2, h5, _, N5⟩ := next_ex hc h4 8
      by_cases he : e = 0
      · obtain ⟨w, s6, hw, h6, _, _, K6⟩ := pick_ex hc h5 [-1, 1000000, 1000001] 3 rfl
        have hst := hset w
        refine ⟨ev, xs, P, x.set k w, s6, hev, hl, by rw [hsl]; omega, h6, ?_⟩
        show AC _ _ _ (heapL [(⟨0, []⟩, ⟨0, []⟩, srcO code s)]) _ _
        refine AC.of_body 1 Try.func119 rfl (fun l h => by simp [heapL, upd] at h; simp [h]) (fun C hC => ?_)
        simp only [startFr, Try.ntmps119, List.length_cons, List.length_nil, Nat.reduceAdd, Nat.reduceSub, List.replicate_succ, List.replicate_zero, List.cons_append, List.nil_append]
        have hD : ∀ l, C.D0 l → l = ⟨0, []⟩ := fun l h => by have := (hC l).1 h; simp [heapL, upd] at this; exact this
        repeat' (first | ((first | apply Ba | (apply Bb; (· rfl); (· rfl)) | (apply Bc; (· exact nxE)) | (apply Bd; (· rfl); (· rfl); (· exact nxE))); (· first | exact Kz rfl rfl (hT) (Aa (Ad (Ad An)) (Ad An)) | exact Ok.ld1 rfl rfl rfl hcell | exact Zx (args := []) D1 rfl rfl rfl rfl .nil (fun _ => by simp [rn]) | exact Ok.makeE rfl rfl rfl hm hmk2 (by rfl) (by omega) (by omega) | exact Nx N3 rfl rfl rfl rfl rfl | exact Nx N4 rfl rfl rfl rfl rfl | exact Nx N5 rfl rfl rfl rfl rfl | exact Kx K6 rfl rfl rfl rfl rfl rfl (by decide) | exact Ok.bs3 rfl rfl rfl rfl rfl | exact Ok.st1 rfl rfl rfl (by rw [hxr]; omega) (by rw [hcell]; rfl) rfl rfl hst | exact Ok.pe)) | ((first | apply Ca | (apply Cb; (· exact nxE))); (· first | exact Zx (args := []) D1 rfl rfl rfl rfl .nil (fun _ => by simp [rn]) | exact Ok.makeE rfl rfl rfl hm hmk2 (by rfl) (by omega) (by omega) | exact Nx N3 rfl rfl rfl rfl rfl | exact Nx N4 rfl rfl rfl rfl rfl | exact Nx N5 rfl rfl rfl rfl rfl | exact Kx K6 rfl rfl rfl rfl rfl rfl (by decide) | exact Ok.bs3 rfl rfl rfl rfl rfl | exact Ok.st1 rfl rfl rfl (by rw [hxr]; omega) (by rw [hcell]; rfl) rfl rfl hst | exact Ok.e0)) | refine Sx ?_ | (refine Sy (fun h => ?_) (fun h => ?_) <;> try (exfalso; omega; done)) | refine Sz (fun h => ?_) (fun h => ?_))
        all_goals
          refine Yb ?_
          (apply Le.headZ (hs := [(⟨0, []⟩, ⟨0, []⟩, _)]) [⟨0, []⟩] rfl)
          all_goals (try dsimp only [srcs])
          (case' hfr | hob => (repeat' (first | refine La ?_ ?_ | refine ARs.agg ?_ | refine ARs.tup ?_ | (first | exact AR.whole rfl (by simp) (by first | (simp; done) | (simp; exact hxl))) | refine La ?_ ?_ | exact Lc | refine Lo ?_ | refine ⟨⟨_, rfl, ?_⟩, ?_⟩ | refine Lx ?_)))
          all_goals (first | exact Ld | exact trivial | (first | exact AR.whole rfl (by simp) (by first | (simp; done) | (simp; exact hxl))))
      · refine ⟨ev, xs, P, x, s5, hev, hl, by omega, h5, ?_⟩
        show AC _ _ _ (heapL [(⟨0, []⟩, ⟨0, []⟩, srcO code s)]) _ _
        refine AC.of_body 1 Try.func119 rfl (fun l h => by simp [heapL, upd] at h; simp [h]) (fun C hC => ?_)
        simp only [startFr, Try.ntmps119, List.length_cons, List.length_nil, Nat.reduceAdd, Nat.reduceSub, List.replicate_succ, List.replicate_zero, List.cons_append, List.nil_append]
        have hD : ∀ l, C.D0 l → l = ⟨0, []⟩ := fun l h => by have := (hC l).1 h; simp [heapL, upd] at this; exact this
        repeat' (first | ((first | apply Ba | (apply Bb; (· rfl); (· rfl)) | (apply Bc; (· exact nxE)) | (apply Bd; (· rfl); (· rfl); (· exact nxE))); (· first | exact Kz rfl rfl (hT) (Aa (Ad (Ad An)) (Ad An)) | exact Zx (args := []) D1 rfl rfl rfl rfl .nil (fun _ => by simp [rn]) | exact Ok.makeE rfl rfl rfl hm hmk2 (by rfl) (by omega) (by omega) | exact Nx N3 rfl rfl rfl rfl rfl | exact Nx N4 rfl rfl rfl rfl rfl | exact Nx N5 rfl rfl rfl rfl rfl | exact Ok.pe)) | ((first | apply Ca | (apply Cb; (· exact nxE))); (· first | exact Zx (args := []) D1 rfl rfl rfl rfl .nil (fun _ => by simp [rn]) | exact Ok.makeE rfl rfl rfl hm hmk2 (by rfl) (by omega) (by omega) | exact Nx N3 rfl rfl rfl rfl rfl | exact Nx N4 rfl rfl rfl rfl rfl | exact Nx N5 rfl rfl rfl rfl rfl | exact Ok.e0)) | refine Sx ?_ | (refine Sy (fun h => ?_) (fun h => ?_) <;> try (exfalso; omega; done)) | refine Sz (fun h => ?_) (fun h => ?_))
        all_goals
          refine Yb ?_
          (apply Le.headZ (hs := [(⟨0, []⟩, ⟨0, []⟩, _)]) [⟨0, []⟩] rfl)
          all_goals (try dsimp only [srcs])
          (case' hfr | hob => (repeat' (first | refine La ?_ ?_ | refine ARs.agg ?_ | refine ARs.tup ?_ | (first | exact AR.whole rfl (by simp) (by first | (simp; done) | (simp; exact hxl))) | refine La ?_ ?_ | exact Lc | refine Lo ?_ | refine ⟨⟨_, rfl, ?_⟩, ?_⟩ | refine Lx ?_)))
          all_goals (first | exact Ld | exact trivial | (first | exact AR.whole rfl (by simp) (by first | (simp; done) | (simp; exact hxl))))
    refine ⟨ev, xs, P, x, s4, hev, hl, by omega, h4, ?_⟩
    show AC _ _ _ (heapL [(⟨0, []⟩, ⟨0, []⟩, srcO code s)]) _ _
    refine AC.of_body 1 Try.func119 rfl (fun l h => by simp [heapL, upd] at h; simp [h]) (fun C hC => ?_)
    simp only [startFr, Try.ntmps119, List.length_cons, List.length_nil, Nat.reduceAdd, Nat.reduceSub, List.replicate_succ, List.replicate_zero, List.cons_append, List.nil_append]
    have hD : ∀ l, C.D0 l → l = ⟨0, []⟩ := fun l h => by have := (hC l).1 h; simp [heapL, upd] at this; exact this
    repeat' (first | ((first | apply Ba | (apply Bb; (· rfl); (· rfl)) | (apply Bc; (· exact nxE)) | (apply Bd; (· rfl); (· rfl); (· exact nxE))); (· first | exact Kz rfl rfl (hT) (Aa (Ad (Ad An)) (Ad An)) | exact Zx (args := []) D1 rfl rfl rfl rfl .nil (fun _ => by simp [rn]) | exact Ok.makeE rfl rfl rfl hm hmk2 (by rfl) (by omega) (by omega) | exact Nx N3 rfl rfl rfl rfl rfl | exact Nx N4 rfl rfl rfl rfl rfl | exact Ok.pe)) | ((first | apply Ca | (apply Cb; (· exact nxE))); (· first | exact Zx (args := []) D1 rfl rfl rfl rfl .nil (fun _ => by simp [rn]) | exact Ok.makeE rfl rfl rfl hm hmk2 (by rfl) (by omega) (by omega) | exact Nx N3 rfl rfl rfl rfl rfl | exact Nx N4 rfl rfl rfl rfl rfl | exact Ok.e0)) | refine Sx ?_ | (refine Sy (fun h => ?_) (fun h => ?_) <;> try (exfalso; omega; done)) | refine Sz (fun h => ?_) (fun h => ?_))
    all_goals
      refine Yb ?_
      (apply Le.headZ (hs := [(⟨0, []⟩, ⟨0, []⟩, _)]) [⟨0, []⟩] rfl)
      all_goals (try dsimp only [srcs])
      (case' hfr | hob => (repeat' (first | refine La ?_ ?_ | refine ARs.agg ?_ | refine ARs.tup ?_ | (first | exact AR.whole rfl (by simp) (by first | (simp; done) | (simp; exact hxl))) | refine La ?_ ?_ | exact Lc | refine Lo ?_ | refine ⟨⟨_, rfl, ?_⟩, ?_⟩ | refine Lx ?_)))
      all_goals (first | exact Ld | exact trivial | (first | exact AR.whole rfl (by simp) (by first | (simp; done) | (simp; exact hxl))))
  · have hxr : (IR y).length = n := by rw [IR_len, hxl]
    subst hc0
    obtain ⟨b, s3, b1, b2, h3, _, N3⟩ := next_ex hc h2 (n : Nat)
    obtain ⟨k, rfl⟩ : ∃ k : Nat, b = k := ⟨b.toNat, by omega⟩
    have hk : k < y.length := by omega
    have hv := hxb _ (List.getElem_mem hk)
    have hcell : (IR y)[k]? = some [DI y[k]] := by simp [hk]
    have hset := fun w : Int => (show (IR y).set k [DI w] = IR (y.set k w) by simp [List.map_set])
    have hsl := fun w : Int => (show (y.set k w).length = n by rw [List.length_set]; exact hxl)
    generalize y[k] = v at *
    obtain ⟨q, s4, q1, q2, h4, _, N4⟩ := next_ex hc h3 6
    by_cases hq0 : q = 0
    · obtain ⟨e, s5, e1, e2, h5, _, N5⟩ := next_ex hc h4 5
      have hst := hset (v + e)
      refine ⟨ev, xs, Q, y.set k (v + e), s5, hev, hl, by rw [hsl]; omega, h5, ?_⟩
      show AC _ _ _ (heapL [(⟨0, []⟩, ⟨0, []⟩, srcO code s)]) _ _
      refine AC.of_body 1 Try.func119 rfl (fun l h => by simp [heapL, upd] at h; simp [h]) (fun C hC => ?_)
      simp only [startFr, Try.ntmps119, List.length_cons, List.length_nil, Nat.reduceAdd, Nat.reduceSub, List.replicate_succ, List.replicate_zero, List.cons_append, List.nil_append]
      have hD : ∀ l, C.D0 l → l = ⟨0, []⟩ := fun l h => by have := (hC l).1 h; simp [heapL, upd] at this; exact this
      repeat' (first | ((first | apply Ba | (apply Bb; (· rfl); (· rfl)) | (apply Bc; (· exact nxE)) | (apply Bd; (· rfl); (· rfl); (· exact nxE))); (· first | exact Ok.ld1 rfl rfl rfl hcell | exact Zx (args := []) D1 rfl rfl rfl rfl .nil (fun _ => by simp [rn]) | exact Eo rfl rfl (hT) (Sa (Sd (Sd Sn)) (Sd Sn)) | exact Nx N3 rfl rfl rfl rfl rfl | exact Nx N4 rfl rfl rfl rfl rfl | exact Nx N5 rfl rfl rfl rfl rfl | exact Ok.st1 rfl rfl rfl (by rw [hxr]; omega) (by rw [hcell]; rfl) rfl rfl hst | exact Ok.pe)) | ((first | apply Ca | (apply Cb; (· exact nxE))); (· first | exact Zx (args := []) D1 rfl rfl rfl rfl .nil (fun _ => by simp [rn]) | exact Eo rfl rfl (hT) (Sa (Sd (Sd Sn)) (Sd Sn)) | exact Nx N3 rfl rfl rfl rfl rfl | exact Nx N4 rfl rfl rfl rfl rfl | exact Nx N5 rfl rfl rfl rfl rfl | exact Ok.st1 rfl rfl rfl (by rw [hxr]; omega) (by rw [hcell]; rfl) rfl rfl hst | exact Ok.e0)) | refine Sx ?_ | (refine Sy (fun h => ?_) (fun h => ?_) <;> try (exfalso; omega; done)) | refine Sz (fun h => ?_) (fun h => ?_))
      all_goals
        refine Yb ?_
        (apply Le.headZ (hs := [(⟨0, []⟩, ⟨0, []⟩, _)]) [⟨0, []⟩] rfl)
        all_goals (try dsimp only [srcs])
        (case' hfr | hob => (repeat' (first | refine La ?_ ?_ | refine ARs.agg ?_ | refine ARs.tup ?_ | (first | exact AR.whole rfl (by simp) (by first | (simp; done) | (simp; exact hxl))) | refine La ?_ ?_ | exact Lc | refine Lo ?_ | refine ⟨⟨_, rfl, ?_⟩, ?_⟩ | refine Lx ?_)))
        all_goals (first | exact Ld | exact trivial | (first | exact AR.whole rfl (by simp) (by first | (simp; done) | (simp; exact hxl))))
    by_cases hq1 : q = 1
    · have hst := hset (max 0 (v - 1))
      refine ⟨ev, xs, Q, y.set k (max 0 (v - 1)), s4, hev, hl, by rw [hsl]; omega, h4, ?_⟩
      show AC _ _ _ (heapL [(⟨0, []⟩, ⟨0, []⟩, srcO code s)]) _ _
      refine AC.of_body 1 Try.func119 rfl (fun l h => by simp [heapL, upd] at h; simp [h]) (fun C hC => ?_)
      simp only [startFr, Try.ntmps119, List.length_cons, List.length_nil, Nat.reduceAdd, Nat.reduceSub, List.replicate_succ, List.replicate_zero, List.cons_append, List.nil_append]
      have hD : ∀ l, C.D0 l → l = ⟨0, []⟩ := fun l h => by have := (hC l).1 h; simp [heapL, upd] at this; exact this
      repeat' (first | ((first | apply Ba | (apply Bb; (· rfl); (· rfl)) | (apply Bc; (· exact nxE)) | (apply Bd; (· rfl); (· rfl); (· exact nxE))); (· first | exact Ok.ld1 rfl rfl rfl hcell | exact Zx (args := []) D1 rfl rfl rfl rfl .nil (fun _ => by simp [rn]) | exact Eo rfl rfl (hT) (Sa (Sd (Sd Sn)) (Sd Sn)) | exact Nx N3 rfl rfl rfl rfl rfl | exact Nx N4 rfl rfl rfl rfl rfl | exact Ok.st1 rfl rfl rfl (by rw [hxr]; omega) (by rw [hcell]; rfl) rfl rfl hst | exact Ok.pe)) | ((first | apply Ca | (apply Cb; (· exact nxE))); (· first | exact Zx (args := []) D1 rfl rfl rfl rfl .nil (fun _ => by simp [rn]) | exact Eo rfl rfl (hT) (Sa (Sd (Sd Sn)) (Sd Sn)) | exact Nx N3 rfl rfl rfl rfl rfl | exact Nx N4 rfl rfl rfl rfl rfl | exact Ok.st1 rfl rfl rfl (by rw [hxr]; omega) (by rw [hcell]; rfl) rfl rfl hst | exact Ok.e0)) | refine Sx ?_ | (refine Sy (fun h => ?_) (fun h => ?_) <;> try (exfalso; omega; done)) | refine Sz (fun h => ?_) (fun h => ?_))
      all_goals
        refine Yb ?_
        (apply Le.headZ (hs := [(⟨0, []⟩, ⟨0, []⟩, _)]) [⟨0, []⟩] rfl)
        all_goals (try dsimp only [srcs])
        (case' hfr | hob => (repeat' (first | refine La ?_ ?_ | refine ARs.agg ?_ | refine ARs.tup ?_ | (first | exact AR.whole rfl (by simp) (by first | (simp; done) | (simp; exact hxl))) | refine La ?_ ?_ | exact Lc | refine Lo ?_ | refine ⟨⟨_, rfl, ?_⟩, ?_⟩ | refine Lx ?_)))
        all_goals (first | exact Ld | exact trivial | (first | exact AR.whole rfl (by simp) (by first | (simp; done) | (simp; exact hxl))))
    by_cases hq2 : q = 2
    · obtain ⟨e, s5, e1, e2, h5, _, N5⟩ := next_ex hc h4 8
      by_cases he : e = 0
      · obtain ⟨w, s6, hw, h6, _, _, K6⟩ := pick_ex hc h5 [-1, 1000000, 1000001] 3 rfl
        have hst := hset w
        refine ⟨ev, xs, Q, y.set k w, s6, hev, hl, by rw [hsl]; omega, h6, ?_⟩
        show AC _ _ _ (heapL [(⟨0, []⟩, ⟨0, []⟩, srcO code s)]) _ _
        refine AC.of_body 1 Try.func119 rfl (fun l h => by simp [heapL, upd] at h; simp [h]) (fun C hC => ?_)
        simp only [startFr, Try.ntmps119, List.length_cons, List.length_nil, Nat.reduceAdd, Nat.reduceSub, List.replicate_succ, List.replicate_zero, List.cons_append, List.nil_append]
        have hD : ∀ l, C.D0 l → l = ⟨0, []⟩ := fun l h => by have := (hC l).1 h; simp [heapL, upd] at this; exact this
        repeat' (first | ((first | apply Ba | (apply Bb; (· rfl); (· rfl)) | (apply Bc; (· exact nxE)) | (apply Bd; (· rfl); (· rfl); (· exact nxE))); (· first | exact Ok.ld1 rfl rfl rfl hcell | exact Zx (args := []) D1 rfl rfl rfl rfl .nil (fun _ => by simp [rn]) | exact Eo rfl rfl (hT) (Sa (Sd (Sd Sn)) (Sd Sn)) | exact Nx N3 rfl rfl rfl rfl rfl | exact Nx N4 rfl rfl rfl rfl rfl | exact Nx N5 rfl rfl rfl rfl rfl | exact Kx K6 rfl rfl rfl rfl rfl rfl (by decide) | exact Ok.bs3 rfl rfl rfl rfl rfl | exact Ok.st1 rfl rfl rfl (by rw [hxr]; omega) (by rw [hcell]; rfl) rfl rfl hst | exact Ok.pe)) | ((first | apply Ca | (apply Cb; (· exact nxE))); (· first | exact Zx (args := []) D1 rfl rfl rfl rfl .nil (fun _ => by simp [rn]) | exact Eo rfl rfl (hT) (Sa (Sd (Sd Sn)) (Sd Sn)) | exact Nx N3 rfl rfl rfl rfl rfl | exact Nx N4 rfl rfl rfl rfl rfl | exact Nx N5 rfl rfl rfl rfl rfl | exact Kx K6 rfl rfl rfl rfl rfl rfl (by decide) | exact Ok.bs3 rfl rfl rfl rfl rfl | exact Ok.st1 rfl rfl rfl (by rw [hxr]; omega) (by rw [hcell]; rfl) rfl rfl hst | exact Ok.e0)) | refine Sx ?_ | (refine Sy (fun h => ?_) (fun h => ?_) <;> try (exfalso; omega; done)) | refine Sz (fun h => ?_) (fun h => ?_))
        all_goals
          refine Yb ?_
          (apply Le.headZ (hs := [(⟨0, []⟩, ⟨0, []⟩, _)]) [⟨0, []⟩] rfl)
          all_goals (try dsimp only [srcs])
          (case' hfr | hob => (repeat' (first | refine La ?_ ?_ | refine ARs.agg ?_ | refine ARs.tup ?_ | (first | exact AR.whole rfl (by simp) (by first | (simp; done) | (simp; exact hxl))) | refine La ?_ ?_ | exact Lc | refine Lo ?_ | refine ⟨⟨_, rfl, ?_⟩, ?_⟩ | refine Lx ?_)))
          all_goals (first | exact Ld | exact trivial | (first | exact AR.whole rfl (by simp) (by first | (simp; done) | (simp; exact hxl))))
      · refine ⟨ev, xs, Q, y, s5, hev, hl, by omega, h5, ?_⟩
        show AC _ _ _ (heapL [(⟨0, []⟩, ⟨0, []⟩, srcO code s)]) _ _
        refine AC.of_body 1 Try.func119 rfl (fun l h => by simp [heapL, upd] at h; simp [h]) (fun C hC => ?_)
        simp only [startFr, Try.ntmps119, List.length_cons, List.length_nil, Nat.reduceAdd, Nat.reduceSub, List.replicate_succ, List.replicate_zero, List.cons_append, List.nil_append]
        have hD : ∀ l, C.D0 l → l = ⟨0, []⟩ := fun l h => by have := (hC l).1 h; simp [heapL, upd] at this; exact this
        repeat' (first | ((first | apply Ba | (apply Bb; (· rfl); (· rfl)) | (apply Bc; (· exact nxE)) | (apply Bd; (· rfl); (· rfl); (· exact nxE))); (· first | exact Zx (args := []) D1 rfl rfl rfl rfl .nil (fun _ => by simp [rn]) | exact Eo rfl rfl (hT) (Sa (Sd (Sd Sn)) (Sd Sn)) | exact Nx N3 rfl rfl rfl rfl rfl | exact Nx N4 rfl rfl rfl rfl rfl | exact Nx N5 rfl rfl rfl rfl rfl | exact Ok.pe)) | ((first | apply Ca | (apply Cb; (· exact nxE))); (· first | exact Zx (args := []) D1 rfl rfl rfl rfl .nil (fun _ => by simp [rn]) | exact Eo rfl rfl (hT) (Sa (Sd (Sd Sn)) (Sd Sn)) | exact Nx N3 rfl rfl rfl rfl rfl | exact Nx N4 rfl rfl rfl rfl rfl | exact Nx N5 rfl rfl rfl rfl rfl | exact Ok.e0)) | refine Sx ?_ | (refine Sy (fun h => ?_) (fun h => ?_) <;> try (exfalso; omega; done)) | refine Sz (fun h => ?_) (fun h => ?_))
        all_goals
          refine Yb ?_
          (apply Le.headZ (hs := [(⟨0, []⟩, ⟨0, []⟩, _)]) [⟨0, []⟩] rfl)
          all_goals (try dsimp only [srcs])
          (case' hfr | hob => (repeat' (first | refine La ?_ ?_ | refine ARs.agg ?_ | refine ARs.tup ?_ | (first | exact AR.whole rfl (by simp) (by first | (simp; done) | (simp; exact hxl))) | refine La ?_ ?_ | exact Lc | refine Lo ?_ | refine ⟨⟨_, rfl, ?_⟩, ?_⟩ | refine Lx ?_)))
          all_goals (first | exact Ld | exact trivial | (first | exact AR.whole rfl (by simp) (by first | (simp; done) | (simp; exact hxl))))
    refine ⟨ev, xs, Q, y, s4, hev, hl, by omega, h4, ?_⟩
    show AC _ _ _ (heapL [(⟨0, []⟩, ⟨0, []⟩, srcO code s)]) _ _
    refine AC.of_body 1 Try.func119 rfl (fun l h => by simp [heapL, upd] at h; simp [h]) (fun C hC => ?_)
    simp only [startFr, Try.ntmps119, List.length_cons, List.length_nil, Nat.reduceAdd, Nat.reduceSub, List.replicate_succ, List.replicate_zero, List.cons_append, List.nil_append]
    have hD : ∀ l, C.D0 l → l = ⟨0, []⟩ := fun l h => by have := (hC l).1 h; simp [heapL, upd] at this; exact this
    repeat' (first | ((first | apply Ba | (apply Bb; (· rfl); (· rfl)) | (apply Bc; (· exact nxE)) | (apply Bd; (· rfl); (· rfl); (· exact nxE))); (· first | exact Zx (args := []) D1 rfl rfl rfl rfl .nil (fun _ => by simp [rn]) | exact Eo rfl rfl (hT) (Sa (Sd (Sd Sn)) (Sd Sn)) | exact Nx N3 rfl rfl rfl rfl rfl | exact Nx N4 rfl rfl rfl rfl rfl | exact Ok.pe)) | ((first | apply Ca | (apply Cb; (· exact nxE))); (· first | exact Zx (args := []) D1 rfl rfl rfl rfl .nil (fun _ => by simp [rn]) | exact Eo rfl rfl (hT) (Sa (Sd (Sd Sn)) (Sd Sn)) | exact Nx N3 rfl rfl rfl rfl rfl | exact Nx N4 rfl rfl rfl rfl rfl | exact Ok.e0)) | refine Sx ?_ | (refine Sy (fun h => ?_) (fun h => ?_) <;> try (exfalso; omega; done)) | refine Sz (fun h => ?_) (fun h => ?_))
    all_goals
      refine Yb ?_
      (apply Le.headZ (hs := [(⟨0, []⟩, ⟨0, []⟩, _)]) [⟨0, []⟩] rfl)
      all_goals (try dsimp only [srcs])
      (case' hfr | hob => (repeat' (first | refine La ?_ ?_ | refine ARs.agg ?_ | refine ARs.tup ?_ | (first | exact AR.whole rfl (by simp) (by first | (simp; done) | (simp; exact hxl))) | refine La ?_ ?_ | exact Lc | refine Lo ?_ | refine ⟨⟨_, rfl, ?_⟩, ?_⟩ | refine Lx ?_)))
      all_goals (first | exact Ld | exact trivial | (first | exact AR.whole rfl (by simp) (by first | (simp; done) | (simp; exact hxl))))
theorem drawSlacksOf_ex (code : List Int) (hc : CodeOk code) : ∃ (ev : Int) (xs : List Pl) (P : Int) (st : List Int), (0 ≤ ev ∧ ev ≤ 11) ∧ xs.length ≤ 40 ∧ st.length ≤ 1000 ∧ AC Try.prog 31 [.d (BD code)] H0 (.tup [grD ev xs, ttA P st]) H0 := by
  have hF := l01From_ac code hc
  obtain ⟨ev, xs, P, st, s1, hev, hl, hs, h1, D1⟩ := l20Draw_ex code hc _ (src0_ok hc)
  refine ⟨ev, xs, P, st, hev, hl, hs, ?_⟩
  refine AC.of_body 0 Try.func31 rfl (fun l h => absurd rfl h) (fun C hC => ?_)
  have hD : ∀ l, ¬ C.D0 l := fun l h => (hC l).1 h rfl
  simp only [startFr, Try.ntmps31, List.length_cons, List.length_nil, Nat.reduceAdd, Nat.reduceSub, List.replicate_succ, List.replicate_zero, List.cons_append, List.nil_append]
  repeat' (first | ((first | apply Ba | (apply Bb; (· rfl); (· rfl)) | (apply Bc; (· exact nxE)) | (apply Bd; (· rfl); (· rfl); (· exact nxE))); (· first | exact Fx hF rfl rfl rfl | exact Zl (args := []) D1 rfl rfl rfl rfl .nil (fun _ => by simp [rn]) | exact Ok.pe)) | ((first | apply Ca | (apply Cb; (· exact nxE))); (· first | exact Fx hF rfl rfl rfl | exact Zl (args := []) D1 rfl rfl rfl rfl .nil (fun _ => by simp [rn]) | exact Ok.e0)) | refine Sx ?_ | (refine Sy (fun h => ?_) (fun h => ?_) <;> try (exfalso; omega; done)) | refine Sz (fun h => ?_) (fun h => ?_))
  refine Yb ?_
  (apply Le.headZ (hs := []) [] rfl)
  all_goals (try dsimp only [srcs])
  (case' hfr => (repeat' (first | refine La ?_ ?_ | exact Lc | refine Lo ?_ | refine ⟨⟨_, rfl, ?_⟩, ?_⟩ | refine Lx ?_)))
  all_goals (first | exact Ld | exact trivial | (rfl))
theorem drawShiftTimetable_ex (code : List Int) (hc : CodeOk code) : ∃ (ev : Int) (xs : List Pl) (P : Int) (st : List Int) (by' : Int), (0 ≤ ev ∧ ev ≤ 11) ∧ xs.length ≤ 40 ∧ st.length ≤ 1000 ∧ (-2000000 ≤ by' ∧ by' ≤ 2000000) ∧ AC Try.prog 44 [.d (BD code)] H0 (.tup [grD ev xs, ttA P st, I by']) H0 := by
  have hF := l01From_ac code hc
  obtain ⟨ev, xs, P, st, s1, hev, hl, hs, h1, D1⟩ := l20Draw_ex code hc _ (src0_ok hc)
  obtain ⟨a, s2, a1, a2, h2, _, N2⟩ := next_ex hc h1 12
  by_cases ha : a = 0
  · obtain ⟨w, s3, hw, h3, _, _, K3⟩ := pick_ex hc h2 [1000000, 1000001, -1000001] 3 rfl
    refine ⟨ev, xs, P, st, w, hev, hl, hs, by simp only [List.mem_cons, List.not_mem_nil, or_false] at hw; omega, ?_⟩
    refine AC.of_body 0 Try.func44 rfl (fun l h => absurd rfl h) (fun C hC => ?_)
    have hD : ∀ l, ¬ C.D0 l := fun l h => (hC l).1 h rfl
    simp only [startFr, Try.ntmps44, List.length_cons, List.length_nil, Nat.reduceAdd, Nat.reduceSub, List.replicate_succ, List.replicate_zero, List.cons_append, List.nil_append]
    repeat' (first | ((first | apply Ba | (apply Bb; (· rfl); (· rfl)) | (apply Bc; (· exact nxE)) | (apply Bd; (· rfl); (· rfl); (· exact nxE))); (· first | exact Fx hF rfl rfl rfl | exact Zl (args := []) D1 rfl rfl rfl rfl .nil (fun _ => by simp [rn]) | exact Nl N2 rfl rfl rfl rfl rfl | exact Kl K3 rfl rfl rfl rfl rfl rfl (by decide) | exact Ok.bs3 rfl rfl rfl rfl rfl | exact Ok.pe)) | ((first | apply Ca | (apply Cb; (· exact nxE))); (· first | exact Fx hF rfl rfl rfl | exact Zl (args := []) D1 rfl rfl rfl rfl .nil (fun _ => by simp [rn]) | exact Nl N2 rfl rfl rfl rfl rfl | exact Kl K3 rfl rfl rfl rfl rfl rfl (by decide) | exact Ok.bs3 rfl rfl rfl rfl rfl | exact Ok.e0)) | refine Sx ?_ | (refine Sy (fun h => ?_) (fun h => ?_) <;> try (exfalso; omega; done)) | refine Sz (fun h => ?_) (fun h => ?_))
    refine Yc ?_
    (apply Le.headZ (hs := []) [] rfl)
    all_goals (try dsimp only [srcs])
    (case' hfr => (repeat' (first | refine La ?_ ?_ | exact Lc | refine Lo ?_ | refine ⟨⟨_, rfl, ?_⟩, ?_⟩ | refine Lx ?_)))
    all_goals (first | exact Ld | exact trivial | (rfl))
  · obtain ⟨b, s3, b1, b2, h3, _, N3⟩ := next_ex hc h2 30
    refine ⟨ev, xs, P, st, b - 6, hev, hl, hs, by omega, ?_⟩
    refine AC.of_body 0 Try.func44 rfl (fun l h => absurd rfl h) (fun C hC => ?_)
    have hD : ∀ l, ¬ C.D0 l := fun l h => (hC l).1 h rfl
    simp only [startFr, Try.ntmps44, List.length_cons, List.length_nil, Nat.reduceAdd, Nat.reduceSub, List.replicate_succ, List.replicate_zero, List.cons_append, List.nil_append]
    repeat' (first | ((first | apply Ba | (apply Bb; (· rfl); (· rfl)) | (apply Bc; (· exact nxE)) | (apply Bd; (· rfl); (· rfl); (· exact nxE))); (· first | exact Fx hF rfl rfl rfl | exact Zl (args := []) D1 rfl rfl rfl rfl .nil (fun _ => by simp [rn]) | exact Nl N2 rfl rfl rfl rfl rfl | exact Nl N3 rfl rfl rfl rfl rfl | exact Ok.pe)) | ((first | apply Ca | (apply Cb; (· exact nxE))); (· first | exact Fx hF rfl rfl rfl | exact Zl (args := []) D1 rfl rfl rfl rfl .nil (fun _ => by simp [rn]) | exact Nl N2 rfl rfl rfl rfl rfl | exact Nl N3 rfl rfl rfl rfl rfl | exact Ok.e0)) | refine Sx ?_ | (refine Sy (fun h => ?_) (fun h => ?_) <;> try (exfalso; omega; done)) | refine Sz (fun h => ?_) (fun h => ?_))
    refine Yc ?_
    (apply Le.headZ (hs := []) [] rfl)
    all_goals (try dsimp only [srcs])
    (case' hfr => (repeat' (first | refine La ?_ ?_ | exact Lc | refine Lo ?_ | refine ⟨⟨_, rfl, ?_⟩, ?_⟩ | refine Lx ?_)))
    all_goals (first | exact Ld | exact trivial | (rfl))
end Go.Proofs.Ytpgcmpbamlnkkaa
end
