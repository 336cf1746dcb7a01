/-
  Walks in the abstract reading: possible runs and markings of the reference, continued.
-/
import Derived.Test.YtofakjlamoigcaaGreatDoorKsU4
namespace Go.Proofs.YtofakjlamoigcaaGreatDoor
set_option linter.unusedSimpArgs false
set_option linter.unusedVariables false
open Go Go.RowKit
attribute [local irreducible] AL AD AW OpOk Le AC thenQ blockQ EndQ

theorem wi_yes [Mode] {a lo hi : Int} (h : lo ≤ a ∧ a ≤ hi) : wi a lo hi = true := by simp [wi, h.1, h.2]
theorem wi_no [Mode] {a lo hi : Int} (h : ¬(lo ≤ a ∧ a ≤ hi)) : wi a lo hi = false := by
  cases hw : wi a lo hi with
  | false => rfl
  | true => simp [wi] at hw; exact absurd hw h
set_option maxHeartbeats 8000000 in
theorem sIsRun_ac [Mode] (n : Nat) (xs : List Pl) (fs : List Fi) (hg : isEG n xs = true) (hn : 1 ≤ n ∧ n ≤ 10) (hx : xs.length ≤ 30) (hv : ∀ p ∈ xs, okPl n p) (hno : NumOk fs) (htm : TmOk fs) (hl : fs.length ≤ 500) : AC Tryz.prog 91 [grD n xs, FL fs] H0 (Bo (rnB n xs fs)) H0 := by
  have hG := sIsEventGraph_ac n xs (by omega)
  rw [hg] at hG
  obtain ⟨m, hm, hgood, hend⟩ := rn_m n xs fs
  have hEy : ∀ e : Int, 0 ≤ e ∧ e < n → AC Tryz.prog 72 [I e, I 0, I ((n : Nat) - 1)] H0 (Bo true) H0 := fun e he => by have := l01In_ac e 0 ((n : Nat) - 1); rwa [wi_yes (by omega)] at this
  have hEn : ∀ e : Int, ¬(0 ≤ e ∧ e < n) → AC Tryz.prog 72 [I e, I 0, I ((n : Nat) - 1)] H0 (Bo false) H0 := fun e he => by have := l01In_ac e 0 ((n : Nat) - 1); rwa [wi_no (by omega)] at this
  have hTy : ∀ t : Int, 0 ≤ t ∧ t ≤ 1000000 → AC Tryz.prog 72 [I t, I 0, I 1000000] H0 (Bo true) H0 := fun t ht => by have := l01In_ac t 0 1000000; rwa [wi_yes ht] at this
  refine AC.of_body 0 Tryz.func91 rfl (fun l h => absurd rfl h) (fun C hC => ?_)
  have hD : ∀ l, ¬ C.D0 l := fun l h => (hC l).1 h rfl
  simp only [startFr, Tryz.ntmps91, List.length_cons, List.length_nil, Nat.reduceAdd, Nat.reduceSub, List.replicate_succ, List.replicate_zero, List.cons_append, List.nil_append]
  repeat' (first | ((first | apply Ba | (apply Bb; (· rfl); (· rfl)) | (apply Bc; (· exact nxE)) | (apply Bd; (· rfl); (· rfl); (· exact nxE))); (· first | exact Kz rfl rfl (hG) (Aa (Ad (Ad An)) An) | exact Ok.lenD rfl rfl FL_len | exact Ok.pe)) | ((first | apply Ca | (apply Cb; (· exact nxE))); (· first | exact Ok.e0)) | refine Sx ?_ | (refine Sy (fun h => ?_) (fun h => ?_) <;> try (exfalso; omega; done)) | refine Sz (fun h => ?_) (fun h => ?_))
  refine AW.loop (X := {k : Nat // k ≤ m}) (fun k => ⟨[Oo, FL fs, Bx 2 0, Oo, Oo, I (k.1 : Nat), Oo, Oo, Oo, Oo, Oo, Oo, Oo, Oo, Oo, Oo, Oo, Oo, Oo, Oo, Oo, Oo, Oo, Oo, Oo, Oo, Oo, Oo, Oo, Oo, Oo, Oo, Oo, Oo, Oo, Oo, Oo, Oo, Oo, Oo, Oo, Oo, Oo, Oo, Oo, Oo, Oo, Oo, Oo, Oo, Oo, Oo, Oo, Oo, Oo, Oo, Oo, Oo, Oo, Oo, Oo, Oo, Oo, Oo, Oo, Oo, Oo, Oo, Oo, Oo, Oo, Oo, Oo, Oo, Oo, Oo, Oo, Oo, Oo, Oo, Oo, Oo, Oo, Oo, Oo], heapL [(⟨0, []⟩, ⟨0, []⟩, ⟨2, [[I n, PL xs]]⟩)], 900⟩) (fun k => m - k.1) ⟨0, Nat.zero_le _⟩ ?_ (fun k => ?_)
  ·
    (apply Le.headZ [_] rfl)
    all_goals (try dsimp only [srcs])
    (case' hfr | hob => (repeat' (first | refine La ?_ ?_ | exact Lc | refine Lo ?_ | refine ⟨⟨_, rfl, ?_⟩, ?_⟩ | refine Lx ?_)))
    all_goals (first | (rfl) | exact Ld)
  obtain ⟨k, hk⟩ := k
  simp only
  by_cases hkl : k < fs.length
  case neg =>
    obtain rfl : k = m := by omega
    rcases hend with ⟨rfl, hr⟩ | ⟨f, hf, _, _⟩
    · rw [hr]
      repeat' (first | ((first | apply Ba | (apply Bb; (· rfl); (· rfl)) | (apply Bc; (· exact nxE)) | (apply Bd; (· rfl); (· rfl); (· exact nxE))); (· first | exact Ok.lenD rfl rfl FL_len | exact Ok.pe)) | ((first | apply Ca | (apply Cb; (· exact nxE))); (· first | exact Ok.e0)) | refine Sx ?_ | (refine Sy (fun h => ?_) (fun h => ?_) <;> try (exfalso; omega; done)) | refine Sz (fun h => ?_) (fun h => ?_))
      refine Ya ?_
      (apply Le.headZ (hs := []) [] rfl)
      all_goals (try dsimp only [srcs])
      (case' hfr => (repeat' (first | refine La ?_ ?_ | exact Lc | refine Lo ?_ | refine ⟨⟨_, rfl, ?_⟩, ?_⟩ | refine Lx ?_)))
      all_goals (first | exact Ld | exact trivial | (rfl))
    · exact absurd (List.getElem?_eq_some_iff.1 hf).1 hkl
  obtain ⟨f, hf⟩ : ∃ f, fs[k]? = some f := ⟨fs[k], List.getElem?_eq_getElem hkl⟩
  have hrow : (fs.map Fi.row)[((k : Nat) : Int).toNat]? = some [DI f.e, DI f.n, DI f.t] := row_get hf
  have hfn := hno k f hf
  have hft := htm f (List.mem_of_getElem? hf)
  have hC := l14Count_ac (fs.take k) f.e (by rw [List.length_take]; omega)
  have hcl := cnt_le (fs.take k) f.e
  have htl : (fs.take k).length = k := by rw [List.length_take]; omega
  have hR := l14Ready_ac n n xs (fs.take k) f.e hv (by omega) (hno.take k) (htm.take k) (by omega)
  have hTf := hTy f.t hft
  have hkm : k < m ∨ k = m := by omega
  have hlast : k = 0 ∨ ∃ g, fs[k - 1]? = some g ∧ 0 < k ∧ lsT (fs.take k) = g.t := by
    cases k with
    | zero => exact .inl rfl
    | succ j => exact .inr ⟨fs[j]'(by omega), List.getElem?_eq_getElem (by omega), by omega, lsT_take (List.getElem?_eq_getElem (by omega))⟩
  have hB : (rnS n xs (fs.take k) f = true ∧ k < m) ∨ (k = m ∧ rnS n xs (fs.take k) f = false ∧ rnB n xs fs = false) := by
    rcases hkm with h | h
    · exact .inl ⟨hgood k f h hf, h⟩
    · rcases hend with ⟨h1, _⟩ | ⟨g, hg, h2, h3⟩
      · omega
      · subst h
        rw [hf] at hg; cases hg
        exact .inr ⟨rfl, h2, h3⟩
  obtain ⟨fe, fn, ft⟩ := f
  simp only at hrow hfn hft hC hcl hR hTf
  generalize hq : rdR xs (fs.take k) fe = q at *
  obtain ⟨qt, qb⟩ := q
  generalize cnt (fs.take k) fe = c at *
  rcases hB with ⟨hS, hlt⟩ | ⟨rfl, hS, hrB⟩
  · obtain ⟨e1, e2, e3, e4, e5⟩ := rnS_yes hS
    simp only [hq] at e1 e2 e3 e4 e5
    subst e4
    have hE := hEy fe ⟨e1, e2⟩
    rcases hlast with rfl | ⟨g, hg, hk0, hgt⟩
    ·
      repeat' (first | ((first | apply Ba | (apply Bb; (· rfl); (· rfl)) | (apply Bc; (· exact nxE)) | (apply Bd; (· rfl); (· rfl); (· exact nxE))); (· first | exact Ok.sliceTk (row := Fi.row) (m := 0) rfl rfl rfl rfl (by omega) | exact Kz rfl rfl (hE) (Ad (Ad (Ad An))) | exact Kz rfl rfl (hTf) (Ad (Ad (Ad An))) | exact Kz rfl rfl (hC) (Ad (Ad An)) | exact Kz rfl rfl (hR) (Aa (Ad (Ad An)) (Ad (Ad An))) | exact Ok.lenD rfl rfl FL_len | exact Ok.pe)) | ((first | apply Ca | (apply Cb; (· exact nxE))); (· first | exact Ok.e0)) | refine Sx ?_ | (refine Sy (fun h => ?_) (fun h => ?_) <;> try (exfalso; omega; done)) | refine Sz (fun h => ?_) (fun h => ?_))
      refine ⟨⟨0 + 1, by omega⟩, ?_, by simp only; omega⟩
      (apply Le.headZ [_] rfl)
      all_goals (try dsimp only [srcs])
      (case' hfr | hob => (repeat' (first | refine La ?_ ?_ | exact Lc | refine Lo ?_ | refine ⟨⟨_, rfl, ?_⟩, ?_⟩ | refine Lx ?_)))
      all_goals (first | (rfl) | exact Ld)
    · have hrow2 : (fs.map Fi.row)[(((k : Nat) : Int) - 1).toNat]? = some [DI g.e, DI g.n, DI g.t] := by
        rw [show (((k : Nat) : Int) - 1).toNat = k - 1 by omega]
        have := row_get (row := Fi.row) hg
        rwa [Int.toNat_natCast] at this
      rw [hgt] at e3
      obtain ⟨ge, gn, gt⟩ := g
      simp only at hrow2 e3 hgt
      repeat' (first | ((first | apply Ba | (apply Bb; (· rfl); (· rfl)) | (apply Bc; (· exact nxE)) | (apply Bd; (· rfl); (· rfl); (· exact nxE))); (· first | exact Ok.sliceTk (row := Fi.row) (m := k) rfl rfl rfl rfl (by omega) | exact Kz rfl rfl (hE) (Ad (Ad (Ad An))) | exact Kz rfl rfl (hTf) (Ad (Ad (Ad An))) | exact Kz rfl rfl (hC) (Ad (Ad An)) | exact Kz rfl rfl (hR) (Aa (Ad (Ad An)) (Ad (Ad An))) | exact Ok.lenD rfl rfl FL_len | exact Ok.pe)) | ((first | apply Ca | (apply Cb; (· exact nxE))); (· first | exact Ok.e0)) | refine Sx ?_ | (refine Sy (fun h => ?_) (fun h => ?_) <;> try (exfalso; omega; done)) | refine Sz (fun h => ?_) (fun h => ?_))
      refine ⟨⟨k + 1, by omega⟩, ?_, by simp only; omega⟩
      (apply Le.headZ [_] rfl)
      all_goals (try dsimp only [srcs])
      (case' hfr | hob => (repeat' (first | refine La ?_ ?_ | exact Lc | refine Lo ?_ | refine ⟨⟨_, rfl, ?_⟩, ?_⟩ | refine Lx ?_)))
      all_goals (first | (rfl) | exact Ld)
  · rw [hrB]
    rcases rnS_no hS with h1 | h1 | h1 | h1
    · simp only at h1
      have hE := hEn fe h1
      repeat' (first | ((first | apply Ba | (apply Bb; (· rfl); (· rfl)) | (apply Bc; (· exact nxE)) | (apply Bd; (· rfl); (· rfl); (· exact nxE))); (· first | exact Ok.sliceTk (row := Fi.row) (m := k) rfl rfl rfl rfl (by omega) | exact Kz rfl rfl (hE) (Ad (Ad (Ad An))) | exact Ok.lenD rfl rfl FL_len | exact Ok.pe)) | ((first | apply Ca | (apply Cb; (· exact nxE))); (· first | exact Ok.e0)) | refine Sx ?_ | (refine Sy (fun h => ?_) (fun h => ?_) <;> try (exfalso; omega; done)) | refine Sz (fun h => ?_) (fun h => ?_))
      all_goals
        refine Ya ?_
        (apply Le.headZ (hs := []) [] rfl)
        all_goals (try dsimp only [srcs])
        (case' hfr => (repeat' (first | refine La ?_ ?_ | exact Lc | refine Lo ?_ | refine ⟨⟨_, rfl, ?_⟩, ?_⟩ | refine Lx ?_)))
        all_goals (first | exact Ld | exact trivial | (rfl))
    · obtain ⟨h1, h2⟩ := h1
      simp only at h1 h2
      have hE := hEy fe h1
      rcases hlast with rfl | ⟨g, hg, hk0, hgt⟩
      · rw [lsT_0] at h2; omega
      have hrow2 : (fs.map Fi.row)[(((k : Nat) : Int) - 1).toNat]? = some [DI g.e, DI g.n, DI g.t] := by
        rw [show (((k : Nat) : Int) - 1).toNat = k - 1 by omega]
        have := row_get (row := Fi.row) hg
        rwa [Int.toNat_natCast] at this
      rw [hgt] at h2
      obtain ⟨ge, gn, gt⟩ := g
      simp only at hrow2 h2 hgt
      repeat' (first | ((first | apply Ba | (apply Bb; (· rfl); (· rfl)) | (apply Bc; (· exact nxE)) | (apply Bd; (· rfl); (· rfl); (· exact nxE))); (· first | exact Ok.sliceTk (row := Fi.row) (m := k) rfl rfl rfl rfl (by omega) | exact Kz rfl rfl (hE) (Ad (Ad (Ad An))) | exact Kz rfl rfl (hTf) (Ad (Ad (Ad An))) | exact Kz rfl rfl (hC) (Ad (Ad An)) | exact Ok.lenD rfl rfl FL_len | exact Ok.pe)) | ((first | apply Ca | (apply Cb; (· exact nxE))); (· first | exact Ok.e0)) | refine Sx ?_ | (refine Sy (fun h => ?_) (fun h => ?_) <;> try (exfalso; omega; done)) | refine Sz (fun h => ?_) (fun h => ?_))
      all_goals
        refine Ya ?_
        (apply Le.headZ (hs := []) [] rfl)
        all_goals (try dsimp only [srcs])
        (case' hfr => (repeat' (first | refine La ?_ ?_ | exact Lc | refine Lo ?_ | refine ⟨⟨_, rfl, ?_⟩, ?_⟩ | refine Lx ?_)))
        all_goals (first | exact Ld | exact trivial | (rfl))
    · obtain ⟨h1, h2, h3⟩ := h1
      simp only [hq] at h1 h2 h3
      subst h3
      have hE := hEy fe h1
      rcases hlast with rfl | ⟨g, hg, hk0, hgt⟩
      ·
        repeat' (first | ((first | apply Ba | (apply Bb; (· rfl); (· rfl)) | (apply Bc; (· exact nxE)) | (apply Bd; (· rfl); (· rfl); (· exact nxE))); (· first | exact Ok.sliceTk (row := Fi.row) (m := 0) rfl rfl rfl rfl (by omega) | exact Kz rfl rfl (hE) (Ad (Ad (Ad An))) | exact Kz rfl rfl (hTf) (Ad (Ad (Ad An))) | exact Kz rfl rfl (hC) (Ad (Ad An)) | exact Kz rfl rfl (hR) (Aa (Ad (Ad An)) (Ad (Ad An))) | exact Ok.lenD rfl rfl FL_len | exact Ok.pe)) | ((first | apply Ca | (apply Cb; (· exact nxE))); (· first | exact Ok.e0)) | refine Sx ?_ | (refine Sy (fun h => ?_) (fun h => ?_) <;> try (exfalso; omega; done)) | refine Sz (fun h => ?_) (fun h => ?_))
        all_goals
          refine Ya ?_
          (apply Le.headZ (hs := []) [] rfl)
          all_goals (try dsimp only [srcs])
          (case' hfr => (repeat' (first | refine La ?_ ?_ | exact Lc | refine Lo ?_ | refine ⟨⟨_, rfl, ?_⟩, ?_⟩ | refine Lx ?_)))
          all_goals (first | exact Ld | exact trivial | (rfl))
      · have hrow2 : (fs.map Fi.row)[(((k : Nat) : Int) - 1).toNat]? = some [DI g.e, DI g.n, DI g.t] := by
          rw [show (((k : Nat) : Int) - 1).toNat = k - 1 by omega]
          have := row_get (row := Fi.row) hg
          rwa [Int.toNat_natCast] at this
        rw [hgt] at h2
        obtain ⟨ge, gn, gt⟩ := g
        simp only at hrow2 h2 hgt
        repeat' (first | ((first | apply Ba | (apply Bb; (· rfl); (· rfl)) | (apply Bc; (· exact nxE)) | (apply Bd; (· rfl); (· rfl); (· exact nxE))); (· first | exact Ok.sliceTk (row := Fi.row) (m := k) rfl rfl rfl rfl (by omega) | exact Kz rfl rfl (hE) (Ad (Ad (Ad An))) | exact Kz rfl rfl (hTf) (Ad (Ad (Ad An))) | exact Kz rfl rfl (hC) (Ad (Ad An)) | exact Kz rfl rfl (hR) (Aa (Ad (Ad An)) (Ad (Ad An))) | exact Ok.lenD rfl rfl FL_len | exact Ok.pe)) | ((first | apply Ca | (apply Cb; (· exact nxE))); (· first | exact Ok.e0)) | refine Sx ?_ | (refine Sy (fun h => ?_) (fun h => ?_) <;> try (exfalso; omega; done)) | refine Sz (fun h => ?_) (fun h => ?_))
        all_goals
          refine Ya ?_
          (apply Le.headZ (hs := []) [] rfl)
          all_goals (try dsimp only [srcs])
          (case' hfr => (repeat' (first | refine La ?_ ?_ | exact Lc | refine Lo ?_ | refine ⟨⟨_, rfl, ?_⟩, ?_⟩ | refine Lx ?_)))
          all_goals (first | exact Ld | exact trivial | (rfl))
    · obtain ⟨h1, h2, h3, h4⟩ := h1
      simp only [hq] at h1 h2 h3 h4
      subst h3
      have hE := hEy fe h1
      rcases hlast with rfl | ⟨g, hg, hk0, hgt⟩
      ·
        repeat' (first | ((first | apply Ba | (apply Bb; (· rfl); (· rfl)) | (apply Bc; (· exact nxE)) | (apply Bd; (· rfl); (· rfl); (· exact nxE))); (· first | exact Ok.sliceTk (row := Fi.row) (m := 0) rfl rfl rfl rfl (by omega) | exact Kz rfl rfl (hE) (Ad (Ad (Ad An))) | exact Kz rfl rfl (hTf) (Ad (Ad (Ad An))) | exact Kz rfl rfl (hC) (Ad (Ad An)) | exact Kz rfl rfl (hR) (Aa (Ad (Ad An)) (Ad (Ad An))) | exact Ok.lenD rfl rfl FL_len | exact Ok.pe)) | ((first | apply Ca | (apply Cb; (· exact nxE))); (· first | exact Ok.e0)) | refine Sx ?_ | (refine Sy (fun h => ?_) (fun h => ?_) <;> try (exfalso; omega; done)) | refine Sz (fun h => ?_) (fun h => ?_))
        all_goals
          refine Ya ?_
          (apply Le.headZ (hs := []) [] rfl)
          all_goals (try dsimp only [srcs])
          (case' hfr => (repeat' (first | refine La ?_ ?_ | exact Lc | refine Lo ?_ | refine ⟨⟨_, rfl, ?_⟩, ?_⟩ | refine Lx ?_)))
          all_goals (first | exact Ld | exact trivial | (rfl))
      · have hrow2 : (fs.map Fi.row)[(((k : Nat) : Int) - 1).toNat]? = some [DI g.e, DI g.n, DI g.t] := by
          rw [show (((k : Nat) : Int) - 1).toNat = k - 1 by omega]
          have := row_get (row := Fi.row) hg
          rwa [Int.toNat_natCast] at this
        rw [hgt] at h2
        obtain ⟨ge, gn, gt⟩ := g
        simp only at hrow2 h2 hgt
        repeat' (first | ((first | apply Ba | (apply Bb; (· rfl); (· rfl)) | (apply Bc; (· exact nxE)) | (apply Bd; (· rfl); (· rfl); (· exact nxE))); (· first | exact Ok.sliceTk (row := Fi.row) (m := k) rfl rfl rfl rfl (by omega) | exact Kz rfl rfl (hE) (Ad (Ad (Ad An))) | exact Kz rfl rfl (hTf) (Ad (Ad (Ad An))) | exact Kz rfl rfl (hC) (Ad (Ad An)) | exact Kz rfl rfl (hR) (Aa (Ad (Ad An)) (Ad (Ad An))) | exact Ok.lenD rfl rfl FL_len | exact Ok.pe)) | ((first | apply Ca | (apply Cb; (· exact nxE))); (· first | exact Ok.e0)) | refine Sx ?_ | (refine Sy (fun h => ?_) (fun h => ?_) <;> try (exfalso; omega; done)) | refine Sz (fun h => ?_) (fun h => ?_))
        all_goals
          refine Ya ?_
          (apply Le.headZ (hs := []) [] rfl)
          all_goals (try dsimp only [srcs])
          (case' hfr => (repeat' (first | refine La ?_ ?_ | exact Lc | refine Lo ?_ | refine ⟨⟨_, rfl, ?_⟩, ?_⟩ | refine Lx ?_)))
          all_goals (first | exact Ld | exact trivial | (rfl))
theorem l14Code_ac [Mode] (ev : Int) (xs : List Pl) (fs : List Fi) (hx : xs.length ≤ 1048576) (hno : NumOk fs) (htm : TmOk fs) (hl : fs.length ≤ 500) : AC Tryz.prog 73 [grD ev xs, FL fs] H0 (I (raC ev xs fs)) H0 := by
  have hG := sIsEventGraph_ac ev xs (by omega)
  by_cases hg : isEG ev xs = true
  · obtain ⟨n, rfl, h1, h2, h3, h4⟩ := isEG_okR hg
    have hR := sIsRun_ac n xs fs hg ⟨h1, h2⟩ h3 h4 hno htm hl
    have e1 : raC n xs fs = if rnB n xs fs = true then 0 else 2 := if_pos hg
    rw [e1]
    rw [hg] at hG
    generalize rnB n xs fs = b at *
    cases b
    all_goals
      refine AC.of_body 0 Tryz.func73 rfl (fun l h => absurd rfl h) (fun C hC => ?_)
      have hD : ∀ l, ¬ C.D0 l := fun l h => (hC l).1 h rfl
      simp only [startFr, Tryz.ntmps73, List.length_cons, List.length_nil, Nat.reduceAdd, Nat.reduceSub, List.replicate_succ, List.replicate_zero, List.cons_append, List.nil_append]
      repeat' (first | ((first | apply Ba | (apply Bb; (· rfl); (· rfl)) | (apply Bc; (· exact nxE)) | (apply Bd; (· rfl); (· rfl); (· exact nxE))); (· first | exact Kz rfl rfl (hG) (Aa (Ad (Ad An)) An) | exact Kz rfl rfl (hR) (Aa (Ad (Ad An)) (Ad An)) | exact Ok.lenD rfl rfl FL_len | exact Ok.pe)) | ((first | apply Ca | (apply Cb; (· exact nxE))); (· first | exact Ok.e0)) | refine Sx ?_ | (refine Sy (fun h => ?_) (fun h => ?_) <;> try (exfalso; omega; done)) | refine Sz (fun h => ?_) (fun h => ?_))
    all_goals
      refine Ya ?_
      (apply Le.headZ (hs := []) [] rfl)
      all_goals (try dsimp only [srcs])
      (case' hfr => (repeat' (first | refine La ?_ ?_ | exact Lc | refine Lo ?_ | refine ⟨⟨_, rfl, ?_⟩, ?_⟩ | refine Lx ?_)))
      all_goals (first | exact Ld | exact trivial | (rfl))
  · have e1 : raC ev xs fs = 1 := if_neg hg
    rw [e1]
    rw [Bool.not_eq_true] at hg
    rw [hg] at hG
    refine AC.of_body 0 Tryz.func73 rfl (fun l h => absurd rfl h) (fun C hC => ?_)
    have hD : ∀ l, ¬ C.D0 l := fun l h => (hC l).1 h rfl
    simp only [startFr, Tryz.ntmps73, List.length_cons, List.length_nil, Nat.reduceAdd, Nat.reduceSub, List.replicate_succ, List.replicate_zero, List.cons_append, List.nil_append]
    repeat' (first | ((first | apply Ba | (apply Bb; (· rfl); (· rfl)) | (apply Bc; (· exact nxE)) | (apply Bd; (· rfl); (· rfl); (· exact nxE))); (· first | exact Kz rfl rfl (hG) (Aa (Ad (Ad An)) An) | exact Ok.lenD rfl rfl FL_len | exact Ok.pe)) | ((first | apply Ca | (apply Cb; (· exact nxE))); (· first | exact Ok.e0)) | refine Sx ?_ | (refine Sy (fun h => ?_) (fun h => ?_) <;> try (exfalso; omega; done)) | refine Sz (fun h => ?_) (fun h => ?_))
    all_goals
      refine Ya ?_
      (apply Le.headZ (hs := []) [] rfl)
      all_goals (try dsimp only [srcs])
      (case' hfr => (repeat' (first | refine La ?_ ?_ | exact Lc | refine Lo ?_ | refine ⟨⟨_, rfl, ?_⟩, ?_⟩ | refine Lx ?_)))
      all_goals (first | exact Ld | exact trivial | (rfl))
set_option maxHeartbeats 4000000 in
theorem sMarkingAfter_ac [Mode] (ev : Int) (xs : List Pl) (fs : List Fi) (hx : xs.length ≤ 1048576) (hno : NumOk fs) (htm : TmOk fs) (hl : fs.length ≤ 500) : AC Tryz.prog 47 [grD ev xs, FL fs] H0 (.tup [IL (raL ev xs fs), I (raC ev xs fs)]) H0 := by
  have hCd := l14Code_ac ev xs fs hx hno htm hl
  by_cases h0 : raC ev xs fs = 0
  case neg =>
    have e2 : raL ev xs fs = [] := if_neg h0
    rw [e2]
    generalize raC ev xs fs = c at *
    refine AC.of_body 0 Tryz.func47 rfl (fun l h => absurd rfl h) (fun C hC => ?_)
    have hD : ∀ l, ¬ C.D0 l := fun l h => (hC l).1 h rfl
    simp only [startFr, Tryz.ntmps47, List.length_cons, List.length_nil, Nat.reduceAdd, Nat.reduceSub, List.replicate_succ, List.replicate_zero, List.cons_append, List.nil_append]
    repeat' (first | ((first | apply Ba | (apply Bb; (· rfl); (· rfl)) | (apply Bc; (· exact nxE)) | (apply Bd; (· rfl); (· rfl); (· exact nxE))); (· first | exact Kz rfl rfl (hCd) (Aa (Ad (Ad An)) (Ad An)) | exact Ok.lenD rfl rfl FL_len | exact Ok.pe)) | ((first | apply Ca | (apply Cb; (· exact nxE))); (· first | exact Ok.e0)) | refine Sx ?_ | (refine Sy (fun h => ?_) (fun h => ?_) <;> try (exfalso; omega; done)) | refine Sz (fun h => ?_) (fun h => ?_))
    all_goals
      refine Yb ?_
      (apply Le.headZ (hs := []) [] rfl)
      all_goals (try dsimp only [srcs])
      (case' hfr => (repeat' (first | refine La ?_ ?_ | exact Lc | refine Lo ?_ | refine ⟨⟨_, rfl, ?_⟩, ?_⟩ | refine Lx ?_)))
      all_goals (first | exact Ld | exact trivial | (rfl))
  have e2 : raL ev xs fs = mkA xs fs := if_pos h0
  have hg : isEG ev xs = true := by
    cases hg : isEG ev xs with
    | true => rfl
    | false => unfold raC at h0; rw [hg] at h0; simp at h0
  obtain ⟨n, rfl, h1, h2, h3, h4⟩ := isEG_okR hg
  rw [e2, h0]
  rw [h0] at hCd
  refine AC.frz (res := .tup [own1 1 (mkA xs fs).length, I 0]) (H' := hp1 (IO (mkA xs fs))) ?_ (ARs.tup (.cons (AR.whole rfl trivial IR_len) (.cons (.dd _) .nil)))
  have hCn := fun e => l14Count_ac fs e (by omega)
  refine AC.of_body 0 Tryz.func47 rfl (fun l h => absurd rfl h) (fun C hC => ?_)
  have hD : ∀ l, ¬ C.D0 l := fun l h => (hC l).1 h rfl
  simp only [startFr, Tryz.ntmps47, List.length_cons, List.length_nil, Nat.reduceAdd, Nat.reduceSub, List.replicate_succ, List.replicate_zero, List.cons_append, List.nil_append]
  repeat' (first | ((first | apply Ba | (apply Bb; (· rfl); (· rfl)) | (apply Bc; (· exact nxE)) | (apply Bd; (· rfl); (· rfl); (· exact nxE))); (· first | exact Kz rfl rfl (hCd) (Aa (Ad (Ad An)) (Ad An)) | exact Ok.lenD rfl rfl FL_len | exact Ok.pe)) | ((first | apply Ca | (apply Cb; (· exact nxE))); (· first | exact Ok.e0)) | refine Sx ?_ | (refine Sy (fun h => ?_) (fun h => ?_) <;> try (exfalso; omega; done)) | refine Sz (fun h => ?_) (fun h => ?_))
  refine AW.loop (X := {k : Nat // k ≤ xs.length}) (fun k => ⟨[Oo, FL fs, Bx 2 0, Oo, Oo, Oo, Oo, .own 1 ⟨1, []⟩ 0 (mkA (xs.take (k.1 : Nat)) fs).length, I (k.1 : Nat), Oo, Oo, Oo, Oo, Oo, Oo, Oo, Oo, Oo, Oo, Oo, Oo, Oo, Oo, Oo, Oo, Oo, Oo, Oo, Oo, Oo, Oo, Oo, Oo, Oo, Oo, Oo, Oo, Oo, Oo, Oo, Oo, Oo, Oo, Oo, Oo], heapL [(⟨0, []⟩, ⟨0, []⟩, ⟨2, [[I n, PL xs]]⟩), (⟨1, []⟩, ⟨1, []⟩, IO (mkA (xs.take k.1) fs))], 900⟩) (fun k => xs.length - k.1) ⟨0, Nat.zero_le _⟩ ?_ (fun k => ?_)
  ·
    (apply Le.headZ [_, _] rfl)
    all_goals (try dsimp only [srcs])
    (case' hfr | hob => (repeat' (first | refine La ?_ ?_ | exact Lc | refine Lo ?_ | refine ⟨⟨_, rfl, ?_⟩, ?_⟩ | refine Lx ?_)))
    all_goals (first | (rfl) | exact Ld)
  obtain ⟨k, hk⟩ := k
  simp only
  by_cases hlt : k < xs.length
  · obtain ⟨p, hp⟩ : ∃ p, xs[k]? = some p := ⟨xs[k], List.getElem?_eq_getElem hlt⟩
    have hrow : (xs.map Pl.row)[((k : Nat) : Int).toNat]? = some [DI p.f, DI p.t, DI p.d, DI p.k] := row_get hp
    have hok := h4 p (List.mem_of_getElem? hp)
    have hC1 := hCn p.f
    have hC2 := hCn p.t
    have hc1 := cnt_le fs p.f
    have hc2 := cnt_le fs p.t
    have hst := mkA_take (fs := fs) hp
    have hln : (mkA (xs.take k) fs).length ≤ 30 := by rw [mkA_len, List.length_take]; omega
    obtain ⟨pf, pt, pd, pk⟩ := p
    unfold okPl at hok
    simp only at hok hrow hC1 hC2 hc1 hc2 hst
    have hol : (IR (mkA (xs.take k) fs)).length = (mkA (xs.take k) fs).length := IR_len
    generalize cnt fs pf = a at *
    generalize cnt fs pt = b at *
    repeat' (first | ((first | apply Ba | (apply Bb; (· rfl); (· rfl)) | (apply Bc; (· exact nxE)) | (apply Bd; (· rfl); (· rfl); (· exact nxE))); (· first | exact Kz rfl rfl (hC1) (Ad (Ad An)) | exact Kz rfl rfl (hC2) (Ad (Ad An)) | exact Ok.lenD rfl rfl FL_len | exact Ok.append1 (row := [DI (pk + (a : Int) - (b : Int))]) rfl rfl (by decide) rfl rfl hol rfl rfl rfl (by rfl) (by omega) (by omega) | exact Ok.pe)) | ((first | apply Ca | (apply Cb; (· exact nxE))); (· first | exact Ok.append1 (row := [DI (pk + (a : Int) - (b : Int))]) rfl rfl (by decide) rfl rfl hol rfl rfl rfl (by rfl) (by omega) (by omega) | exact Ok.e0)) | refine Sx ?_ | (refine Sy (fun h => ?_) (fun h => ?_) <;> try (exfalso; omega; done)) | refine Sz (fun h => ?_) (fun h => ?_))
    refine ⟨⟨k + 1, by omega⟩, ?_, by simp only; omega⟩
    (apply Le.headZ [_, _] rfl)
    all_goals (try dsimp only [srcs])
    (case' hfr | hob => (repeat' (first | refine La ?_ ?_ | exact Lc | refine Lo ?_ | refine ⟨⟨_, rfl, ?_⟩, ?_⟩ | refine Lx ?_)))
    all_goals (first | ((first | (rw [hst, IR_app]; done) | (rw [hst]; simp; done))) | exact Ld)
  · obtain rfl : k = xs.length := by omega
    rw [List.take_length]
    repeat' (first | ((first | apply Ba | (apply Bb; (· rfl); (· rfl)) | (apply Bc; (· exact nxE)) | (apply Bd; (· rfl); (· rfl); (· exact nxE))); (· first | exact Ok.lenD rfl rfl FL_len | exact Ok.pe)) | ((first | apply Ca | (apply Cb; (· exact nxE))); (· first | exact Ok.e0)) | refine Sx ?_ | (refine Sy (fun h => ?_) (fun h => ?_) <;> try (exfalso; omega; done)) | refine Sz (fun h => ?_) (fun h => ?_))
    all_goals
      refine Yb ?_
      (apply Le.head [(⟨0, []⟩, _, _)])
      (case' hfr | hob => (repeat' (first | refine La ?_ ?_ | exact Lc | refine Lo ?_ | refine ⟨⟨_, rfl, ?_⟩, ?_⟩ | refine Lx ?_)))
      all_goals (first | exact Ld | (rfl))
end Go.Proofs.YtofakjlamoigcaaGreatDoor
