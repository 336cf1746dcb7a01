/-
  Walks in the abstract reading, part 5.
-/
import Derived.Test.YtofakjlamoigcaaGreatDoorKrU4
section
namespace Go.Proofs.YtofakjlamoigcaaGreatDoor
set_option linter.unusedSimpArgs false
set_option linter.unusedVariables false
open Go Go.RowKit
attribute [local irreducible] AL AD AW OpOk Le AC thenQ blockQ EndQ

theorem wi_yes [Mode] {a lo hi : Int} (h : lo ≤ a ∧ a ≤ hi) : wi a lo hi = true := by simp [wi, h.1, h.2]
theorem wi_no [Mode] {a lo hi : Int} (h : ¬(lo ≤ a ∧ a ≤ hi)) : wi a lo hi = false := by
  cases hw : wi a lo hi with
  | false => rfl
  | true => simp [wi] at hw; exact absurd hw h
set_option maxHeartbeats 8000000 in
theorem sIsRun_ac [Mode] (n : Nat) (xs : List Pl) (fs : List Fi) (hg : isEG n xs = true) (hn : 1 ≤ n ∧ n ≤ 10) (hx : xs.length ≤ 30) (hv : ∀ p ∈ xs, okPl n p) (hno : NumOk fs) (htm : TmOk fs) (hl : fs.length ≤ 500) : AC Tryz.prog 91 [grD n xs, FL fs] H0 (Bo (rnB n xs fs)) H0 := by
  have hG := sIsEventGraph_ac n xs (by omega)
  rw [hg] at hG
  obtain ⟨m, hm, hgood, hend⟩ := rn_m n xs fs
  have hEy : ∀ e : Int, 0 ≤ e ∧ e < n → AC Tryz.prog 72 [I e, I 0, I ((n : Nat) - 1)] H0 (Bo true) H0 := fun e he => by have := l01In_ac e 0 ((n : Nat) - 1); rwa [wi_yes (by omega)] at this
  have hEn : ∀ e : Int, ¬(0 ≤ e ∧ e < n) → AC Tryz.prog 72 [I e, I 0, I ((n : Nat) - 1)] H0 (Bo false) H0 := fun e he => by have := l01In_ac e 0 ((n : Nat) - 1); rwa [wi_no (by omega)] at this
  have hTy : ∀ t : Int, 0 ≤ t ∧ t ≤ 1000000 → AC Tryz.prog 72 [I t, I 0, I 1000000] H0 (Bo true) H0 := fun t ht => by have := l01In_ac t 0 1000000; rwa [wi_yes ht] at this
  refine AC.of_body 0 Tryz.func91 rfl (fun l h => absurd rfl h) (fun C hC => ?_)
  have hD : ∀ l, ¬ C.D0 l := fun l h => (hC l).1 h rfl
  simp only [startFr, Tryz.ntmps91, List.length_cons, List.length_nil, Nat.reduceAdd, Nat.reduceSub, List.replicate_succ, List.replicate_zero, List.cons_append, List.nil_append]
  repeat' (first | ((first | apply Ba | (apply Bb; (· rfl); (· rfl)) | (apply Bc; (· exact nxE)) | (apply Bd; (· rfl); (· rfl); (· exact nxE))); (· first | exact Kz rfl rfl (hG) (Aa (Ad (Ad An)) An) | exact Ok.lenD rfl rfl FL_len | exact Ok.pe)) | ((first | apply Ca | (apply Cb; (· exact nxE))); (· first | exact Ok.e0)) | refine Sx ?_ | (refine Sy (fun h => ?_) (fun h => ?_) <;> try (exfalso; omega; done)) | refine Sz (fun h => ?_) (fun h => ?_))
  refine AW.loop (X := {k : Nat // k ≤ m}) (fun k => ⟨[Oo, FL fs, Bx 2 0, Oo, Oo, I (k.1 : Nat), Oo, Oo, Oo, Oo, Oo, Oo, Oo, Oo, Oo, Oo, Oo, Oo, Oo, Oo, Oo, Oo, Oo, Oo, Oo, Oo, Oo, Oo, Oo, Oo, Oo, Oo, Oo, Oo, Oo, Oo, Oo, Oo, Oo, Oo, Oo, Oo, Oo, Oo, Oo, Oo, Oo, Oo, Oo, Oo, Oo, Oo, Oo, Oo, Oo, Oo, Oo, Oo, Oo, Oo, Oo, Oo, Oo, Oo, Oo, Oo, Oo, Oo, Oo, Oo, Oo, Oo, Oo, Oo, Oo, Oo, Oo, Oo, Oo, Oo, Oo, Oo, Oo, Oo, Oo], heapL [(⟨0, []⟩, ⟨0, []⟩, ⟨2, [[I n, PL xs]]⟩)], 900⟩) (fun k => m - k.1) ⟨0, Nat.zero_le _⟩ ?_ (fun k => ?_)
  ·
    (apply Le.headZ [_] rfl)
    all_goals (try dsimp only [srcs])
    (case' hfr | hob => (repeat' (first | refine La ?_ ?_ | exact Lc | refine Lo ?_ | refine ⟨⟨_, rfl, ?_⟩, ?_⟩ | refine Lx ?_)))
    all_goals (first | (rfl) | exact Ld)
  obtain ⟨k, hk⟩ := k
  simp only
  by_cases hkl : k < fs.length
  case neg =>
    obtain rfl : k = m := by omega
    rcases hend with ⟨rfl, hr⟩ | ⟨f, hf, _, _⟩
    · rw [hr]
      repeat' (first | ((first | apply Ba | (apply Bb; (· rfl); (· rfl)) | (apply Bc; (· exact nxE)) | (apply Bd; (· rfl); (· rfl); (· exact nxE))); (· first | exact Ok.lenD rfl rfl FL_len | exact Ok.pe)) | ((first | apply Ca | (apply Cb; (· exact nxE))); (· first | exact Ok.e0)) | refine Sx ?_ | (refine Sy (fun h => ?_) (fun h => ?_) <;> try (exfalso; omega; done)) | refine Sz (fun h => ?_) (fun h => ?_))
      refine Ya ?_
      (apply Le.headZ (hs := []) [] rfl)
      all_goals (try dsimp only [srcs])
      (case' hfr => (repeat' (first | refine La ?_ ?_ | exact Lc | refine Lo ?_ | refine ⟨⟨_, rfl, ?_⟩, ?_⟩ | refine Lx ?_)))
      all_goals (first | exact Ld | exact trivial | (rfl))
    · exact absurd (List.getElem?_eq_some_iff.1 hf).1 hkl
  obtain ⟨f, hf⟩ : ∃ f, fs[k]? = some f := ⟨fs[k], List.getElem?_eq_getElem hkl⟩
  have hrow : (fs.map Fi.row)[((k : Nat) : Int).toNat]? = some [DI f.e, DI f.n, DI f.t] := row_get hf
  have hfn := hno k f hf
  have hft := htm f (List.mem_of_getElem? hf)
  have hC := l14Count_ac (fs.take k) f.e (by rw [List.length_take]; omega)
  have hcl := cnt_le (fs.take k) f.e
  have htl : (fs.take k).length = k := by rw [List.length_take]; omega
  have hR := l14Ready_ac n n xs (fs.take k) f.e hv (by omega) (hno.take k) (htm.take k) (by omega)
  have hTf := hTy f.t hft
  have hkm : k < m ∨ k = m := by omega
  have hlast : k = 0 ∨ ∃ g, fs[k - 1]? = some g ∧ 0 < k ∧ lsT (fs.take k) = g.t := by
    cases k with
    | zero => exact .inl rfl
    | succ j => exact .inr ⟨fs[j]'(by omega), List.getElem?_eq_getElem (by omega), by omega, lsT_take (List.getElem?_eq_getElem (by omega))⟩
  have hB : (rnS n xs (fs.take k) f = true ∧ k < m) ∨ (k = m ∧ rnS n xs (fs.take k) f = false ∧ rnB n xs fs = false) := by
    rcases hkm with h | h
    · exact .inl ⟨hgood k f h hf, h⟩
    · rcases hend with ⟨h1, _⟩ | ⟨g, hg, h2, h3⟩
      · omega
      · subst h
        rw [hf] at hg; cases hg
        exact .inr ⟨rfl, h2, h3⟩
  obtain ⟨fe, fn, ft⟩ := f
  simp only at hrow hfn hft hC hcl hR hTf
  generalize hq : rdR xs (fs.take k) fe = q at *
  obtain ⟨qt, qb⟩ := q
  generalize cnt (fs.take k) fe = c at *
  rcases hB with ⟨hS, hlt⟩ | ⟨rfl, hS, hrB⟩
  · obtain ⟨e1, e2, e3, e4, e5⟩ := rnS_yes hS
    simp only [hq] at e1 e2 e3 e4 e5
    subst e4
    have hE := hEy fe ⟨e1, e2⟩
    rcases hlast with rfl | ⟨g, hg, hk0, hgt⟩
    ·
      repeat' (first | ((first | apply Ba | (apply Bb; (· rfl); (· rfl)) | (apply Bc; (· exact nxE)) | (apply Bd; (· rfl); (· rfl); (· exact nxE))); (· first | exact Ok.sliceTk (row := Fi.row) (m := 0) rfl rfl rfl rfl (by omega) | exact Kz rfl rfl (hE) (Ad (Ad (Ad An))) | exact Kz rfl rfl (hTf) (Ad (Ad (Ad An))) | exact Kz rfl rfl (hC) (Ad (Ad An)) | exact Kz rfl rfl (hR) (Aa (Ad (Ad An)) (Ad (Ad An))) | exact Ok.lenD rfl rfl FL_len | exact Ok.pe)) | ((first | apply Ca | (apply Cb; (· exact nxE))); (· first | exact Ok.e0)) | refine Sx ?_ | (refine Sy (fun h => ?_) (fun h => ?_) <;> try (exfalso; omega; done)) | refine Sz (fun h => ?_) (fun h => ?_))
      refine ⟨⟨0 + 1, by omega⟩, ?_, by simp only; omega⟩
      (apply Le.headZ [_] rfl)
      all_goals (try dsimp only [srcs])
      (case' hfr | hob => (repeat' (first | refine La ?_ ?_ | exact Lc | refine Lo ?_ | refine ⟨⟨_, rfl, ?_⟩, ?_⟩ | refine Lx ?_)))
      all_goals (first | (rfl) | exact Ld)
    · have hrow2 : (fs.map Fi.row)[(((k : Nat) : Int) - 1).toNat]? = some [DI g.e, DI g.n, DI g.t] := by
        rw [show (((k : Nat) : Int) - 1).toNat = k - 1 by omega]
        have := row_get (row := Fi.row) hg
        rwa [Int.toNat_natCast] at this
      rw [hgt] at e3
      obtain ⟨ge, gn, gt⟩ := g
      simp only at hrow2 e3 hgt
      repeat' (first | ((first | apply Ba | (apply Bb; (· rfl); (· rfl)) | (apply Bc; (· exact nxE)) | (apply Bd; (· rfl); (· rfl); (· exact nxE))); (· first | exact Ok.sliceTk (row := Fi.row) (m := k) rfl rfl rfl rfl (by omega) | exact Kz rfl rfl (hE) (Ad (Ad (Ad An))) | exact Kz rfl rfl (hTf) (Ad (Ad (Ad An))) | exact Kz rfl rfl (hC) (Ad (Ad An)) | exact Kz rfl rfl (hR) (Aa (Ad (Ad An)) (Ad (Ad An))) | exact Ok.lenD rfl rfl FL_len | exact Ok.pe)) | ((first | apply Ca | (apply Cb; (· exact nxE))); (· first | exact Ok.e0)) | refine Sx ?_ | (refine Sy (fun h => ?_) (fun h => ?_) <;> try (exfalso; omega; done)) | refine Sz (fun h => ?_) (fun h => ?_))
      refine ⟨⟨k + 1, by omega⟩, ?_, by simp only; omega⟩
      (apply Le.headZ [_] rfl)
      all_goals (try dsimp only [srcs])
      (case' hfr | hob => (repeat' (first | refine La ?_ ?_ | exact Lc | refine Lo ?_ | refine ⟨⟨_, rfl, ?_⟩, ?_⟩ | refine Lx ?_)))
      all_goals (first | (rfl) | exact Ld)
  · rw [hrB]
    rcases rnS_no hS with h1 | h1 | h1 | h1
    · simp only at h1
      have hE := hEn fe h1
      repeat' (first | ((first | apply Ba | (apply Bb; (· rfl); (· rfl)) | (apply Bc; (· exact nxE)) | (apply Bd; (· rfl); (· rfl); (· exact nxE))); (· first | exact Ok.sliceTk (row := Fi.row) (m := k) rfl rfl rfl rfl (by omega) | exact Kz rfl rfl (hE) (Ad (Ad (Ad An))) | exact Ok.lenD rfl rfl FL_len | exact Ok.pe)) | ((first | apply Ca | (apply Cb; (· exact nxE))); (· first | exact Ok.e0)) | refine Sx ?_ | (refine Sy (fun h => ?_) (fun h => ?_) <;> try (exfalso; omega; done)) | refine Sz (fun h => ?_) (fun h => ?_))
      all_goals
        refine Ya ?_
        (apply Le.headZ (hs := []) [] rfl)
        all_goals (try dsimp only [srcs])
        (case' hfr => (repeat' (first | refine La ?_ ?_ | exact Lc | refine Lo ?_ | refine ⟨⟨_, rfl, ?_⟩, ?_⟩ | refine Lx ?_)))
        all_goals (first | exact Ld | exact trivial | (rfl))
    · obtain ⟨h1, h2⟩ := h1
      simp only at h1 h2
      have hE := hEy fe h1
      rcases hlast with rfl | ⟨g, hg, hk0, hgt⟩
      · rw [lsT_0] at h2; omega
      have hrow2 : (fs.map Fi.row)[(((k : Nat) : Int) - 1).toNat]? = some [DI g.e, DI g.n, DI g.t] := by
        rw [show (((k : Nat) : Int) - 1).toNat = k - 1 by omega]
        have := row_get (row := Fi.row) hg
        rwa [Int.toNat_natCast] at this
      rw [hgt] at h2
      obtain ⟨ge, gn, gt⟩ := g
      simp only at hrow2 h2 hgt
      repeat' (first | ((first | apply Ba | (apply Bb; (· rfl); (· rfl)) | (apply Bc; (· exact nxE)) | (apply Bd; (· rfl); (· rfl); (· exact nxE))); (· first | exact Ok.sliceTk (row := Fi.row) (m := k) rfl rfl rfl rfl (by omega) | exact Kz rfl rfl (hE) (Ad (Ad (Ad An))) | exact Kz rfl rfl (hTf) (Ad (Ad (Ad An))) | exact Kz rfl rfl (hC) (Ad (Ad An)) | exact Ok.lenD rfl rfl FL_len | exact Ok.pe)) | ((first | apply Ca | (apply Cb; (· exact nxE))); (· first | exact Ok.e0)) | refine Sx ?_ | (refine Sy (fun h => ?_) (fun h => ?_) <;> try (exfalso; omega; done)) | refine Sz (fun h => ?_) (fun h => ?_))
      all_goals
        refine Ya ?_
        (apply Le.headZ (hs := []) [] rfl)
        all_goals (try dsimp only [srcs])
        (case' hfr => (repeat' (first | refine La ?_ ?_ | exact Lc | refine Lo ?_ | refine ⟨⟨_, rfl, ?_⟩, ?_⟩ | refine Lx ?_)))
        all_goals (first | exact Ld | exact trivial | (rfl))
    · obtain ⟨h1, h2, h3⟩ := h1
      simp only [hq] at h1 h2 h3
      subst h3
      have hE := hEy fe h1
      rcases hlast with rfl | ⟨g, hg, hk0, hgt⟩
      ·
        repeat' (first | ((first | apply Ba | (apply Bb; (· rfl); (· rfl)) | (apply Bc; (· exact nxE)) | (apply Bd; (· rfl); (· rfl); (· exact nxE))); (· first | exact Ok.sliceTk (row := Fi.row) (m := 0) rfl rfl rfl rfl (by omega) | exact Kz rfl rfl (hE) (Ad (Ad (Ad An))) | exact Kz rfl rfl (hTf) (Ad (Ad (Ad An))) | exact Kz rfl rfl (hC) (Ad (Ad An)) | exact Kz rfl rfl (hR) (Aa (Ad (Ad An)) (Ad (Ad An))) | exact Ok.lenD rfl rfl FL_len | exact Ok.pe)) | ((first | apply Ca | (apply Cb; (· exact nxE))); (· first | exact Ok.e0)) | refine Sx ?_ | (refine Sy (fun h => ?_) (fun h => ?_) <;> try (exfalso; omega; done)) | refine Sz (fun h => ?_) (fun h => ?_))
        all_goals
          refine Ya ?_
          (apply Le.headZ (hs := []) [] rfl)
          all_goals (try dsimp only [srcs])
          (case' hfr => (repeat' (first | refine La ?_ ?_ | exact Lc | refine Lo ?_ | refine ⟨⟨_, rfl, ?_⟩, ?_⟩ | refine Lx ?_)))
          all_goals (first | exact Ld | exact trivial | (rfl))
      · have hrow2 : (fs.map Fi.row)[(((k : Nat) : Int) - 1).toNat]? = some [DI g.e, DI g.n, DI g.t] := by
          rw [show (((k : Nat) : Int) - 1).toNat = k - 1 by omega]
          have := row_get (row := Fi.row) hg
          rwa [Int.toNat_natCast] at this
        rw [hgt] at h2
        obtain ⟨ge, gn, gt⟩ := g
        simp only at hrow2 h2 hgt
        repeat' (first | ((first | apply Ba | (apply Bb; (· rfl); (· rfl)) | (apply Bc; (· exact nxE)) | (apply Bd; (· rfl); (· rfl); (· exact nxE))); (· first | exact Ok.sliceTk (row := Fi.row) (m := k) rfl rfl rfl rfl (by omega) | exact Kz rfl rfl (hE) (Ad (Ad (Ad An))) | exact Kz rfl rfl (hTf) (Ad (Ad (Ad An))) | exact Kz rfl rfl (hC) (Ad (Ad An)) | exact Kz rfl rfl (hR) (Aa (Ad (Ad An)) (Ad (Ad An))) | exact Ok.lenD rfl rfl FL_len | exact Ok.pe)) | ((first | apply Ca | (apply Cb; (· exact nxE))); (· first | exact Ok.e0)) | refine Sx ?_ | (refine Sy (fun h => ?_) (fun h => ?_) <;> try (exfalso; omega; done)) | refine Sz (fun h => ?_) (fun h => ?_))
        all_goals
          refine Ya ?_
          (apply Le.headZ (hs := []) [] rfl)
          all_goals (try dsimp only [srcs])
          (case' hfr => (repeat' (first | refine La ?_ ?_ | exact Lc | refine Lo ?_ | refine ⟨⟨_, rfl, ?_⟩, ?_⟩ | refine Lx ?_)))
          all_goals (first | exact Ld | exact trivial | (rfl))
    · obtain ⟨h1, h2, h3, h4⟩ := h1
      simp only [hq] at h1 h2 h3 h4
      subst h3
      have hE := hEy fe h1
      rcases hlast with rfl | ⟨g, hg, hk0, hgt⟩
      ·
        repeat' (first | ((first | apply Ba | (apply Bb; (· rfl); (· rfl)) | (apply Bc; (· exact nxE)) | (apply Bd; (· rfl); (· rfl); (· exact nxE))); (· first | exact Ok.sliceTk (row := Fi.row) (m := 0) rfl rfl rfl rfl (by omega) | exact Kz rfl rfl (hE) (Ad (Ad (Ad An))) | exact Kz rfl rfl (hTf) (Ad (Ad (Ad An))) | exact Kz rfl rfl (hC) (Ad (Ad An)) | exact Kz rfl rfl (hR) (Aa (Ad (Ad An)) (Ad (Ad An))) | exact Ok.lenD rfl rfl FL_len | exact Ok.pe)) | ((first | apply Ca | (apply Cb; (· exact nxE))); (· first | exact Ok.e0)) | refine Sx ?_ | (refine Sy (fun h => ?_) (fun h => ?_) <;> try (exfalso; omega; done)) | refine Sz (fun h => ?_) (fun h => ?_))
        all_goals
          refine Ya ?_
          (apply Le.headZ (hs := []) [] rfl)
          all_goals (try dsimp only [srcs])
          (case' hfr => (repeat' (first | refine La ?_ ?_ | exact Lc | refine Lo ?_ | refine ⟨⟨_, rfl, ?_⟩, ?_⟩ | refine Lx ?_)))
          all_goals (first | exact Ld | exact trivial | (rfl))
      · have hrow2 : (fs.map Fi.row)[(((k : Nat) : Int) - 1).toNat]? = some [DI g.e, DI g.n, DI g.t] := by
          rw [show (((k : Nat) : Int) - 1).toNat = k - 1 by omega]
          have := row_get (row := Fi.row) hg
          rwa [Int.toNat_natCast] at this
        rw [hgt] at h2
        obtain ⟨ge, gn, gt⟩ := g
        simp only at hrow2 h2 hgt
        repeat' (first | ((first | apply Ba | (apply Bb; (· rfl); (· rfl)) | (apply Bc; (· exact nxE)) | (apply Bd; (· rfl); (· rfl); (· exact nxE))); (· first | exact Ok.sliceTk (row := Fi.row) (m := k) rfl rfl rfl rfl (by omega) | exact Kz rfl rfl (hE) (Ad (Ad (Ad An))) | exact Kz rfl rfl (hTf) (Ad (Ad (Ad An))) | exact Kz rfl rfl (hC) (Ad (Ad An)) | exact Kz rfl rfl (hR) (Aa (Ad (Ad An)) (Ad (Ad An))) | exact Ok.lenD rfl rfl FL_len | exact Ok.pe)) | ((first | apply Ca | (apply Cb; (· exact nxE))); (· first | exact Ok.e0)) | refine Sx ?_ | (refine Sy (fun h => ?_) (fun h => ?_) <;> try (exfalso; omega; done)) | refine Sz (fun h => ?_) (fun h => ?_))
        all_goals
          refine Ya ?_
          (apply Le.headZ (hs := []) [] rfl)
          all_goals (try dsimp only [srcs])
          (case' hfr => (repeat' (first | refine La ?_ ?_ | exact Lc | refine Lo ?_ | refine ⟨⟨_, rfl, ?_⟩, ?_⟩ | refine Lx ?_)))
          all_goals (first | exact Ld | exact trivial | (rfl))
theorem l14Code_ac [Mode] (ev : Int) (xs : List Pl) (fs : List Fi) (hx : xs.length ≤ 1048576) (hno : NumOk fs) (htm : TmOk fs) (hl : fs.length ≤ 500) : AC Tryz.prog 73 [grD ev xs, FL fs] H0 (I (raC ev xs fs)) H0 := by
  have hG := sIsEventGraph_ac ev xs (by omega)
  by_cases hg : isEG ev xs = true
  · obtain ⟨n, rfl, h1, h2, h3, h4⟩ := isEG_okR hg
    have hR := sIsRun_ac n xs fs hg ⟨h1, h2⟩ h3 h4 hno htm hl
    have e1 : raC n xs fs = if rnB n xs fs = true then 0 else 2 := if_pos hg
    rw [e1]
    rw [hg] at hG
    generalize rnB n xs fs = b at *
    cases b
    all_goals
      refine AC.of_body 0 Tryz.func73 rfl (fun l h => absurd rfl h) (fun C hC => ?_)
      have hD : ∀ l, ¬ C.D0 l := fun l h => (hC l).1 h rfl
      simp only [startFr, Tryz.ntmps73, List.length_cons, List.length_nil, Nat.reduceAdd, Nat.reduceSub, List.replicate_succ, List.replicate_zero, List.cons_append, List.nil_append]
      repeat' (first | ((first | apply Ba | (apply Bb; (· rfl); (· rfl)) | (apply Bc; (· exact nxE)) | (apply Bd; (· rfl); (· rfl); (· exact nxE))); (· first | exact Kz rfl rfl (hG) (Aa (Ad (Ad An)) An) | exact Kz rfl rfl (hR) (Aa (Ad (Ad An)) (Ad An)) | exact Ok.lenD rfl rfl FL_len | exact Ok.pe)) | ((first | apply Ca | (apply Cb; (· exact nxE))); (· first | exact Ok.e0)) | refine Sx ?_ | (refine Sy (fun h => ?_) (fun h => ?_) <;> try (exfalso; omega; done)) | refine Sz (fun h => ?_) (fun h => ?_))
    all_goals
      refine Ya ?_
      (apply Le.headZ (hs := []) [] rfl)
      all_goals (try dsimp only [srcs])
      (case' hfr => (repeat' (first | refine La ?_ ?_ | exact Lc | refine Lo ?_ | refine ⟨⟨_, rfl, ?_⟩, ?_⟩ | refine Lx ?_)))
      all_goals (first | exact Ld | exact trivial | (rfl))
  · have e1 : raC ev xs fs = 1 := if_neg hg
    rw [e1]
    rw [Bool.not_eq_true] at hg
    rw [hg] at hG
    refine AC.of_body 0 Tryz.func73 rfl (fun l h => absurd rfl h) (fun C hC => ?_)
    have hD : ∀ l, ¬ C.D0 l := fun l h => (hC l).1 h rfl
    simp only [startFr, Tryz.ntmps73, List.length_cons, List.length_nil, Nat.reduceAdd, Nat.reduceSub, List.replicate_succ, List.replicate_zero, List.cons_append, List.nil_append]
    repeat' (first | ((first | apply Ba | (apply Bb; (· rfl); (· rfl)) | (apply Bc; (· exact nxE)) | (apply Bd; (· rfl); (· rfl); (· exact nxE))); (· first | exact Kz rfl rfl (hG) (Aa (Ad (Ad An)) An) | exact Ok.lenD rfl rfl FL_len | exact Ok.pe)) | ((first | apply Ca | (apply Cb; (· exact nxE))); (· first | exact Ok.e0)) | refine Sx ?_ | (refine Sy (fun h => ?_) (fun h => ?_) <;> try (exfalso; omega; done)) | refine Sz (fun h => ?_) (fun h => ?_))
    all_goals
      refine Ya ?_
      (apply Le.headZ (hs := []) [] rfl)
      all_goals (try dsimp only [srcs])
      (case' hfr => (repeat' (first | refine La ?_ ?_ | exact Lc | refine Lo ?_ | refine ⟨⟨_, rfl, ?_⟩, ?_⟩ | refine Lx ?_)))
      all_goals (first | exact Ld | exact trivial | (rfl))
set_option maxHeartbeats 4000000 in
theorem sMarkingAfter_ac [Mode] (ev : Int) (xs : List Pl) (fs : List Fi) (hx : xs.length ≤ 1048576) (hno : NumOk fs) (htm : TmOk fs) (hl : fs.length ≤ 500) : AC Tryz.prog 47 [grD ev xs, FL fs] H0 (.tup [IL (raL ev xs fs), I (raC ev xs fs)]) H0 := by
  have hCd := l14Code_ac ev xs fs hx hno htm hl
  by_cases h0 : raC ev xs fs = 0
  case neg =>
    have e2 : raL ev xs fs = [] := if_neg h0
    rw [e2]
    generalize raC ev xs fs = c at *
    refine AC.of_body 0 Tryz.func47 rfl (fun l h => absurd rfl h) (fun C hC => ?_)
    have hD : ∀ l, ¬ C.D0 l := fun l h => (hC l).1 h rfl
    simp only [startFr, Tryz.ntmps47, List.length_cons, List.length_nil, Nat.reduceAdd, Nat.reduceSub, List.replicate_succ, List.replicate_zero, List.cons_append, List.nil_append]
    repeat' (first | ((first | apply Ba | (apply Bb; (· rfl); (· rfl)) | (apply Bc; (· exact nxE)) | (apply Bd; (· rfl); (· rfl); (· exact nxE))); (· first | exact Kz rfl rfl (hCd) (Aa (Ad (Ad An)) (Ad An)) | exact Ok.lenD rfl rfl FL_len | exact Ok.pe)) | ((first | apply Ca | (apply Cb; (· exact nxE))); (· first | exact Ok.e0)) | refine Sx ?_ | (refine Sy (fun h => ?_) (fun h => ?_) <;> try (exfalso; omega; done)) | refine Sz (fun h => ?_) (fun h => ?_))
    all_goals
      refine Yb ?_
      (apply Le.headZ (hs := []) [] rfl)
      all_goals (try dsimp only [srcs])
      (case' hfr => (repeat' (first | refine La ?_ ?_ | exact Lc | refine Lo ?_ | refine ⟨⟨_, rfl, ?_⟩, ?_⟩ | refine Lx ?_)))
      all_goals (first | exact Ld | exact trivial | (rfl))
  have e2 : raL ev xs fs = mkA xs fs := if_pos h0
  have hg : isEG ev xs = true := by
    cases hg : isEG ev xs with
    | true => rfl
    | false => unfold raC at h0; rw [hg] at h0; simp at h0
  obtain ⟨n, rfl, h1, h2, h3, h4⟩ := isEG_okR hg
  rw [e2, h0]
  rw [h0] at hCd
  refine AC.frz (res := .tup [own1 1 (mkA xs fs).length, I 0]) (H' := hp1 (IO (mkA xs fs))) ?_ (ARs.tup (.cons (AR.whole rfl trivial IR_len) (.cons (.dd _) .nil)))
  have hCn := fun e => l14Count_ac fs e (by omega)
  refine AC.of_body 0 Tryz.func47 rfl (fun l h => absurd rfl h) (fun C hC => ?_)
  have hD : ∀ l, ¬ C.D0 l := fun l h => (hC l).1 h rfl
  simp only [startFr, Tryz.ntmps47, List.length_cons, List.length_nil, Nat.reduceAdd, Nat.reduceSub, List.replicate_succ, List.replicate_zero, List.cons_append, List.nil_append]
  repeat' (first | ((first | apply Ba | (apply Bb; (· rfl); (· rfl)) | (apply Bc; (· exact nxE)) | (apply Bd; (· rfl); (· rfl); (· exact nxE))); (· first | exact Kz rfl rfl (hCd) (Aa (Ad (Ad An)) (Ad An)) | exact Ok.lenD rfl rfl FL_len | exact Ok.pe)) | ((first | apply Ca | (apply Cb; (· exact nxE))); (· first | exact Ok.e0)) | refine Sx ?_ | (refine Sy (fun h => ?_) (fun h => ?_) <;> try (exfalso; omega; done)) | refine Sz (fun h => ?_) (fun h => ?_))
  refine AW.loop (X := {k : Nat // k ≤ xs.length}) (fun k => ⟨[Oo, FL fs, Bx 2 0, Oo, Oo, Oo, Oo, .own 1 ⟨1, []⟩ 0 (mkA (xs.take (k.1 : Nat)) fs).length, I (k.1 : Nat), Oo, Oo, Oo, Oo, Oo, Oo, Oo, Oo, Oo, Oo, Oo, Oo, Oo, Oo, Oo, Oo, Oo, Oo, Oo, Oo, Oo, Oo, Oo, Oo, Oo, Oo, Oo, Oo, Oo, Oo, Oo, Oo, Oo, Oo, Oo, Oo], heapL [(⟨0, []⟩, ⟨0, []⟩, ⟨2, [[I n, PL xs]]⟩), (⟨1, []⟩, ⟨1, []⟩, IO (mkA (xs.take k.1) fs))], 900⟩) (fun k => xs.length - k.1) ⟨0, Nat.zero_le _⟩ ?_ (fun k => ?_)
  ·
    (apply Le.headZ [_, _] rfl)
    all_goals (try dsimp only [srcs])
    (case' hfr | hob => (repeat' (first | refine La ?_ ?_ | exact Lc | refine Lo ?_ | refine ⟨⟨_, rfl, ?_⟩, ?_⟩ | refine Lx ?_)))
    all_goals (first | (rfl) | exact Ld)
  obtain ⟨k, hk⟩ := k
  simp only
  by_cases hlt : k < xs.length
  · obtain ⟨p, hp⟩ : ∃ p, xs[k]? = some p := ⟨xs[k], List.getElem?_eq_getElem hlt⟩
    have hrow : (xs.map Pl.row)[((k : Nat) : Int).toNat]? = some [DI p.f, DI p.t, DI p.d, DI p.k] := row_get hp
    have hok := h4 p (List.mem_of_getElem? hp)
    have hC1 := hCn p.f
    have hC2 := hCn p.t
    have hc1 := cnt_le fs p.f
    have hc2 := cnt_le fs p.t
    have hst := mkA_take (fs := fs) hp
    have hln : (mkA (xs.take k) fs).length ≤ 30 := by rw [mkA_len, List.length_take]; omega
    obtain ⟨pf, pt, pd, pk⟩ := p
    unfold okPl at hok
    simp only at hok hrow hC1 hC2 hc1 hc2 hst
    have hol : (IR (mkA (xs.take k) fs)).length = (mkA (xs.take k) fs).length := IR_len
    generalize cnt fs pf = a at *
    generalize cnt fs pt = b at *
    repeat' (first | ((first | apply Ba | (apply Bb; (· rfl); (· rfl)) | (apply Bc; (· exact nxE)) | (apply Bd; (· rfl); (· rfl); (· exact nxE))); (· first | exact Kz rfl rfl (hC1) (Ad (Ad An)) | exact Kz rfl rfl (hC2) (Ad (Ad An)) | exact Ok.lenD rfl rfl FL_len | exact Ok.append1 (row := [DI (pk + (a : Int) - (b : Int))]) rfl rfl (by decide) rfl rfl hol rfl rfl rfl (by rfl) (by omega) (by omega) | exact Ok.pe)) | ((first | apply Ca | (apply Cb; (· exact nxE))); (· first | exact Ok.append1 (row := [DI (pk + (a : Int) - (b : Int))]) rfl rfl (by decide) rfl rfl hol rfl rfl rfl (by rfl) (by omega) (by omega) | exact Ok.e0)) | refine Sx ?_ | (refine Sy (fun h => ?_) (fun h => ?_) <;> try (exfalso; omega; done)) | refine Sz (fun h => ?_) (fun h => ?_))
    refine ⟨⟨k + 1, by omega⟩, ?_, by simp only; omega⟩
    (apply Le.headZ [_, _] rfl)
    all_goals (try dsimp only [srcs])
    (case' hfr | hob => (repeat' (first | refine La ?_ ?_ | exact Lc | refine Lo ?_ | refine ⟨⟨_, rfl, ?_⟩, ?_⟩ | refine Lx ?_)))
    all_goals (first | ((first | (rw [hst, IR_app]; done) | (rw [hst]; simp; done))) | exact Ld)
  · obtain rfl : k = xs.length := by omega
    rw [List.take_length]
    repeat' (first | ((first | apply Ba | (apply Bb; (· rfl); (· rfl)) | (apply Bc; (· exact nxE)) | (apply Bd; (· rfl); (· rfl); (· exact nxE))); (· first | exact Ok.lenD rfl rfl FL_len | exact Ok.pe)) | ((first | apply Ca | (apply Cb; (· exact nxE))); (· first | exact Ok.e0)) | refine Sx ?_ | (refine Sy (fun h => ?_) (fun h => ?_) <;> try (exfalso; omega; done)) | refine Sz (fun h => ?_) (fun h => ?_))
    all_goals
      refine Yb ?_
      (apply Le.head [(⟨0, []⟩, _, _)])
      (case' hfr | hob => (repeat' (first | refine La ?_ ?_ | exact Lc | refine Lo ?_ | refine ⟨⟨_, rfl, ?_⟩, ?_⟩ | refine Lx ?_)))
      all_goals (first | exact Ld | (rfl))
end Go.Proofs.YtofakjlamoigcaaGreatDoor
end

section
namespace Go.Proofs.YtofakjlamoigcaaGreatDoor
set_option linter.unusedSimpArgs false
set_option linter.unusedVariables false
open Go Go.RowKit
attribute [local irreducible] AL AD AW OpOk Le AC thenQ blockQ EndQ

theorem spl_ge [Mode] {c : UInt8} {l : List UInt8} : 1 ≤ (spl c l).length := by
  have := spl_ne (c := c) (l := l)
  exact List.length_pos_iff.2 this
/-- What the reference finds at the rest of a text. -/
theorem rec_rest [Mode] {s r : List UInt8} {fs : List Fi} (h : RecOf s fs r) (hlt : fs.length < 500) {a b x y z : List UInt8} {n0 n1 n2 : Int} (hr : r = a ++ 10 :: b) (hw : spl 32 a = [x, y, z]) (hx : sgN x = (n0, true)) (hy : sgN y = (n1, true)) (hz : sgN z = (n2, true))
    (n : Int) (hf : wrF ⟨n0, n, n1⟩ = true) : n2 ≠ nxI (chA 1 fs) ⟨n0, n, n1⟩ := by
  intro he
  have hbd := nxI_bd (chA_bd (c := 1) (by decide) (by decide) h.wr).1 hf
  obtain ⟨⟨h2, h3⟩, h4, h5⟩ := wrF_iff.1 hf
  simp only at h2 h3 h4 h5
  have key : ∀ {w : List UInt8} {m : Int}, sgN w = (m, true) → 0 ≤ m → w = dec m.toNat := by
    intro w m hw hm
    rcases sgN_some (by rw [hw]) with ⟨q, _, e1, e2⟩ | e
    · rw [hw] at e2
      simp only at e2
      rw [e2, Int.toNat_natCast]; exact e1
    · rw [hw] at e; simp only at e; omega
  have ex := key hx h2
  have ey := key hy h4
  have ez := key hz (by omega)
  refine h.stop hlt ⟨n0, n, n1⟩ hf b ?_
  rw [hr, spl_three hw, ex, ey, ez, he]
  simp [trN, trL]
set_option maxRecDepth 4000 in
set_option maxHeartbeats 8000000 in
theorem l28Recover_ac [Mode] (s : List UInt8) (fs : List Fi) (r : List UInt8) (h : RecOf s fs r) (hs : s.length ≤ 2000000) : AC Tryz.prog 44 [Str s] H0 (.tup [own1 3 fs.length, I ((trT 1 fs).length : Nat)]) (hp1 (FO fs)) := by
  have hSp := split_frz s 10 (by omega)
  have hln : spl 10 s = lnS 1 fs ++ spl 10 r := by rw [h.txt, spl_trT]
  rw [hln] at hSp
  have hlt0 : (stR (lnS 1 fs ++ spl 10 r)).length = fs.length + (spl 10 r).length := by rw [stR_len, List.length_append, lnS_len]
  have hsp1 := spl_ge (c := 10) (l := r)
  have hfl := h.len
  have hspl : (spl 10 r).length ≤ 2000001 := by
    have h1 : (spl 10 s).length = fs.length + (spl 10 r).length := by rw [hln, List.length_append, lnS_len]
    have h2 := stS_len 10 s (s.length + 1)
    rw [stS_end] at h2
    omega
  have hlenS : (trT 1 fs).length + r.length = s.length := by rw [h.txt, List.length_append]
  refine AC.of_body 0 Tryz.func44 rfl (fun l h => absurd rfl h) (fun C hC => ?_)
  have hD : ∀ l, ¬ C.D0 l := fun l h => (hC l).1 h rfl
  simp only [startFr, Tryz.ntmps44, List.length_cons, List.length_nil, Nat.reduceAdd, Nat.reduceSub, List.replicate_succ, List.replicate_zero, List.cons_append, List.nil_append]
  repeat' (first | ((first | apply Ba | (apply Bb; (· rfl); (· rfl)) | (apply Bc; (· exact nxE)) | (apply Bd; (· rfl); (· rfl); (· exact nxE))); (· first | exact Kz rfl rfl (hSp) (Ad (Ad An)) | exact Ok.seqS rfl rfl rfl | exact Ok.sneS rfl rfl rfl | exact Ok.slen rfl rfl | exact OpOk.indexD rfl rfl rfl (by decide) rfl (by exact Nat.zero_lt_one) | exact Ok.pe)) | ((first | apply Ca | (apply Cb; (· exact nxE))); (· first | exact Ok.e0)) | refine Sx ?_ | (refine Sy (fun h => ?_) (fun h => ?_) <;> try (exfalso; omega; done)) | refine Sz (fun h => ?_) (fun h => ?_))
  refine AW.loop (X := {k : Nat // k ≤ fs.length}) (fun k => ⟨[Oo, Oo, Oo, Oo, SL (lnS 1 fs ++ spl 10 r), I (chA 1 (fs.take (k.1 : Nat))), I ((trT 1 (fs.take (k.1 : Nat))).length : Nat), .own 3 ⟨0, []⟩ 0 (fs.take (k.1 : Nat)).length, I (k.1 : Nat), Oo, Oo, Oo, Oo, Oo, Oo, Oo, Oo, Oo, Oo, Oo, Oo, Oo, Oo, Oo, Oo, Oo, Oo, Oo, Oo, Oo, Oo, Oo, Oo, Oo, Oo, Oo, Oo, Oo, Oo, Oo, Oo, Oo, Oo, Oo, Oo, Oo, Oo, Oo, Oo, Oo, Oo, Oo, Oo, Oo, Oo, Oo, Oo, Oo, Oo, Oo, Oo, Oo, Oo, Oo, Oo, Oo, Oo, Oo, Oo, Oo, Oo, Oo, Oo, Oo, Oo, Oo, Oo, Oo, Oo, Oo, Oo, Oo, Oo, Oo, Oo], heapL [(⟨0, []⟩, ⟨0, []⟩, FO (fs.take k.1))], 900⟩) (fun k => fs.length - k.1) ⟨0, Nat.zero_le _⟩ ?_ (fun k => ?_)
  ·
    (apply Le.headZ [_] rfl)
    all_goals (try dsimp only [srcs])
    (case' hfr | hob => (repeat' (first | refine La ?_ ?_ | exact Lc | refine Lo ?_ | refine ⟨⟨_, rfl, ?_⟩, ?_⟩ | refine Lx ?_)))
    all_goals (first | (rfl) | exact Ld)
  obtain ⟨k, hk⟩ := k
  simp only
  have hTL : (fs.take k).length = k := by rw [List.length_take]; omega
  by_cases hlt : k < fs.length
  · obtain ⟨f, hf⟩ : ∃ f, fs[k]? = some f := ⟨fs[k], List.getElem?_eq_getElem hlt⟩
    have hfw := List.all_eq_true.1 h.wr f (List.mem_of_getElem? hf)
    have hwk := wrA_all (k := k) h.wr
    have hbd := chA_bd (c := 1) (by decide) (by decide) hwk
    have hnb := nxI_bd hbd.1 hfw
    obtain ⟨⟨h2, h3⟩, h4, h5⟩ := wrF_iff.1 hfw
    have htk : fs.take (k + 1) = fs.take k ++ [f] := by rw [List.take_add_one, hf]; rfl
    have hs1 : (trT 1 (fs.take (k + 1))).length = (trT 1 (fs.take k)).length + ((trL (chA 1 (fs.take k)) f).length + 1) := by rw [htk, trT_snoc, List.length_append]; simp [trN]
    have hs2 : chA 1 (fs.take (k + 1)) = nxI (chA 1 (fs.take k)) f := by rw [htk, chA_snoc]
    have hT := trT_len (c := 1) (by decide) hwk
    have hNl := trN_len hbd.1 hfw
    have hLl : (trL (chA 1 (fs.take k)) f).length ≤ 60 := by simp only [trN, List.length_append, List.length_cons, List.length_nil] at hNl; omega
    have hget : (lnS 1 fs ++ spl 10 r)[k]? = some (trL (chA 1 (fs.take k)) f) := by rw [List.getElem?_append_left (by rw [lnS_len]; exact hlt)]; exact lnS_get hf
    have hrow := stR_getI hget
    have hW := split_frz (trL (chA 1 (fs.take k)) f) 32 (by omega)
    rw [spl_trL] at hW
    have hN := num3 f.e.toNat f.t.toNat (nxI (chA 1 (fs.take k)) f).toNat (by omega) (by omega) (by omega)
    rw [Int.toNat_of_nonneg h2, Int.toNat_of_nonneg h4, Int.toNat_of_nonneg hnb.1] at hN
    have hC := l14Count_ac (fs.take k) f.e (by omega)
    have hcl := cnt_le (fs.take k) f.e
    have hfn := h.num k f hf
    have hWr := l28Writable_ac f
    rw [hfw] at hWr
    have hNx := l28Next_ac (chA 1 (fs.take k)) f hbd.1 hbd.2 hfw
    have hol : ((fs.take k).map Fi.row).length = (fs.take k).length := FL_len
    generalize hch : chA 1 (fs.take k) = ch at *
    generalize trL ch f = l0 at *
    generalize nxI ch f = nx at *
    obtain ⟨fe, fn, ft⟩ := f
    simp only at *
    subst hfn
    have hCn := hC
    clear hC
    generalize cnt (fs.take k) fe = q at *
    repeat' (first | ((first | apply Ba | (apply Bb; (· rfl); (· rfl)) | (apply Bc; (· exact nxE)) | (apply Bd; (· rfl); (· rfl); (· exact nxE))); (· first | exact Ok.lenD rfl rfl hlt0 | exact Kz rfl rfl (hW) (Ad (Ad An)) | exact Kz rfl rfl (hN) (Ad An) | exact Ez rfl rfl (hCn) (Sw (Sd Sn)) | exact Kz rfl rfl (hWr) (Aa (Ad (Ad (Ad An))) An) | exact Kz rfl rfl (hNx) (Ad (Aa (Ad (Ad (Ad An))) An)) | exact Ok.seqS rfl rfl rfl | exact Ok.sneS rfl rfl rfl | exact Ok.slen rfl rfl | exact OpOk.indexD rfl rfl rfl (by decide) rfl (by exact Nat.zero_lt_one) | exact Ok.append1 (row := Fi.row ⟨fe, (q : Int) + 1, ft⟩) rfl rfl (by decide) rfl rfl hol rfl rfl rfl (by rfl) (by omega) (by omega) | exact Ok.pe)) | ((first | apply Ca | (apply Cb; (· exact nxE))); (· first | exact Ok.append1 (row := Fi.row ⟨fe, (q : Int) + 1, ft⟩) rfl rfl (by decide) rfl rfl hol rfl rfl rfl (by rfl) (by omega) (by omega) | exact Ok.e0)) | refine Sx ?_ | (refine Sy (fun h => ?_) (fun h => ?_) <;> try (exfalso; omega; done)) | refine Sz (fun h => ?_) (fun h => ?_))
    refine ⟨⟨k + 1, by omega⟩, ?_, by simp only; omega⟩
    (apply Le.headZ [_] rfl)
    all_goals (try dsimp only [srcs])
    (case' hfr | hob => (repeat' (first | refine La ?_ ?_ | exact Lc | refine Lo ?_ | refine ⟨⟨_, rfl, ?_⟩, ?_⟩ | refine Lx ?_)))
    all_goals (first | ((first | (rw [hs2]; done) | (rw [hs1]; omega) | (rw [htk, List.length_append, List.length_singleton]; done) | (rw [htk, List.map_append]; rfl) | (rw [htk]; simp; done))) | exact Ld)
  · obtain rfl : k = fs.length := by omega
    rw [List.take_length] at hTL ⊢
    have hT := trT_len (c := 1) (by decide) h.wr
    have hbd := chA_bd (c := 1) (by decide) (by decide) h.wr
    have hol : (fs.map Fi.row).length = fs.length := FL_len
    by_cases h500 : fs.length < 500
    case neg =>
      repeat' (first | ((first | apply Ba | (apply Bb; (· rfl); (· rfl)) | (apply Bc; (· exact nxE)) | (apply Bd; (· rfl); (· rfl); (· exact nxE))); (· first | exact Ok.lenD rfl rfl hlt0 | exact Ok.seqS rfl rfl rfl | exact Ok.sneS rfl rfl rfl | exact Ok.slen rfl rfl | exact OpOk.indexD rfl rfl rfl (by decide) rfl (by exact Nat.zero_lt_one) | exact Ok.pe)) | ((first | apply Ca | (apply Cb; (· exact nxE))); (· first | exact Ok.e0)) | refine Sx ?_ | (refine Sy (fun h => ?_) (fun h => ?_) <;> try (exfalso; omega; done)) | refine Sz (fun h => ?_) (fun h => ?_))
      all_goals
        refine Yb ?_
        (apply Le.head [(⟨0, []⟩, _, _)])
        (case' hfr | hob => (repeat' (first | refine La ?_ ?_ | exact Lc | refine Lo ?_ | refine ⟨⟨_, rfl, ?_⟩, ?_⟩ | refine Lx ?_)))
        all_goals (first | exact Ld | (rfl))
    rcases first_byte 10 r with h1 | ⟨a, b, rfl, h1⟩
    · have hl1 : (spl 10 r).length = 1 := by rw [spl_no h1]; rfl
      repeat' (first | ((first | apply Ba | (apply Bb; (· rfl); (· rfl)) | (apply Bc; (· exact nxE)) | (apply Bd; (· rfl); (· rfl); (· exact nxE))); (· first | exact Ok.lenD rfl rfl hlt0 | exact Ok.seqS rfl rfl rfl | exact Ok.sneS rfl rfl rfl | exact Ok.slen rfl rfl | exact OpOk.indexD rfl rfl rfl (by decide) rfl (by exact Nat.zero_lt_one) | exact Ok.pe)) | ((first | apply Ca | (apply Cb; (· exact nxE))); (· first | exact Ok.e0)) | refine Sx ?_ | (refine Sy (fun h => ?_) (fun h => ?_) <;> try (exfalso; omega; done)) | refine Sz (fun h => ?_) (fun h => ?_))
      all_goals
        refine Yb ?_
        (apply Le.head [(⟨0, []⟩, _, _)])
        (case' hfr | hob => (repeat' (first | refine La ?_ ?_ | exact Lc | refine Lo ?_ | refine ⟨⟨_, rfl, ?_⟩, ?_⟩ | refine Lx ?_)))
        all_goals (first | exact Ld | (rfl))
    have hal : a.length ≤ 1999999 := by simp only [List.length_append, List.length_cons] at hlenS; omega
    have hget : (lnS 1 fs ++ spl 10 (a ++ 10 :: b))[fs.length]? = some a := by
      rw [List.getElem?_append_right (by rw [lnS_len]; exact Nat.le_refl _), lnS_len, Nat.sub_self, spl_at h1]; rfl
    have hrow := stR_getI hget
    have hl2 : (spl 10 (a ++ 10 :: b)).length = 1 + (spl 10 b).length := by rw [spl_at h1, List.length_cons]; omega
    have hb1 := spl_ge (c := 10) (l := b)
    have hW := split_frz a 32 (by omega)
    have hwl : (spl 32 a).length ≤ 2000000 := by
      have h2 := stS_len 32 a (a.length + 1)
      rw [stS_end] at h2
      omega
    have hwe : ∀ w ∈ spl 32 a, w.length ≤ 100000000 := fun w hw => by have := spl_mem_len hw; omega
    generalize hws : spl 32 a = ws at *
    generalize spl 10 (a ++ 10 :: b) = ls at *
    rcases words_or ws with hall | ⟨j, v, hj1, hj2, hj3⟩
    case inr =>
      have hN := l01Numbers_no ws j v (by omega) hwe hj1 hj2 hj3
      repeat' (first | ((first | apply Ba | (apply Bb; (· rfl); (· rfl)) | (apply Bc; (· exact nxE)) | (apply Bd; (· rfl); (· rfl); (· exact nxE))); (· first | exact Ok.lenD rfl rfl hlt0 | exact Kz rfl rfl (hW) (Ad (Ad An)) | exact Kz rfl rfl (hN) (Ad An) | exact Ok.seqS rfl rfl rfl | exact Ok.sneS rfl rfl rfl | exact Ok.slen rfl rfl | exact OpOk.indexD rfl rfl rfl (by decide) rfl (by exact Nat.zero_lt_one) | exact Ok.pe)) | ((first | apply Ca | (apply Cb; (· exact nxE))); (· first | exact Ok.e0)) | refine Sx ?_ | (refine Sy (fun h => ?_) (fun h => ?_) <;> try (exfalso; omega; done)) | refine Sz (fun h => ?_) (fun h => ?_))
      all_goals
        refine Yb ?_
        (apply Le.head [(⟨0, []⟩, _, _)])
        (case' hfr | hob => (repeat' (first | refine La ?_ ?_ | exact Lc | refine Lo ?_ | refine ⟨⟨_, rfl, ?_⟩, ?_⟩ | refine Lx ?_)))
        all_goals (first | exact Ld | (rfl))
    have hN := numbers_frz (by omega) hwe hall rfl
    have hnl : (IR (ws.map fun w => (sgN w).1)).length = ws.length := by rw [IR_len, List.length_map]
    by_cases h3 : ws.length = 3
    case neg =>
      repeat' (first | ((first | apply Ba | (apply Bb; (· rfl); (· rfl)) | (apply Bc; (· exact nxE)) | (apply Bd; (· rfl); (· rfl); (· exact nxE))); (· first | exact Ok.lenD rfl rfl hlt0 | exact Ok.lenD rfl rfl hnl | exact Kz rfl rfl (hW) (Ad (Ad An)) | exact Kz rfl rfl (hN) (Ad An) | exact Ok.seqS rfl rfl rfl | exact Ok.sneS rfl rfl rfl | exact Ok.slen rfl rfl | exact OpOk.indexD rfl rfl rfl (by decide) rfl (by exact Nat.zero_lt_one) | exact Ok.pe)) | ((first | apply Ca | (apply Cb; (· exact nxE))); (· first | exact Ok.e0)) | refine Sx ?_ | (refine Sy (fun h => ?_) (fun h => ?_) <;> try (exfalso; omega; done)) | refine Sz (fun h => ?_) (fun h => ?_))
      all_goals
        refine Yb ?_
        (apply Le.head [(⟨0, []⟩, _, _)])
        (case' hfr | hob => (repeat' (first | refine La ?_ ?_ | exact Lc | refine Lo ?_ | refine ⟨⟨_, rfl, ?_⟩, ?_⟩ | refine Lx ?_)))
        all_goals (first | exact Ld | (rfl))
    match ws, h3 with
    | [x, y, z], _ =>
      obtain ⟨n0, hx⟩ : ∃ n0, sgN x = (n0, true) := ⟨(sgN x).1, by rw [← hall x (by simp)]⟩
      obtain ⟨n1, hy⟩ : ∃ n1, sgN y = (n1, true) := ⟨(sgN y).1, by rw [← hall y (by simp)]⟩
      obtain ⟨n2, hz⟩ : ∃ n2, sgN z = (n2, true) := ⟨(sgN z).1, by rw [← hall z (by simp)]⟩
      simp only [List.map_cons, List.map_nil, hx, hy, hz] at hN
      have hCn := l14Count_ac fs n0 (by omega)
      have hcl := cnt_le fs n0
      have hRest := fun n => rec_rest h h500 (a := a) (b := b) rfl hws hx hy hz n
      generalize cnt fs n0 = q at *
      have hWr := l28Writable_ac ⟨n0, (q : Int) + 1, n1⟩
      cases hfw : wrF ⟨n0, (q : Int) + 1, n1⟩ with
      | false =>
        rw [hfw] at hWr
        clear hRest
        repeat' (first | ((first | apply Ba | (apply Bb; (· rfl); (· rfl)) | (apply Bc; (· exact nxE)) | (apply Bd; (· rfl); (· rfl); (· exact nxE))); (· first | exact Ok.lenD rfl rfl hlt0 | exact Kz rfl rfl (hW) (Ad (Ad An)) | exact Kz rfl rfl (hN) (Ad An) | exact Ez rfl rfl (hCn) (Sw (Sd Sn)) | exact Kz rfl rfl (hWr) (Aa (Ad (Ad (Ad An))) An) | exact Ok.seqS rfl rfl rfl | exact Ok.sneS rfl rfl rfl | exact Ok.slen rfl rfl | exact OpOk.indexD rfl rfl rfl (by decide) rfl (by exact Nat.zero_lt_one) | exact Ok.pe)) | ((first | apply Ca | (apply Cb; (· exact nxE))); (· first | exact Ok.e0)) | refine Sx ?_ | (refine Sy (fun h => ?_) (fun h => ?_) <;> try (exfalso; omega; done)) | refine Sz (fun h => ?_) (fun h => ?_))
        all_goals
          refine Yb ?_
          (apply Le.head [(⟨0, []⟩, _, _)])
          (case' hfr | hob => (repeat' (first | refine La ?_ ?_ | exact Lc | refine Lo ?_ | refine ⟨⟨_, rfl, ?_⟩, ?_⟩ | refine Lx ?_)))
          all_goals (first | exact Ld | (rfl))
      | true =>
        rw [hfw] at hWr
        have hNx := l28Next_ac (chA 1 fs) ⟨n0, (q : Int) + 1, n1⟩ hbd.1 hbd.2 hfw
        have hne := hRest _ hfw
        clear hRest
        generalize nxI (chA 1 fs) ⟨n0, (q : Int) + 1, n1⟩ = nx at *
        generalize chA 1 fs = ch at *
        repeat' (first | ((first | apply Ba | (apply Bb; (· rfl); (· rfl)) | (apply Bc; (· exact nxE)) | (apply Bd; (· rfl); (· rfl); (· exact nxE))); (· first | exact Ok.lenD rfl rfl hlt0 | exact Kz rfl rfl (hW) (Ad (Ad An)) | exact Kz rfl rfl (hN) (Ad An) | exact Ez rfl rfl (hCn) (Sw (Sd Sn)) | exact Kz rfl rfl (hWr) (Aa (Ad (Ad (Ad An))) An) | exact Kz rfl rfl (hNx) (Ad (Aa (Ad (Ad (Ad An))) An)) | exact Ok.seqS rfl rfl rfl | exact Ok.sneS rfl rfl rfl | exact Ok.slen rfl rfl | exact OpOk.indexD rfl rfl rfl (by decide) rfl (by exact Nat.zero_lt_one) | exact Ok.pe)) | ((first | apply Ca | (apply Cb; (· exact nxE))); (· first | exact Ok.e0)) | refine Sx ?_ | (refine Sy (fun h => ?_) (fun h => ?_) <;> try (exfalso; omega; done)) | refine Sz (fun h => ?_) (fun h => ?_))
        all_goals
          refine Yb ?_
          (apply Le.head [(⟨0, []⟩, _, _)])
          (case' hfr | hob => (repeat' (first | refine La ?_ ?_ | exact Lc | refine Lo ?_ | refine ⟨⟨_, rfl, ?_⟩, ?_⟩ | refine Lx ?_)))
          all_goals (first | exact Ld | (rfl))
end Go.Proofs.YtofakjlamoigcaaGreatDoor
end

section
namespace Go.Proofs.YtofakjlamoigcaaGreatDoor
set_option linter.unusedSimpArgs false
set_option linter.unusedVariables false
open Go Go.RowKit
attribute [local irreducible] AL AD AW OpOk Le AC thenQ blockQ EndQ

section
variable {P : Program} {o : Oper} {A : Operand → AV} {H : Heap} {new : Nat} {t t' : TypeId} {x y : Operand} {a b : List UInt8}
theorem Ok.sneNe [Mode] (ho : o.op = .binOp .neq t x y t') (hx : A x = Str a) (hy : A y = Str b) (h : a ≠ b) : OpOk P o A [] H new (Bo true) [] := by
  have := Ok.sneS (P := P) (H := H) (new := new) ho hx hy
  rwa [decide_eq_true h] at this
end
/-- The counts of all events. -/
def cnts (fs : List Fi) : List Int := (List.range 10).map fun e : Nat => ((cnt fs (e : Int) : Nat) : Int)
theorem cnts_len [Mode] (fs : List Fi) : (cnts fs).length = 10 := by simp [cnts]
theorem cnts_get [Mode] {fs : List Fi} {e : Nat} (h : e < 10) : (cnts fs)[e]? = some (cnt fs e : Int) := by simp [cnts, h]
theorem cnts_set [Mode] {fs : List Fi} {e : Nat} {n t : Int} (h : e < 10) : (cnts fs).set e ((cnt fs e : Int) + 1) = cnts (fs ++ [⟨e, n, t⟩]) := by
  apply List.ext_getElem?
  intro j
  rw [List.getElem?_set]
  by_cases hj : e = j
  · subst hj
    rw [if_pos rfl, if_pos (by rw [cnts_len]; exact h), cnts_get h, cnt_snoc]
    simp
  · rw [if_neg hj]
    by_cases hlt : j < 10
    · rw [cnts_get hlt, cnts_get hlt, cnt_snoc, if_neg (by simp; omega)]; rfl
    · rw [List.getElem?_eq_none (by rw [cnts_len]; omega), List.getElem?_eq_none (by rw [cnts_len]; omega)]
theorem IO_get [Mode] {xs : List Int} {e : Nat} {v : Int} (h : xs[e]? = some v) : (IO xs).rows[0 + ((e : Nat) : Int).toNat]? = some [I v] := by
  rw [Nat.zero_add, Int.toNat_natCast]
  simp [dobj, IR, h]
theorem IO_set [Mode] {xs ys : List Int} {e : Nat} {v : Int} (h : xs.set e v = ys) : (IO xs).rows.set (0 + ((e : Nat) : Int).toNat) [I v] = (IO ys).rows := by
  rw [Nat.zero_add, Int.toNat_natCast, ← h]
  simp [dobj, IR, List.map_set]
theorem isplit_frz [Mode] [HasLen] (l : List UInt8) (c : UInt8) (hl : l.length ≤ 100000000) : AC Tryz.prog 66 [Str l, Str [c]] H0 (SL (spl c l)) H0 :=
  (iSplit_ac l c hl).frz (AR.whole rfl trivial (stR_len _))
set_option maxRecDepth 4000 in
set_option maxHeartbeats 8000000 in
theorem recoverTrace_ac [Mode] [HasTab] [HasErr] [HasLen] (s : List UInt8) (fs : List Fi) (r : List UInt8) (h : RecOf s fs r) (hs : s.length ≤ 2000000) : AC Tryz.prog 43 [Str s] H0 (.tup [own1 3 fs.length, I ((trT 1 fs).length : Nat)]) (hp1 (FO fs)) := by
  have hfl := h.len
  have hlenS : (trT 1 fs).length + r.length = s.length := by rw [h.txt, List.length_append]
  refine AC.of_body 0 Tryz.func43 rfl (fun l h => absurd rfl h) (fun C hC => ?_)
  have hD : ∀ l, ¬ C.D0 l := fun l h => (hC l).1 h rfl
  simp only [startFr, Tryz.ntmps43, List.length_cons, List.length_nil, Nat.reduceAdd, Nat.reduceSub, List.replicate_succ, List.replicate_zero, List.cons_append, List.nil_append]
  repeat' (first | ((first | apply Ba | (apply Bb; (· rfl); (· rfl)) | (apply Bc; (· exact nxE)) | (apply Bd; (· rfl); (· rfl); (· exact nxE))); (· first | exact Ok.sneSame rfl rfl rfl | exact Ok.seqS rfl rfl rfl | exact Ok.slen rfl rfl | exact OpOk.indexD rfl rfl rfl (by decide) rfl (by exact Nat.zero_lt_one) | exact Ok.makeN (n := 10) rfl rfl rfl (by decide) (by decide) | exact Ok.pe)) | ((first | apply Ca | (apply Cb; (· exact nxE))); (· first | exact Ok.makeN (n := 10) rfl rfl rfl (by decide) (by decide) | exact Ok.e0)) | refine Sx ?_ | (refine Sy (fun h => ?_) (fun h => ?_) <;> try (exfalso; omega; done)) | refine Sz (fun h => ?_) (fun h => ?_))
  refine AW.loop (X := {k : Nat // k ≤ fs.length}) (fun k => ⟨[Str s, Oo, Oo, Oo, .own 3 ⟨0, []⟩ 0 (fs.take (k.1 : Nat)).length, .own 1 ⟨1, []⟩ 0 10, I (chA 1 (fs.take (k.1 : Nat))), I ((trT 1 (fs.take (k.1 : Nat))).length : Nat), Oo, Oo, Oo, Oo, Oo, Oo, Oo, Oo, Oo, Oo, Oo, Oo, Oo, Oo, Oo, Oo, Oo, Oo, Oo, Oo, Oo, Oo, Oo, Oo, Oo, Oo, Oo, Oo, Oo, Oo, Oo, Oo, Oo, Oo, Oo, Oo, Oo, Oo, Oo, Oo, Oo, Oo, Oo, Oo, Oo, Oo, Oo, Oo, Oo, Oo, Oo, Oo, Oo, Oo, Oo, Oo, Oo, Oo, Oo, Oo, Oo, Oo, Oo, Oo, Oo, Oo, Oo, Oo, Oo, Oo, Oo, Oo, Oo, Oo, Oo, Oo, Oo, Oo, Oo, Oo, Oo, Oo, Oo, Oo, Oo, Oo, Oo, Oo, Oo, Oo, Oo, Oo, Oo], heapL [(⟨0, []⟩, ⟨0, []⟩, FO (fs.take k.1)), (⟨1, []⟩, ⟨1, []⟩, IO (cnts (fs.take k.1)))], 900⟩) (fun k => fs.length - k.1) ⟨0, Nat.zero_le _⟩ ?_ (fun k => ?_)
  ·
    refine (Le.nil 4 3 rfl).trans ?_
    simp only [List.set_cons_succ, List.set_cons_zero]
    (apply Le.headZ [_, _] rfl)
    all_goals (try dsimp only [srcs])
    (case' hfr | hob => (repeat' (first | refine La ?_ ?_ | exact Lc | refine Lo ?_ | refine ⟨⟨_, rfl, ?_⟩, ?_⟩ | refine Lx ?_)))
    all_goals (first | (rfl) | exact Ld)
  obtain ⟨k, hk⟩ := k
  simp only
  have hTL : (fs.take k).length = k := by rw [List.length_take]; omega
  by_cases hlt : k < fs.length
  · obtain ⟨f, hf⟩ : ∃ f, fs[k]? = some f := ⟨fs[k], List.getElem?_eq_getElem hlt⟩
    have hfw := List.all_eq_true.1 h.wr f (List.mem_of_getElem? hf)
    have hwk := wrA_all (k := k) h.wr
    have hbd := chA_bd (c := 1) (by decide) (by decide) hwk
    have hnb := nxI_bd hbd.1 hfw
    obtain ⟨⟨h2, h3⟩, h4, h5⟩ := wrF_iff.1 hfw
    have htk : fs.take (k + 1) = fs.take k ++ [f] := by rw [List.take_add_one, hf]; rfl
    have hs1 : (trT 1 (fs.take (k + 1))).length = (trT 1 (fs.take k)).length + (trN (chA 1 (fs.take k)) f).length := by rw [htk, trT_snoc, List.length_append]
    have hs2 : chA 1 (fs.take (k + 1)) = nxI (chA 1 (fs.take k)) f := by rw [htk, chA_snoc]
    have hT := trT_len (c := 1) (by decide) hwk
    have hNl := trN_len hbd.1 hfw
    have hrest : s.drop (trT 1 (fs.take k)).length = trL (chA 1 (fs.take k)) f ++ 10 :: (trT (nxI (chA 1 (fs.take k)) f) (fs.drop (k + 1)) ++ r) := by
      have hle : (trT 1 (fs.take k)).length ≤ (trT 1 fs).length := by
        have := trT_drop (c := 1) (fs := fs) (k := k)
        have h9 := congrArg List.length this
        have hdr : fs.drop k = f :: fs.drop (k + 1) := by obtain ⟨hk', rfl⟩ := List.getElem?_eq_some_iff.1 hf; exact List.drop_eq_getElem_cons hk'
        rw [hdr, trT, List.length_drop, List.length_append, trN, List.length_append, List.length_singleton] at h9
        omega
      have hdr : fs.drop k = f :: fs.drop (k + 1) := by obtain ⟨hk', rfl⟩ := List.getElem?_eq_some_iff.1 hf; exact List.drop_eq_getElem_cons hk'
      rw [h.txt, List.drop_append_of_le_length hle, trT_drop, hdr, trT, trN]
      simp
    have hsl : (trT 1 (fs.take k)).length ≤ s.length := by
      have h9 := congrArg List.length hrest
      rw [List.length_drop, List.length_append, List.length_cons] at h9
      omega
    have hC := cut_ac (s.drop (trT 1 (fs.take k)).length) [10] (by rw [List.length_drop]; omega)
    rw [show Lib.cut (s.drop (trT 1 (fs.take k)).length) [10] = (trL (chA 1 (fs.take k)) f, trT (nxI (chA 1 (fs.take k)) f) (fs.drop (k + 1)) ++ r, true) from by rw [hrest, cut_at (trL_no10 _ _)]] at hC
    have hW := isplit_frz (trL (chA 1 (fs.take k)) f) 32 (by simp only [trN, List.length_append, List.length_cons, List.length_nil] at hNl; omega)
    rw [spl_trL] at hW
    have hR1 := readNumber_ac (dec f.e.toNat) (by have := dec_len f.e.toNat (by omega); omega)
    have hR2 := readNumber_ac (dec f.t.toNat) (by have := dec_len f.t.toNat (by omega); omega)
    rw [rdN_dec (by omega), Int.toNat_of_nonneg h2] at hR1
    rw [rdN_dec (by omega), Int.toNat_of_nonneg h4] at hR2
    have hIW := isWritable_ac [⟨f.e, 0, f.t⟩] (by simp)
    have hwr1 : wrA [⟨f.e, 0, f.t⟩] = true := by
      have : wrF ⟨f.e, 0, f.t⟩ = true := hfw
      simp [wrA, this]
    rw [hwr1] at hIW
    have hLn := traceLine_ac (chA 1 (fs.take k)) ⟨f.e, 0, f.t⟩ hbd.1 hbd.2 hfw
    have e1 : trN (chA 1 (fs.take k)) ⟨f.e, 0, f.t⟩ = trL (chA 1 (fs.take k)) f ++ [10] := rfl
    have e2 : nxI (chA 1 (fs.take k)) ⟨f.e, 0, f.t⟩ = nxI (chA 1 (fs.take k)) f := rfl
    rw [e1, e2] at hLn
    have hcl := cnt_le (fs.take k) f.e
    have hfn := h.num k f hf
    have hol : ((fs.take k).map Fi.row).length = (fs.take k).length := FL_len
    have hNt : trN (chA 1 (fs.take k)) f = trL (chA 1 (fs.take k)) f ++ [10] := rfl
    rw [hNt, List.length_append, List.length_singleton] at hNl hs1
    generalize trT (nxI (chA 1 (fs.take k)) f) (fs.drop (k + 1)) ++ r = rest at *
    generalize hch : chA 1 (fs.take k) = ch at *
    clear hrest e1 e2 hNt
    generalize trL ch f = l0 at *
    generalize nxI ch f = nx at *
    obtain ⟨fe, fn, ft⟩ := f
    simp only at *
    obtain ⟨e, rfl⟩ : ∃ e : Nat, fe = e := ⟨fe.toNat, by omega⟩
    subst hfn
    have hg1 := IO_get (cnts_get (fs := fs.take k) (e := e) (by omega))
    have hst := IO_set (cnts_set (fs := fs.take k) (e := e) (n := (cnt (fs.take k) e : Int) + 1) (t := ft) (by omega))
    have hg2 : (IO (cnts (fs.take (k + 1)))).rows[0 + ((e : Nat) : Int).toNat]? = some [I ((cnt (fs.take k) e : Int) + 1)] := by
      rw [htk, ← hst, List.getElem?_set, if_pos rfl, if_pos (List.getElem?_eq_some_iff.1 hg1).1]
    rw [← htk] at hst
    have hl10 : (l0 ++ [10]).length = l0.length + 1 := by simp
    generalize trT 1 (fs.take k) = tx at *
    generalize cnt (fs.take k) e = q at *
    generalize hc0 : cnts (fs.take k) = c0 at *
    generalize hc1 : cnts (fs.take (k + 1)) = c1 at *
    repeat' (first | ((first | apply Ba | (apply Bb; (· rfl); (· rfl)) | (apply Bc; (· exact nxE)) | (apply Bd; (· rfl); (· rfl); (· exact nxE))); (· first | exact Ok.sFrom (a := s) (j := tx.length) rfl rfl rfl rfl (by omega) | exact Kz rfl rfl (hC) (Ad (Ad An)) | exact Kz rfl rfl (hW) (Ad (Ad An)) | exact Kz rfl rfl (hR1) (Ad An) | exact Kz rfl rfl (hR2) (Ad An) | exact Ez rfl rfl (hIW) (Sw Sn) | exact Kz rfl rfl (hLn) (Aa (Ad (Ad (Ad An))) (Ad An)) | exact Ok.sjoin (a := l0) (b := [10]) rfl rfl rfl (by simp only [List.length_cons, List.length_nil]; omega) | exact OpOk.loadCell rfl rfl rfl rfl hg1 rfl | exact OpOk.loadCell rfl rfl rfl rfl hg2 rfl | exact Ok.sneSame rfl rfl rfl | exact Ok.seqS rfl rfl rfl | exact Ok.slen rfl rfl | exact OpOk.indexD rfl rfl rfl (by decide) rfl (by exact Nat.zero_lt_one) | exact Ok.storeC rfl rfl rfl rfl hg1 (by exact Nat.zero_lt_one) rfl rfl rfl hst | exact Ok.append1 (row := Fi.row ⟨e, (q : Int) + 1, ft⟩) rfl rfl (by decide) rfl rfl hol rfl rfl rfl (by rfl) (by omega) (by omega) | exact Ok.pe)) | ((first | apply Ca | (apply Cb; (· exact nxE))); (· first | exact Ok.storeC rfl rfl rfl rfl hg1 (by exact Nat.zero_lt_one) rfl rfl rfl hst | exact Ok.append1 (row := Fi.row ⟨e, (q : Int) + 1, ft⟩) rfl rfl (by decide) rfl rfl hol rfl rfl rfl (by rfl) (by omega) (by omega) | exact Ok.e0)) | refine Sx ?_ | (refine Sy (fun h => ?_) (fun h => ?_) <;> try (exfalso; omega; done)) | refine Sz (fun h => ?_) (fun h => ?_))
    refine ⟨⟨k + 1, by omega⟩, ?_, by simp only; omega⟩
    (apply Le.headZ [_, _] rfl)
    all_goals (try dsimp only [srcs])
    (case' hfr | hob => (repeat' (first | refine La ?_ ?_ | exact Lc | refine Lo ?_ | refine ⟨⟨_, rfl, ?_⟩, ?_⟩ | refine Lx ?_)))
    all_goals (first | ((first | (rw [hs2]; done) | (rw [hs1]; omega) | (rw [hc1]; rfl) | (rw [htk, List.length_append, List.length_singleton]; done) | (rw [htk, List.map_append]; rfl) | (rw [htk]; simp; done))) | exact Ld)
  · obtain rfl : k = fs.length := by omega
    rw [List.take_length] at hTL ⊢
    have hT := trT_len (c := 1) (by decide) h.wr
    have hbd := chA_bd (c := 1) (by decide) (by decide) h.wr
    have hol : (fs.map Fi.row).length = fs.length := FL_len
    generalize hc0 : cnts fs = c0 at *
    by_cases h500 : fs.length < 500
    case neg =>
      repeat' (first | ((first | apply Ba | (apply Bb; (· rfl); (· rfl)) | (apply Bc; (· exact nxE)) | (apply Bd; (· rfl); (· rfl); (· exact nxE))); (· first | exact Ok.lenD rfl rfl hTL | exact Ok.sneSame rfl rfl rfl | exact Ok.seqS rfl rfl rfl | exact Ok.slen rfl rfl | exact OpOk.indexD rfl rfl rfl (by decide) rfl (by exact Nat.zero_lt_one) | exact Ok.pe)) | ((first | apply Ca | (apply Cb; (· exact nxE))); (· first | exact Ok.e0)) | refine Sx ?_ | (refine Sy (fun h => ?_) (fun h => ?_) <;> try (exfalso; omega; done)) | refine Sz (fun h => ?_) (fun h => ?_))
      all_goals
        refine Yb ?_
        (apply Le.head [(⟨0, []⟩, _, _)])
        (case' hfr | hob => (repeat' (first | refine La ?_ ?_ | exact Lc | refine Lo ?_ | refine ⟨⟨_, rfl, ?_⟩, ?_⟩ | refine Lx ?_)))
        all_goals (first | exact Ld | (rfl))
    have hdr : s.drop (trT 1 fs).length = r := by rw [h.txt, List.drop_left]
    have hsl : (trT 1 fs).length ≤ s.length := by omega
    have hC := cut_ac (s.drop (trT 1 fs).length) [10] (by rw [hdr]; omega)
    rcases first_byte 10 r with h1 | ⟨a, b, rfl, h1⟩
    · rw [show Lib.cut (s.drop (trT 1 fs).length) [10] = (r, [], false) from by rw [hdr]; exact cut_no h1] at hC
      have hW := isplit_frz r 32 (by omega)
      generalize spl 32 r = ws at *
      generalize trT 1 fs = tx at *
      repeat' (first | ((first | apply Ba | (apply Bb; (· rfl); (· rfl)) | (apply Bc; (· exact nxE)) | (apply Bd; (· rfl); (· rfl); (· exact nxE))); (· first | exact Ok.sFrom (a := s) (j := tx.length) rfl rfl rfl rfl (by omega) | exact Kz rfl rfl (hC) (Ad (Ad An)) | exact Kz rfl rfl (hW) (Ad (Ad An)) | exact Ok.sneSame rfl rfl rfl | exact Ok.seqS rfl rfl rfl | exact Ok.slen rfl rfl | exact OpOk.indexD rfl rfl rfl (by decide) rfl (by exact Nat.zero_lt_one) | exact Ok.pe)) | ((first | apply Ca | (apply Cb; (· exact nxE))); (· first | exact Ok.e0)) | refine Sx ?_ | (refine Sy (fun h => ?_) (fun h => ?_) <;> try (exfalso; omega; done)) | refine Sz (fun h => ?_) (fun h => ?_))
      all_goals
        refine Yb ?_
        (apply Le.head [(⟨0, []⟩, _, _)])
        (case' hfr | hob => (repeat' (first | refine La ?_ ?_ | exact Lc | refine Lo ?_ | refine ⟨⟨_, rfl, ?_⟩, ?_⟩ | refine Lx ?_)))
        all_goals (first | exact Ld | (rfl))
    have hal : a.length ≤ 1999999 := by simp only [List.length_append, List.length_cons] at hlenS; omega
    rw [show Lib.cut (s.drop (trT 1 fs).length) [10] = (a, b, true) from by rw [hdr, cut_at h1]] at hC
    have hW := isplit_frz a 32 (by omega)
    have hwe : ∀ w ∈ spl 32 a, w.length ≤ 100000000 := fun w hw => by have := spl_mem_len hw; omega
    by_cases h3 : (spl 32 a).length = 3
    case neg =>
      generalize spl 32 a = ws at *
      generalize trT 1 fs = tx at *
      have hwn : (stR ws).length = ws.length := stR_len ws
      repeat' (first | ((first | apply Ba | (apply Bb; (· rfl); (· rfl)) | (apply Bc; (· exact nxE)) | (apply Bd; (· rfl); (· rfl); (· exact nxE))); (· first | exact Ok.sFrom (a := s) (j := tx.length) rfl rfl rfl rfl (by omega) | exact Kz rfl rfl (hC) (Ad (Ad An)) | exact Kz rfl rfl (hW) (Ad (Ad An)) | exact Ok.sneSame rfl rfl rfl | exact Ok.seqS rfl rfl rfl | exact Ok.slen rfl rfl | exact OpOk.indexD rfl rfl rfl (by decide) rfl (by exact Nat.zero_lt_one) | exact Ok.pe)) | ((first | apply Ca | (apply Cb; (· exact nxE))); (· first | exact Ok.e0)) | refine Sx ?_ | (refine Sy (fun h => ?_) (fun h => ?_) <;> try (exfalso; omega; done)) | refine Sz (fun h => ?_) (fun h => ?_))
      all_goals
        refine Yb ?_
        (apply Le.head [(⟨0, []⟩, _, _)])
        (case' hfr | hob => (repeat' (first | refine La ?_ ?_ | exact Lc | refine Lo ?_ | refine ⟨⟨_, rfl, ?_⟩, ?_⟩ | refine Lx ?_)))
        all_goals (first | exact Ld | (rfl))
    obtain ⟨x, y, z, hx⟩ : ∃ x y z, spl 32 a = [x, y, z] := by
      generalize spl 32 a = ws at h3
      match ws, h3 with
      | [x, y, z], _ => exact ⟨x, y, z, rfl⟩
    rw [hx] at hW hwe
    have hR1 := readNumber_ac x (hwe x (by simp))
    have hR2 := readNumber_ac y (hwe y (by simp))
    obtain ⟨⟨n0, b0⟩, hn0⟩ : ∃ v, rdN x = v := ⟨_, rfl⟩
    obtain ⟨⟨n1, b1⟩, hn1⟩ : ∃ v, rdN y = v := ⟨_, rfl⟩
    rw [hn0] at hR1
    rw [hn1] at hR2
    simp only at hR1 hR2
    have hIW := isWritable_ac [⟨n0, 0, n1⟩] (by simp)
    have hwr1 : wrA [⟨n0, 0, n1⟩] = wrF ⟨n0, 0, n1⟩ := by simp [wrA]
    rw [hwr1] at hIW
    cases hfw : wrF ⟨n0, 0, n1⟩ with
    | false =>
      rw [hfw] at hIW
      generalize trT 1 fs = tx at *
      cases b0 <;> cases b1
      all_goals
        repeat' (first | ((first | apply Ba | (apply Bb; (· rfl); (· rfl)) | (apply Bc; (· exact nxE)) | (apply Bd; (· rfl); (· rfl); (· exact nxE))); (· first | exact Ok.sFrom (a := s) (j := tx.length) rfl rfl rfl rfl (by omega) | exact Kz rfl rfl (hC) (Ad (Ad An)) | exact Kz rfl rfl (hW) (Ad (Ad An)) | exact Kz rfl rfl (hR1) (Ad An) | exact Kz rfl rfl (hR2) (Ad An) | exact Ez rfl rfl (hIW) (Sw Sn) | exact Ok.sneSame rfl rfl rfl | exact Ok.seqS rfl rfl rfl | exact Ok.slen rfl rfl | exact OpOk.indexD rfl rfl rfl (by decide) rfl (by exact Nat.zero_lt_one) | exact Ok.pe)) | ((first | apply Ca | (apply Cb; (· exact nxE))); (· first | exact Ok.e0)) | refine Sx ?_ | (refine Sy (fun h => ?_) (fun h => ?_) <;> try (exfalso; omega; done)) | refine Sz (fun h => ?_) (fun h => ?_))
      all_goals
        refine Yb ?_
        (apply Le.head [(⟨0, []⟩, _, _)])
        (case' hfr | hob => (repeat' (first | refine La ?_ ?_ | exact Lc | refine Lo ?_ | refine ⟨⟨_, rfl, ?_⟩, ?_⟩ | refine Lx ?_)))
        all_goals (first | exact Ld | (rfl))
    | true =>
      rw [hfw] at hIW
      have hLn := traceLine_ac (chA 1 fs) ⟨n0, 0, n1⟩ hbd.1 hbd.2 hfw
      have hne : trN (chA 1 fs) ⟨n0, 0, n1⟩ ≠ a ++ [10] := fun he => h.stop h500 _ hfw b (by rw [he]; simp)
      have hNl := trN_len hbd.1 hfw
      generalize trT 1 fs = tx at *
      generalize trN (chA 1 fs) ⟨n0, 0, n1⟩ = l0 at *
      generalize nxI (chA 1 fs) ⟨n0, 0, n1⟩ = nx at *
      generalize chA 1 fs = ch at *
      cases b0 <;> cases b1
      all_goals
        repeat' (first | ((first | apply Ba | (apply Bb; (· rfl); (· rfl)) | (apply Bc; (· exact nxE)) | (apply Bd; (· rfl); (· rfl); (· exact nxE))); (· first | exact Ok.sFrom (a := s) (j := tx.length) rfl rfl rfl rfl (by omega) | exact Kz rfl rfl (hC) (Ad (Ad An)) | exact Kz rfl rfl (hW) (Ad (Ad An)) | exact Kz rfl rfl (hR1) (Ad An) | exact Kz rfl rfl (hR2) (Ad An) | exact Ez rfl rfl (hIW) (Sw Sn) | exact Kz rfl rfl (hLn) (Aa (Ad (Ad (Ad An))) (Ad An)) | exact Ok.sjoin (a := a) (b := [10]) rfl rfl rfl (by simp only [List.length_cons, List.length_nil]; omega) | exact Ok.sneNe rfl rfl rfl hne | exact Ok.sneSame rfl rfl rfl | exact Ok.seqS rfl rfl rfl | exact Ok.slen rfl rfl | exact OpOk.indexD rfl rfl rfl (by decide) rfl (by exact Nat.zero_lt_one) | exact Ok.pe)) | ((first | apply Ca | (apply Cb; (· exact nxE))); (· first | exact Ok.e0)) | refine Sx ?_ | (refine Sy (fun h => ?_) (fun h => ?_) <;> try (exfalso; omega; done)) | refine Sz (fun h => ?_) (fun h => ?_))
      all_goals
        refine Yb ?_
        (apply Le.head [(⟨0, []⟩, _, _)])
        (case' hfr | hob => (repeat' (first | refine La ?_ ?_ | exact Lc | refine Lo ?_ | refine ⟨⟨_, rfl, ?_⟩, ?_⟩ | refine Lx ?_)))
        all_goals (first | exact Ld | (rfl))
end Go.Proofs.YtofakjlamoigcaaGreatDoor
end
