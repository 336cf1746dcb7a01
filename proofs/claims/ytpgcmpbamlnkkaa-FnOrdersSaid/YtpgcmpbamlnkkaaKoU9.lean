/-
  Walks in the abstract reading, part 9.
-/
import Derived.Test.YtpgcmpbamlnkkaaKoU8
section
namespace Go.Proofs.Ytpgcmpbamlnkkaa
set_option linter.unusedSimpArgs false
set_option linter.unusedVariables false
open Go Go.RowKit
attribute [local irreducible] AL AD AW OpOk Le AC thenQ blockQ EndQ

set_option maxRecDepth 100000 in
set_option maxHeartbeats 100000000 in
theorem foLive_ac (code : List Int) (hl : code.length ≤ 9223372036854775807) (hb : ∀ b ∈ code, 0 ≤ b ∧ b ≤ 255) (hbig : ¬ 4096 < (code.length : Int)) (ev : Int) (xs : List Pl) (hev : 0 ≤ ev ∧ ev ≤ 11) (hx : xs.length ≤ 40) (hG : AC Try.prog 11 [.d (BD code)] H0 (grD ev xs) H0) (hg : isEG ev xs = true) (h0 : liveI ev xs = 0) : AC Try.prog 3 [.d (BD code)] H0 (Bo true) H0 := by
  have hBig := big_ac code hl
  have hvp : ∀ i, i < xs.length → 0 ≤ (plA xs i).f ∧ 0 ≤ (plA xs i).t := by
    obtain ⟨n', hn', _, _, _, hvv⟩ := isEG_ok hg
    intro i hi
    obtain ⟨⟨u1, _⟩, ⟨u2, _⟩, _⟩ := okPl_at hvv i hi
    exact ⟨u1, u2⟩
  have hI1 := iFiringOrder_ac ev xs (by omega)
  have hS1 := sFiringOrder_ac ev xs (by omega)
  have hI2 := iDeadCycle_ac ev xs (by omega)
  have hS2 := sDeadCycle_ac ev xs (by omega)
  have hI3 := iLevelsOf_ac ev xs (by omega)
  have hS3 := sLevelsOf_ac ev xs (by omega)
  have hI4 := iIsLive_ac ev xs (by omega)
  have hI5 := iSourcesOf_ac ev xs (by omega)
  have hS5 := sSourcesOf_ac ev xs (by omega)
  have hI6 := iIsStrong_ac ev xs (by omega)
  have hS6 := sIsStrong_ac ev xs (by omega)
  rw [foL_or] at hI1 hS1
  obtain ⟨z1, z2, z3⟩ := sz_orders (ev := ev) (xs := xs)
  obtain ⟨z4, z5⟩ := orN_len (ev := ev) (xs := xs)
  have hL1 := likeInts_refl (cN (orN ev xs)) (by simp [cN]; omega)
  have hL2 := likeInts_refl (dcL ev xs) (by omega)
  have hL3 := likeInts_refl (lvLs ev xs) (by omega)
  have hL4 := likeInts_refl (soL ev xs) (by omega)
  have hlaw := fun k i => or_law (ev := ev) (xs := xs) (k := k) (i := i)
  have hcl : (IR (cN (orN ev xs))).length = (orN ev xs).length := by simp
  generalize soC ev xs = c5 at *
  generalize soL ev xs = L4 at *
  generalize dcL ev xs = L2 at *
  generalize lvLs ev xs = L3 at *
  generalize (isEG ev xs && strB ev.toNat xs) = b6 at *
  have hdc : dcC ev xs = if liveI ev xs = 0 then 4 else 0 := by
    unfold dcC liveI liveB
    rw [if_pos hg, if_pos hg]
    by_cases hd : deadC ev.toNat xs = []
    · simp [hd]
    · simp [hd]
  have hl15 : liveI ev xs = 0 ∨ liveI ev xs = 5 := by
    unfold liveI; rw [if_pos hg]; split <;> simp
  rw [hg, if_pos rfl] at hI4 hI6 hS6
  rw [hdc] at hI2 hS2
  generalize liveI ev xs = c at *
  subst h0
  generalize orN ev xs = o at *
  simp only [if_true, decide_true, show ¬ (5 : Int) = 0 by decide, if_false, decide_false] at hI2 hS2 hI4
  refine AC.of_body 0 Try.func3 rfl (fun l h => absurd rfl h) (fun C hC => ?_)
  have hD : ∀ l, ¬ C.D0 l := fun l h => (hC l).1 h rfl
  simp only [startFr, Try.ntmps3, List.length_cons, List.length_nil, Nat.reduceAdd, Nat.reduceSub, List.replicate_succ, List.replicate_zero, List.cons_append, List.nil_append]
  repeat' (first | ((first | apply Ba | (apply Bb; (· rfl); (· rfl)) | (apply Bc; (· exact nxE)) | (apply Bd; (· rfl); (· rfl); (· exact nxE))); (· first | exact Kz rfl rfl (hBig) (Ad An) | exact Kz rfl rfl (hG) (Ad An) | exact Kz rfl rfl (hI1) (Aa (Ad (Ad An)) An) | exact Kz rfl rfl (hS1) (Aa (Ad (Ad An)) An) | exact Kz rfl rfl (hI2) (Aa (Ad (Ad An)) An) | exact Kz rfl rfl (hS2) (Aa (Ad (Ad An)) An) | exact Kz rfl rfl (hI3) (Aa (Ad (Ad An)) An) | exact Kz rfl rfl (hS3) (Aa (Ad (Ad An)) An) | exact Kz rfl rfl (hI4) (Aa (Ad (Ad An)) An) | exact Kz rfl rfl (hI5) (Aa (Ad (Ad An)) An) | exact Kz rfl rfl (hS5) (Aa (Ad (Ad An)) An) | exact Kz rfl rfl (hI6) (Aa (Ad (Ad An)) An) | exact Kz rfl rfl (hS6) (Aa (Ad (Ad An)) An) | exact Kz rfl rfl (hL1) (Ad (Ad An)) | exact Kz rfl rfl (hL2) (Ad (Ad An)) | exact Kz rfl rfl (hL3) (Ad (Ad An)) | exact Kz rfl rfl (hL4) (Ad (Ad An)) | exact Ok.bneS rfl rfl rfl (by kernel_rfl) | exact Ok.bne rfl rfl rfl (by kernel_rfl) | exact Ok.pe)) | ((first | apply Ca | (apply Cb; (· exact nxE))); (· first | exact Ok.e0)) | refine Sx ?_ | (refine Sy (fun h => ?_) (fun h => ?_) <;> try (exfalso; omega; done)) | refine Sz (fun h => ?_) (fun h => ?_))
  refine AW.loop (X := {k : Nat // k ≤ o.length}) (fun k => ⟨[Oo, Oo, Oo, Bx 2 0, IL (cN o), Oo, Oo, Oo, Oo, Oo, Oo, Oo, IL L3, Oo, Oo, Oo, Bo true, Oo, Oo, Oo, Oo, Oo, Oo, Oo, Oo, Oo, .own 1 ⟨1, []⟩ 0 (cN (o.take (k.1 : Nat))).length, I (k.1 : Nat), Oo, Oo, Oo, Oo, Oo, Oo, Oo, Oo, Oo, Oo, Oo, Oo, Oo, Oo, Oo, Oo, Oo, Oo, Oo, Oo, Oo, Oo, Oo, Oo, Oo, Oo, Oo, Oo, Oo, Oo, Oo, Oo, Oo, Oo, Oo, Oo, Oo, Oo, Oo, Oo, Oo, Oo, Oo, Oo, Oo, Oo, Oo, Oo, Oo, Oo, Oo, Oo, Oo, Oo, Oo, Oo, Oo, Oo, Oo, Oo, Oo, Oo, Oo, Oo, Oo, Oo, Oo, Oo, Oo, Oo, Oo, Oo, Oo, Oo, Oo, Oo, Oo, Oo, Oo, Oo, Oo, Oo, Oo, Oo, Oo, Oo, Oo, Oo, Oo, Oo, Oo, Oo, Oo, Oo, Oo, Oo, Oo, Oo, Oo, Oo, Oo, Oo, Oo, Oo, Oo, Oo, Oo, Oo, Oo, Oo, Oo, Oo, Oo, Oo, Oo, Oo, Oo, Oo, Oo, Oo, Oo, Oo, Oo, Oo, Oo, Oo, Oo, Oo, Oo, Oo, Oo, Oo, Oo, Oo, Oo, Oo, Oo, Oo, Oo, Oo, Oo, Oo, Oo, Oo, Oo, Oo, Oo, Oo, Oo, Oo, Oo, Oo, Oo, Oo, Oo, Oo, Oo, Oo, Oo, Oo, Oo, Oo, Oo, Oo, Oo, Oo, Oo, Oo, Oo, Oo, Oo, Oo, Oo, Oo, Oo, Oo, Oo, Oo, Oo, Oo, Oo, Oo, Oo, Oo, Oo, Oo, Oo, Oo, Oo, Oo, Oo, Oo, Oo, Oo, Oo, Oo, Oo, Oo, Oo], heapL [(⟨0, []⟩, ⟨0, []⟩, ⟨2, [[I ev, PL xs]]⟩), (⟨1, []⟩, ⟨1, []⟩, IO (cN (o.take k.1)))], 900⟩) (fun k => o.length - k.1) ⟨0, Nat.zero_le _⟩ ?_ (fun k => ?_)
  ·
    (apply Le.headZ [_, _] rfl)
    all_goals (try dsimp only [srcs])
    (case' hfr | hob => (repeat' (first | refine La ?_ ?_ | exact Lc | refine Lo ?_ | refine ⟨⟨_, rfl, ?_⟩, ?_⟩ | refine Lx ?_)))
    all_goals (first | (rfl) | exact Ld)
  obtain ⟨w, hw⟩ := k
  simp only
  by_cases hlt : w < o.length
  case neg =>
    obtain rfl : w = o.length := by omega
    repeat' (first | ((first | apply Ba | (apply Bb; (· rfl); (· rfl)) | (apply Bc; (· exact nxE)) | (apply Bd; (· rfl); (· rfl); (· exact nxE))); (· first | exact Ok.lenD rfl rfl hcl | exact Ok.pe)) | ((first | apply Ca | (apply Cb; (· exact nxE))); (· first | exact Ok.e0)) | refine Sx ?_ | (refine Sy (fun h => ?_) (fun h => ?_) <;> try (exfalso; omega; done)) | refine Sz (fun h => ?_) (fun h => ?_))
    refine Ya ?_
    (apply Le.headZ (hs := []) [] rfl)
    all_goals (try dsimp only [srcs])
    (case' hfr => (repeat' (first | refine La ?_ ?_ | exact Lc | refine Lo ?_ | refine ⟨⟨_, rfl, ?_⟩, ?_⟩ | refine Lx ?_)))
    all_goals (first | exact Ld | exact trivial | (first | rfl | (simp; omega)))
  have hcell := cN_cell (l := o) (i := w) hlt
  have hlk := hlaw w
  have htk : o.take (w + 1) = o.take w ++ [o.getD w 0] := by
    rw [List.take_succ_eq_append_getElem hlt, List.getD_eq_getElem?_getD, List.getElem?_eq_getElem hlt]; rfl
  have hH := fun f => hasInt_ac (cN (o.take w)) f (by simp [cN]; omega)
  have hapl : (IR (cN (o.take w))).length = (cN (o.take w)).length := by simp
  have htl : (cN (o.take w)).length ≤ 10 := by simp only [cN, List.length_map, List.length_take]; omega
  generalize o.take w = q at *
  generalize o.getD w 0 = e at *
  repeat' (first | ((first | apply Ba | (apply Bb; (· rfl); (· rfl)) | (apply Bc; (· exact nxE)) | (apply Bd; (· rfl); (· rfl); (· exact nxE))); (· first | exact Ok.lenD rfl rfl hcl | exact Ok.pe)) | ((first | apply Ca | (apply Cb; (· exact nxE))); (· first | exact Ok.e0)) | refine Sx ?_ | (refine Sy (fun h => ?_) (fun h => ?_) <;> try (exfalso; omega; done)) | refine Sz (fun h => ?_) (fun h => ?_))
  refine AW.loop (X := {k : Nat // k ≤ xs.length}) (fun k => ⟨[Oo, Oo, Oo, Bx 2 0, IL (cN o), Oo, Oo, Oo, Oo, Oo, Oo, Oo, IL L3, Oo, Oo, Oo, Bo true, Oo, Oo, Oo, Oo, Oo, Oo, Oo, Oo, Oo, .own 1 ⟨1, []⟩ 0 (cN q).length, I w, I (k.1 : Nat), Oo, Oo, Oo, Oo, Oo, Oo, Oo, Oo, Oo, Oo, Oo, Oo, Oo, Oo, Oo, Oo, Oo, Oo, Oo, Oo, Oo, Oo, Oo, Oo, Oo, Oo, Oo, Oo, Oo, Oo, Oo, Oo, Oo, Oo, Oo, Oo, Oo, Oo, Oo, Oo, Oo, Oo, Oo, Oo, Oo, Oo, Oo, Oo, Oo, Oo, Oo, Oo, Oo, Oo, Oo, Oo, Oo, Oo, Oo, Oo, Oo, Oo, Oo, Oo, Oo, Oo, Oo, Oo, Oo, Oo, Oo, Oo, Oo, Oo, Oo, Oo, Oo, Oo, Oo, Oo, Oo, Oo, Oo, Oo, Oo, Oo, Oo, Oo, Oo, Oo, Oo, Oo, Oo, Oo, Oo, Oo, Oo, Oo, Oo, Oo, Oo, Oo, Oo, Oo, Oo, Oo, Oo, Oo, Oo, Oo, Oo, Oo, Oo, Oo, Oo, Oo, Oo, Oo, Oo, Oo, Oo, Oo, Oo, Oo, Oo, Oo, Oo, Oo, Oo, Oo, Oo, Oo, Oo, Oo, Oo, Oo, Oo, Oo, Oo, Oo, Oo, Oo, Oo, Oo, Oo, Oo, Oo, Oo, Oo, Oo, Oo, Oo, Oo, Oo, Oo, Oo, Oo, Oo, Oo, Oo, Oo, Oo, Oo, Oo, Oo, Oo, Oo, Oo, Oo, Oo, Oo, Oo, Oo, Oo, Oo, Oo, Oo, Oo, Oo, Oo, Oo, Oo, Oo, Oo, Oo, Oo, Oo, Oo, Oo, Oo, Oo, Oo, Oo, Oo, Oo, Oo, Oo, Oo], heapL [(⟨0, []⟩, ⟨0, []⟩, ⟨2, [[I ev, PL xs]]⟩), (⟨1, []⟩, ⟨1, []⟩, IO (cN q))], 900⟩) (fun k => xs.length - k.1) ⟨0, Nat.zero_le _⟩ ?_ (fun k => ?_)
  ·
    (apply Le.headZ [_, _] rfl)
    all_goals (try dsimp only [srcs])
    (case' hfr | hob => (repeat' (first | refine La ?_ ?_ | exact Lc | refine Lo ?_ | refine ⟨⟨_, rfl, ?_⟩, ?_⟩ | refine Lx ?_)))
    all_goals (first | (rfl) | exact Ld)
  obtain ⟨i, hi⟩ := k
  simp only
  by_cases hlt2 : i < xs.length
  case neg =>
    repeat' (first | ((first | apply Ba | (apply Bb; (· rfl); (· rfl)) | (apply Bc; (· exact nxE)) | (apply Bd; (· rfl); (· rfl); (· exact nxE))); (· first | exact Ok.append1 (row := [DI e]) rfl rfl (by decide) rfl rfl hapl rfl rfl rfl (by rfl) (by omega) (by omega) | exact Ok.pe)) | ((first | apply Ca | (apply Cb; (· exact nxE))); (· first | exact Ok.append1 (row := [DI e]) rfl rfl (by decide) rfl rfl hapl rfl rfl rfl (by rfl) (by omega) (by omega) | exact Ok.e0)) | refine Sx ?_ | (refine Sy (fun h => ?_) (fun h => ?_) <;> try (exfalso; omega; done)) | refine Sz (fun h => ?_) (fun h => ?_))
    refine ⟨⟨w + 1, by omega⟩, ?_, by simp only; omega⟩
    simp only [htk]
    (apply Le.headZ [_, _] rfl)
    all_goals (try dsimp only [srcs])
    (case' hfr | hob => (repeat' (first | refine La ?_ ?_ | exact Lc | refine Lo ?_ | refine ⟨⟨_, rfl, ?_⟩, ?_⟩ | refine Lx ?_)))
    all_goals (first | ((first | rfl | (simp [cN]; done))) | exact Ld)
  have hrow := pl_row (n := 0) hlt2
  have hli := hlk i hlt hlt2
  have hpp := hvp i hlt2
  clear hvp
  generalize plA xs i = p at *
  obtain ⟨pf, pt, pd, pk⟩ := p
  simp only at hrow hli hpp
  have hHf := hH pf
  by_cases hc2 : pt = (e : Int) ∧ pk = 0
  · obtain ⟨hh, a, b, ha, hb2, hab⟩ := hli hc2.1 hc2.2
    obtain ⟨hc3, hc4⟩ := hc2
    rw [hh] at hHf
    clear hH hlk hlaw htk
    generalize cN q = L at *
    repeat' (first | ((first | apply Ba | (apply Bb; (· rfl); (· rfl)) | (apply Bc; (· exact nxE)) | (apply Bd; (· rfl); (· rfl); (· exact nxE))); (· first | exact Ez rfl rfl (hHf) (Sw (Sd Sn)) | exact Ok.pe)) | ((first | apply Ca | (apply Cb; (· exact nxE))); (· first | exact Ok.e0)) | refine Sx ?_ | (refine Sy (fun h => ?_) (fun h => ?_) <;> try (exfalso; omega; done)) | refine Sz (fun h => ?_) (fun h => ?_))
    all_goals
      refine ⟨⟨i + 1, by omega⟩, ?_, by simp only; omega⟩
      (apply Le.headZ [_, _] rfl)
      all_goals (try dsimp only [srcs])
      (case' hfr | hob => (repeat' (first | refine La ?_ ?_ | exact Lc | refine Lo ?_ | refine ⟨⟨_, rfl, ?_⟩, ?_⟩ | refine Lx ?_)))
      all_goals (first | (rfl) | exact Ld)
  ·
    repeat' (first | ((first | apply Ba | (apply Bb; (· rfl); (· rfl)) | (apply Bc; (· exact nxE)) | (apply Bd; (· rfl); (· rfl); (· exact nxE))); (· first | exact Ok.pe)) | ((first | apply Ca | (apply Cb; (· exact nxE))); (· first | exact Ok.e0)) | refine Sx ?_ | (refine Sy (fun h => ?_) (fun h => ?_) <;> try (exfalso; omega; done)) | refine Sz (fun h => ?_) (fun h => ?_))
    all_goals
      refine ⟨⟨i + 1, by omega⟩, ?_, by simp only; omega⟩
      (apply Le.headZ [_, _] rfl)
      all_goals (try dsimp only [srcs])
      (case' hfr | hob => (repeat' (first | refine La ?_ ?_ | exact Lc | refine Lo ?_ | refine ⟨⟨_, rfl, ?_⟩, ?_⟩ | refine Lx ?_)))
      all_goals (first | (rfl) | exact Ld)
end Go.Proofs.Ytpgcmpbamlnkkaa
end

section
namespace Go.Proofs.Ytpgcmpbamlnkkaa
set_option linter.unusedSimpArgs false
set_option linter.unusedVariables false
open Go Go.RowKit
attribute [local irreducible] AL AD AW OpOk Le AC thenQ blockQ EndQ

set_option maxRecDepth 100000 in
set_option maxHeartbeats 100000000 in
theorem foDead_ac (code : List Int) (hl : code.length ≤ 9223372036854775807) (hb : ∀ b ∈ code, 0 ≤ b ∧ b ≤ 255) (hbig : ¬ 4096 < (code.length : Int)) (ev : Int) (xs : List Pl) (hev : 0 ≤ ev ∧ ev ≤ 11) (hx : xs.length ≤ 40) (hG : AC Try.prog 11 [.d (BD code)] H0 (grD ev xs) H0) (hg : isEG ev xs = true) (h0 : liveI ev xs = 5) : AC Try.prog 3 [.d (BD code)] H0 (Bo true) H0 := by
  have hBig := big_ac code hl
  have hvp : ∀ i, i < xs.length → 0 ≤ (plA xs i).f ∧ 0 ≤ (plA xs i).t := by
    obtain ⟨n', hn', _, _, _, hvv⟩ := isEG_ok hg
    intro i hi
    obtain ⟨⟨u1, _⟩, ⟨u2, _⟩, _⟩ := okPl_at hvv i hi
    exact ⟨u1, u2⟩
  have hI1 := iFiringOrder_ac ev xs (by omega)
  have hS1 := sFiringOrder_ac ev xs (by omega)
  have hI2 := iDeadCycle_ac ev xs (by omega)
  have hS2 := sDeadCycle_ac ev xs (by omega)
  have hI3 := iLevelsOf_ac ev xs (by omega)
  have hS3 := sLevelsOf_ac ev xs (by omega)
  have hI4 := iIsLive_ac ev xs (by omega)
  have hI5 := iSourcesOf_ac ev xs (by omega)
  have hS5 := sSourcesOf_ac ev xs (by omega)
  have hI6 := iIsStrong_ac ev xs (by omega)
  have hS6 := sIsStrong_ac ev xs (by omega)
  rw [foL_or] at hI1 hS1
  obtain ⟨z1, z2, z3⟩ := sz_orders (ev := ev) (xs := xs)
  obtain ⟨z4, z5⟩ := orN_len (ev := ev) (xs := xs)
  have hL1 := likeInts_refl (cN (orN ev xs)) (by simp [cN]; omega)
  have hL2 := likeInts_refl (dcL ev xs) (by omega)
  have hL3 := likeInts_refl (lvLs ev xs) (by omega)
  have hL4 := likeInts_refl (soL ev xs) (by omega)
  have hlaw := fun k i => or_law (ev := ev) (xs := xs) (k := k) (i := i)
  have hcl : (IR (cN (orN ev xs))).length = (orN ev xs).length := by simp
  generalize soC ev xs = c5 at *
  generalize soL ev xs = L4 at *
  generalize dcL ev xs = L2 at *
  generalize lvLs ev xs = L3 at *
  generalize (isEG ev xs && strB ev.toNat xs) = b6 at *
  have hdc : dcC ev xs = if liveI ev xs = 0 then 4 else 0 := by
    unfold dcC liveI liveB
    rw [if_pos hg, if_pos hg]
    by_cases hd : deadC ev.toNat xs = []
    · simp [hd]
    · simp [hd]
  have hl15 : liveI ev xs = 0 ∨ liveI ev xs = 5 := by
    unfold liveI; rw [if_pos hg]; split <;> simp
  rw [hg, if_pos rfl] at hI4 hI6 hS6
  rw [hdc] at hI2 hS2
  generalize liveI ev xs = c at *
  subst h0
  generalize orN ev xs = o at *
  simp only [if_true, decide_true, show ¬ (5 : Int) = 0 by decide, if_false, decide_false] at hI2 hS2 hI4
  refine AC.of_body 0 Try.func3 rfl (fun l h => absurd rfl h) (fun C hC => ?_)
  have hD : ∀ l, ¬ C.D0 l := fun l h => (hC l).1 h rfl
  simp only [startFr, Try.ntmps3, List.length_cons, List.length_nil, Nat.reduceAdd, Nat.reduceSub, List.replicate_succ, List.replicate_zero, List.cons_append, List.nil_append]
  repeat' (first | ((first | apply Ba | (apply Bb; (· rfl); (· rfl)) | (apply Bc; (· exact nxE)) | (apply Bd; (· rfl); (· rfl); (· exact nxE))); (· first | exact Kz rfl rfl (hBig) (Ad An) | exact Kz rfl rfl (hG) (Ad An) | exact Kz rfl rfl (hI1) (Aa (Ad (Ad An)) An) | exact Kz rfl rfl (hS1) (Aa (Ad (Ad An)) An) | exact Kz rfl rfl (hI2) (Aa (Ad (Ad An)) An) | exact Kz rfl rfl (hS2) (Aa (Ad (Ad An)) An) | exact Kz rfl rfl (hI3) (Aa (Ad (Ad An)) An) | exact Kz rfl rfl (hS3) (Aa (Ad (Ad An)) An) | exact Kz rfl rfl (hI4) (Aa (Ad (Ad An)) An) | exact Kz rfl rfl (hI5) (Aa (Ad (Ad An)) An) | exact Kz rfl rfl (hS5) (Aa (Ad (Ad An)) An) | exact Kz rfl rfl (hI6) (Aa (Ad (Ad An)) An) | exact Kz rfl rfl (hS6) (Aa (Ad (Ad An)) An) | exact Kz rfl rfl (hL1) (Ad (Ad An)) | exact Kz rfl rfl (hL2) (Ad (Ad An)) | exact Kz rfl rfl (hL3) (Ad (Ad An)) | exact Kz rfl rfl (hL4) (Ad (Ad An)) | exact Ok.bneS rfl rfl rfl (by kernel_rfl) | exact Ok.bne rfl rfl rfl (by kernel_rfl) | exact Ok.pe)) | ((first | apply Ca | (apply Cb; (· exact nxE))); (· first | exact Ok.e0)) | refine Sx ?_ | (refine Sy (fun h => ?_) (fun h => ?_) <;> try (exfalso; omega; done)) | refine Sz (fun h => ?_) (fun h => ?_))
  refine AW.loop (X := {k : Nat // k ≤ o.length}) (fun k => ⟨[Oo, Oo, Oo, Bx 2 0, IL (cN o), Oo, Oo, Oo, Oo, Oo, Oo, Oo, IL L3, Oo, Oo, Oo, Bo false, Oo, Oo, Oo, Oo, Oo, Oo, Oo, Oo, Oo, .own 1 ⟨1, []⟩ 0 (cN (o.take (k.1 : Nat))).length, I (k.1 : Nat), Oo, Oo, Oo, Oo, Oo, Oo, Oo, Oo, Oo, Oo, Oo, Oo, Oo, Oo, Oo, Oo, Oo, Oo, Oo, Oo, Oo, Oo, Oo, Oo, Oo, Oo, Oo, Oo, Oo, Oo, Oo, Oo, Oo, Oo, Oo, Oo, Oo, Oo, Oo, Oo, Oo, Oo, Oo, Oo, Oo, Oo, Oo, Oo, Oo, Oo, Oo, Oo, Oo, Oo, Oo, Oo, Oo, Oo, Oo, Oo, Oo, Oo, Oo, Oo, Oo, Oo, Oo, Oo, Oo, Oo, Oo, Oo, Oo, Oo, Oo, Oo, Oo, Oo, Oo, Oo, Oo, Oo, Oo, Oo, Oo, Oo, Oo, Oo, Oo, Oo, Oo, Oo, Oo, Oo, Oo, Oo, Oo, Oo, Oo, Oo, Oo, Oo, Oo, Oo, Oo, Oo, Oo, Oo, Oo, Oo, Oo, Oo, Oo, Oo, Oo, Oo, Oo, Oo, Oo, Oo, Oo, Oo, Oo, Oo, Oo, Oo, Oo, Oo, Oo, Oo, Oo, Oo, Oo, Oo, Oo, Oo, Oo, Oo, Oo, Oo, Oo, Oo, Oo, Oo, Oo, Oo, Oo, Oo, Oo, Oo, Oo, Oo, Oo, Oo, Oo, Oo, Oo, Oo, Oo, Oo, Oo, Oo, Oo, Oo, Oo, Oo, Oo, Oo, Oo, Oo, Oo, Oo, Oo, Oo, Oo, Oo, Oo, Oo, Oo, Oo, Oo, Oo, Oo, Oo, Oo, Oo, Oo, Oo, Oo, Oo, Oo, Oo, Oo, Oo, Oo, Oo, Oo, Oo, Oo], heapL [(⟨0, []⟩, ⟨0, []⟩, ⟨2, [[I ev, PL xs]]⟩), (⟨1, []⟩, ⟨1, []⟩, IO (cN (o.take k.1)))], 900⟩) (fun k => o.length - k.1) ⟨0, Nat.zero_le _⟩ ?_ (fun k => ?_)
  ·
    (apply Le.headZ [_, _] rfl)
    all_goals (try dsimp only [srcs])
    (case' hfr | hob => (repeat' (first | refine La ?_ ?_ | exact Lc | refine Lo ?_ | refine ⟨⟨_, rfl, ?_⟩, ?_⟩ | refine Lx ?_)))
    all_goals (first | (rfl) | exact Ld)
  obtain ⟨w, hw⟩ := k
  simp only
  by_cases hlt : w < o.length
  case neg =>
    obtain rfl : w = o.length := by omega
    repeat' (first | ((first | apply Ba | (apply Bb; (· rfl); (· rfl)) | (apply Bc; (· exact nxE)) | (apply Bd; (· rfl); (· rfl); (· exact nxE))); (· first | exact Ok.lenD rfl rfl hcl | exact Ok.pe)) | ((first | apply Ca | (apply Cb; (· exact nxE))); (· first | exact Ok.e0)) | refine Sx ?_ | (refine Sy (fun h => ?_) (fun h => ?_) <;> try (exfalso; omega; done)) | refine Sz (fun h => ?_) (fun h => ?_))
    refine Ya ?_
    (apply Le.headZ (hs := []) [] rfl)
    all_goals (try dsimp only [srcs])
    (case' hfr => (repeat' (first | refine La ?_ ?_ | exact Lc | refine Lo ?_ | refine ⟨⟨_, rfl, ?_⟩, ?_⟩ | refine Lx ?_)))
    all_goals (first | exact Ld | exact trivial | (first | rfl | (simp; omega)))
  have hcell := cN_cell (l := o) (i := w) hlt
  have hlk := hlaw w
  have htk : o.take (w + 1) = o.take w ++ [o.getD w 0] := by
    rw [List.take_succ_eq_append_getElem hlt, List.getD_eq_getElem?_getD, List.getElem?_eq_getElem hlt]; rfl
  have hH := fun f => hasInt_ac (cN (o.take w)) f (by simp [cN]; omega)
  have hapl : (IR (cN (o.take w))).length = (cN (o.take w)).length := by simp
  have htl : (cN (o.take w)).length ≤ 10 := by simp only [cN, List.length_map, List.length_take]; omega
  generalize o.take w = q at *
  generalize o.getD w 0 = e at *
  repeat' (first | ((first | apply Ba | (apply Bb; (· rfl); (· rfl)) | (apply Bc; (· exact nxE)) | (apply Bd; (· rfl); (· rfl); (· exact nxE))); (· first | exact Ok.lenD rfl rfl hcl | exact Ok.pe)) | ((first | apply Ca | (apply Cb; (· exact nxE))); (· first | exact Ok.e0)) | refine Sx ?_ | (refine Sy (fun h => ?_) (fun h => ?_) <;> try (exfalso; omega; done)) | refine Sz (fun h => ?_) (fun h => ?_))
  refine AW.loop (X := {k : Nat // k ≤ xs.length}) (fun k => ⟨[Oo, Oo, Oo, Bx 2 0, IL (cN o), Oo, Oo, Oo, Oo, Oo, Oo, Oo, IL L3, Oo, Oo, Oo, Bo false, Oo, Oo, Oo, Oo, Oo, Oo, Oo, Oo, Oo, .own 1 ⟨1, []⟩ 0 (cN q).length, I w, I (k.1 : Nat), Oo, Oo, Oo, Oo, Oo, Oo, Oo, Oo, Oo, Oo, Oo, Oo, Oo, Oo, Oo, Oo, Oo, Oo, Oo, Oo, Oo, Oo, Oo, Oo, Oo, Oo, Oo, Oo, Oo, Oo, Oo, Oo, Oo, Oo, Oo, Oo, Oo, Oo, Oo, Oo, Oo, Oo, Oo, Oo, Oo, Oo, Oo, Oo, Oo, Oo, Oo, Oo, Oo, Oo, Oo, Oo, Oo, Oo, Oo, Oo, Oo, Oo, Oo, Oo, Oo, Oo, Oo, Oo, Oo, Oo, Oo, Oo, Oo, Oo, Oo, Oo, Oo, Oo, Oo, Oo, Oo, Oo, Oo, Oo, Oo, Oo, Oo, Oo, Oo, Oo, Oo, Oo, Oo, Oo, Oo, Oo, Oo, Oo, Oo, Oo, Oo, Oo, Oo, Oo, Oo, Oo, Oo, Oo, Oo, Oo, Oo, Oo, Oo, Oo, Oo, Oo, Oo, Oo, Oo, Oo, Oo, Oo, Oo, Oo, Oo, Oo, Oo, Oo, Oo, Oo, Oo, Oo, Oo, Oo, Oo, Oo, Oo, Oo, Oo, Oo, Oo, Oo, Oo, Oo, Oo, Oo, Oo, Oo, Oo, Oo, Oo, Oo, Oo, Oo, Oo, Oo, Oo, Oo, Oo, Oo, Oo, Oo, Oo, Oo, Oo, Oo, Oo, Oo, Oo, Oo, Oo, Oo, Oo, Oo, Oo, Oo, Oo, Oo, Oo, Oo, Oo, Oo, Oo, Oo, Oo, Oo, Oo, Oo, Oo, Oo, Oo, Oo, Oo, Oo, Oo, Oo, Oo, Oo], heapL [(⟨0, []⟩, ⟨0, []⟩, ⟨2, [[I ev, PL xs]]⟩), (⟨1, []⟩, ⟨1, []⟩, IO (cN q))], 900⟩) (fun k => xs.length - k.1) ⟨0, Nat.zero_le _⟩ ?_ (fun k => ?_)
  ·
    (apply Le.headZ [_, _] rfl)
    all_goals (try dsimp only [srcs])
    (case' hfr | hob => (repeat' (first | refine La ?_ ?_ | exact Lc | refine Lo ?_ | refine ⟨⟨_, rfl, ?_⟩, ?_⟩ | refine Lx ?_)))
    all_goals (first | (rfl) | exact Ld)
  obtain ⟨i, hi⟩ := k
  simp only
  by_cases hlt2 : i < xs.length
  case neg =>
    repeat' (first | ((first | apply Ba | (apply Bb; (· rfl); (· rfl)) | (apply Bc; (· exact nxE)) | (apply Bd; (· rfl); (· rfl); (· exact nxE))); (· first | exact Ok.append1 (row := [DI e]) rfl rfl (by decide) rfl rfl hapl rfl rfl rfl (by rfl) (by omega) (by omega) | exact Ok.pe)) | ((first | apply Ca | (apply Cb; (· exact nxE))); (· first | exact Ok.append1 (row := [DI e]) rfl rfl (by decide) rfl rfl hapl rfl rfl rfl (by rfl) (by omega) (by omega) | exact Ok.e0)) | refine Sx ?_ | (refine Sy (fun h => ?_) (fun h => ?_) <;> try (exfalso; omega; done)) | refine Sz (fun h => ?_) (fun h => ?_))
    refine ⟨⟨w + 1, by omega⟩, ?_, by simp only; omega⟩
    simp only [htk]
    (apply Le.headZ [_, _] rfl)
    all_goals (try dsimp only [srcs])
    (case' hfr | hob => (repeat' (first | refine La ?_ ?_ | exact Lc | refine Lo ?_ | refine ⟨⟨_, rfl, ?_⟩, ?_⟩ | refine Lx ?_)))
    all_goals (first | ((first | rfl | (simp [cN]; done))) | exact Ld)
  have hrow := pl_row (n := 0) hlt2
  have hli := hlk i hlt hlt2
  have hpp := hvp i hlt2
  clear hvp
  generalize plA xs i = p at *
  obtain ⟨pf, pt, pd, pk⟩ := p
  simp only at hrow hli hpp
  have hHf := hH pf
  by_cases hc2 : pt = (e : Int) ∧ pk = 0
  · obtain ⟨hh, a, b, ha, hb2, hab⟩ := hli hc2.1 hc2.2
    obtain ⟨hc3, hc4⟩ := hc2
    rw [hh] at hHf
    clear hH hlk hlaw htk
    generalize cN q = L at *
    repeat' (first | ((first | apply Ba | (apply Bb; (· rfl); (· rfl)) | (apply Bc; (· exact nxE)) | (apply Bd; (· rfl); (· rfl); (· exact nxE))); (· first | exact Ez rfl rfl (hHf) (Sw (Sd Sn)) | exact Ok.pe)) | ((first | apply Ca | (apply Cb; (· exact nxE))); (· first | exact Ok.e0)) | refine Sx ?_ | (refine Sy (fun h => ?_) (fun h => ?_) <;> try (exfalso; omega; done)) | refine Sz (fun h => ?_) (fun h => ?_))
    all_goals
      refine ⟨⟨i + 1, by omega⟩, ?_, by simp only; omega⟩
      (apply Le.headZ [_, _] rfl)
      all_goals (try dsimp only [srcs])
      (case' hfr | hob => (repeat' (first | refine La ?_ ?_ | exact Lc | refine Lo ?_ | refine ⟨⟨_, rfl, ?_⟩, ?_⟩ | refine Lx ?_)))
      all_goals (first | (rfl) | exact Ld)
  ·
    repeat' (first | ((first | apply Ba | (apply Bb; (· rfl); (· rfl)) | (apply Bc; (· exact nxE)) | (apply Bd; (· rfl); (· rfl); (· exact nxE))); (· first | exact Ok.pe)) | ((first | apply Ca | (apply Cb; (· exact nxE))); (· first | exact Ok.e0)) | refine Sx ?_ | (refine Sy (fun h => ?_) (fun h => ?_) <;> try (exfalso; omega; done)) | refine Sz (fun h => ?_) (fun h => ?_))
    all_goals
      refine ⟨⟨i + 1, by omega⟩, ?_, by simp only; omega⟩
      (apply Le.headZ [_, _] rfl)
      all_goals (try dsimp only [srcs])
      (case' hfr | hob => (repeat' (first | refine La ?_ ?_ | exact Lc | refine Lo ?_ | refine ⟨⟨_, rfl, ?_⟩, ?_⟩ | refine Lx ?_)))
      all_goals (first | (rfl) | exact Ld)
end Go.Proofs.Ytpgcmpbamlnkkaa
end

section
namespace Go.Proofs.Ytpgcmpbamlnkkaa
set_option linter.unusedSimpArgs false
set_option linter.unusedVariables false
open Go Go.RowKit
attribute [local irreducible] AL AD AW OpOk Le AC thenQ blockQ EndQ

set_option maxRecDepth 100000 in
set_option maxHeartbeats 8000000 in
theorem lawFnOrders_ac (code : List Int) (hl : code.length ≤ 9223372036854775807) (hb : ∀ b ∈ code, 0 ≤ b ∧ b ≤ 255) : AC Try.prog 3 [.d (BD code)] H0 (Bo true) H0 := by
  have hBig := big_ac code hl
  by_cases hbig : 4096 < (code.length : Int)
  ·
    refine AC.of_body 0 Try.func3 rfl (fun l h => absurd rfl h) (fun C hC => ?_)
    have hD : ∀ l, ¬ C.D0 l := fun l h => (hC l).1 h rfl
    simp only [startFr, Try.ntmps3, List.length_cons, List.length_nil, Nat.reduceAdd, Nat.reduceSub, List.replicate_succ, List.replicate_zero, List.cons_append, List.nil_append]
    repeat' (first | ((first | apply Ba | (apply Bb; (· rfl); (· rfl)) | (apply Bc; (· exact nxE)) | (apply Bd; (· rfl); (· rfl); (· exact nxE))); (· first | exact Kz rfl rfl (hBig) (Ad An) | exact Ok.pe)) | ((first | apply Ca | (apply Cb; (· exact nxE))); (· first | exact Ok.e0)) | refine Sx ?_ | (refine Sy (fun h => ?_) (fun h => ?_) <;> try (exfalso; omega; done)) | refine Sz (fun h => ?_) (fun h => ?_))
    refine Ya ?_
    (apply Le.headZ (hs := []) [] rfl)
    all_goals (try dsimp only [srcs])
    (case' hfr => (repeat' (first | refine La ?_ ?_ | exact Lc | refine Lo ?_ | refine ⟨⟨_, rfl, ?_⟩, ?_⟩ | refine Lx ?_)))
    all_goals (first | exact Ld | exact trivial | (rfl))
  have hc : CodeOk code := ⟨by omega, hb⟩
  obtain ⟨ev, xs, hev, hx, hG⟩ := drawFiringOrder_ex code hc
  cases hg : isEG ev xs
  · exact foInv_ac code hl hb hbig ev xs hev hx hG hg
  · have hl15 : liveI ev xs = 0 ∨ liveI ev xs = 5 := by
      unfold liveI; rw [if_pos hg]; split <;> simp
    rcases hl15 with h0 | h0
    · exact foLive_ac code hl hb hbig ev xs hev hx hG hg h0
    · exact foDead_ac code hl hb hbig ev xs hev hx hG hg h0
end Go.Proofs.Ytpgcmpbamlnkkaa
end
