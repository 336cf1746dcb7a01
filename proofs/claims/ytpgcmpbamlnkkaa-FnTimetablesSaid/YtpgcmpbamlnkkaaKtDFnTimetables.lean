/-
  The law FnTimetables, in the abstract reading.
-/
import Derived.Test.YtpgcmpbamlnkkaaKtDFnTimetablesA
import Derived.Test.YtpgcmpbamlnkkaaKtDFnTimetablesB
import Derived.Test.YtpgcmpbamlnkkaaKtDFnTimetablesC
import Derived.Test.YtpgcmpbamlnkkaaKtDFnTimetablesD
import Derived.Test.YtpgcmpbamlnkkaaKtU13
namespace Go.Proofs.Ytpgcmpbamlnkkaa
set_option linter.unusedSimpArgs false
set_option linter.unusedVariables false
open Go Go.RowKit
attribute [local irreducible] AL AD AW OpOk Le AC thenQ blockQ EndQ

set_option maxRecDepth 100000 in
set_option maxHeartbeats 16000000 in
theorem lawFnTimetables_ac (code : List Int) (hl : code.length ≤ 9223372036854775807) (hb : ∀ b ∈ code, 0 ≤ b ∧ b ≤ 255) : AC Try.prog 4 [.d (BD code)] H0 (Bo true) H0 := by
  have hBig := big_ac code hl
  by_cases hbig : 4096 < (code.length : Int)
  ·
    refine AC.of_body 0 Try.func4 rfl (fun l h => absurd rfl h) (fun C hC => ?_)
    have hD : ∀ l, ¬ C.D0 l := fun l h => (hC l).1 h rfl
    simp only [startFr, Try.ntmps4, List.length_cons, List.length_nil, Nat.reduceAdd, Nat.reduceSub, List.replicate_succ, List.replicate_zero, List.cons_append, List.nil_append]
    repeat' (first | ((first | apply Ba | (apply Bb; (· rfl); (· rfl)) | (apply Bc; (· exact nxE)) | (apply Bd; (· rfl); (· rfl); (· exact nxE))); (· first | exact Kz rfl rfl (hBig) (Ad An) | exact Ok.pe)) | ((first | apply Ca | (apply Cb; (· exact nxE))); (· first | exact Ok.e0)) | refine Sx ?_ | (refine Sy (fun h => ?_) (fun h => ?_) <;> try (exfalso; omega; done)) | refine Sz (fun h => ?_) (fun h => ?_))
    refine Ya ?_
    (apply Le.headZ (hs := []) [] rfl)
    all_goals (try dsimp only [srcs])
    (case' hfr => (repeat' (first | refine La ?_ ?_ | exact Lc | refine Lo ?_ | refine ⟨⟨_, rfl, ?_⟩, ?_⟩ | refine Lx ?_)))
    all_goals (first | exact Ld | exact trivial | (rfl))
  have hc : CodeOk code := ⟨by omega, hb⟩
  obtain ⟨ev, xs, P, hev, hx, hP, hG⟩ := drawEarliestTimetable_ex code hc
  obtain ⟨ew, ys, Q, hew, hy, hQ, hG2⟩ := drawConflictCircuit_ex code hc
  obtain ⟨ez, zs, R, st, hez, hz, hst, hG3⟩ := drawSlacksOf_ex code hc
  have hE1 := iEarliestTimetable_ac ev xs P (by omega)
  have hE2 := sEarliestTimetable_ac ev xs P (by omega)
  have hB1 := iConflictCircuit_ac ew ys Q (by omega)
  have hB2 := sConflictCircuit_ac ew ys Q (by omega)
  have hS1 := iSlacksOf_ac ez zs R st (by omega) (by omega)
  have hS2 := sSlacksOf_ac ez zs R st (by omega) (by omega)
  have hK := iIsKept_ac ez zs R st (by omega) (by omega)
  have hT1 := iTightPlaces_ac ez zs R st (by omega) (by omega)
  have hT2 := sTightPlaces_ac ez zs R st (by omega) (by omega)
  have hV1 := iIsTimetable_ac ez zs R st (by omega) (by omega)
  have hV2 := sIsTimetable_ac ez zs R st (by omega) (by omega)
  have hel := et_len (ev := ev) (xs := xs) (P := P)
  have hcl := cc_len (ev := ew) (xs := ys) (P := Q)
  obtain ⟨hsl, htl, hti, hkt⟩ := sl_law (ev := ez) (xs := zs) (P := R) (st := st)
  have hL0 := like9_refl (etP ev xs P) (etS ev xs P) (by omega)
  have hL1 := likeInts_refl (cN (ccL ew ys Q)) (by omega)
  have hL2 := likeInts_refl (slO ez zs R st) (by omega)
  have hL3 := likeInts_refl (tiO ez zs R st) (by omega)
  have hH := fun i : Int => hasInt_ac (tiO ez zs R st) i (by omega)
  have hK2 : etC ev xs P = 0 → etP ev xs P = P ∧ AC Try.prog 34 [grD ev xs, ttA (etP ev xs P) (etS ev xs P)] H0 (.tup [Bo true, I 0]) H0 := fun h0 => by
    obtain ⟨e1, e2, e3⟩ := et_kept h0
    have := iIsKept_ac ev xs (etP ev xs P) (etS ev xs P) (by omega) (by omega)
    rw [e1, e2] at this
    exact ⟨e3, this⟩
  have hCi : ccC ew ys Q = 0 → AC Try.prog 40 [grD ew ys, IL (cN (ccL ew ys Q))] H0 (Bo true) H0 := fun h0 => by
    obtain ⟨n, rfl, g1, g2, g3, hv, hg, hp, k1, k2, k3⟩ := cc_ok h0
    exact iIsCircuit_ac n ys (ccL n ys Q) hg k1 (by omega)
  have hCs : ccC ew ys Q = 0 → (0 ≤ Q ∧ Q ≤ 100000) ∧ (∀ i ∈ ccL ew ys Q, i < ys.length) ∧ (∀ c : List Nat, (∀ i ∈ c, i < ys.length) → (0 ≤ sumD ys c ∧ sumD ys c ≤ 10000 * c.length) ∧ (0 ≤ sumT ys c ∧ sumT ys c ≤ 5 * c.length)) ∧ (∀ i, i < ys.length → (0 ≤ (plA ys i).d ∧ (plA ys i).d ≤ 10000) ∧ (0 ≤ (plA ys i).k ∧ (plA ys i).k ≤ 5)) ∧ Q * sumT ys (ccL ew ys Q) < sumD ys (ccL ew ys Q) := fun h0 => by
    obtain ⟨n, rfl, g1, g2, g3, hv, hg, hp, k1, k2, k3⟩ := cc_ok h0
    exact ⟨hp, k1.wk.lt, fun c hc => sum_bnd (fun i hi => (okPl_at hv i hi).2.2) hc, fun i hi => (okPl_at hv i hi).2.2, k3⟩
  have hQ2 := hCi
  clear hCi
  generalize (isEG ez zs && ttB ez R st) = vb at *
  generalize ktB ez zs R st = kb at *
  generalize slO ez zs R st = s at *
  generalize tiO ez zs R st = p at *
  generalize ttC ez zs R st = c3 at *
  generalize etP ev xs P = P1 at *
  generalize etS ev xs P = x1 at *
  generalize etC ev xs P = c1 at *
  generalize ccC ew ys Q = c2 at *
  generalize ccL ew ys Q = l at *
  have hll : l.length ≤ 1000 := by simpa [cN] using hcl
  by_cases h2 : c2 = 0
  · have hq2 := hQ2 h2
    obtain ⟨hq, hlm, hsb, hpb, hgt⟩ := hCs h2
    by_cases h1 : c1 = 0
    · obtain ⟨e, hk2⟩ := hK2 h1
      exact ttWalkD code hbig ev xs P ew ys Q ez zs R st P1 x1 c1 l c2 s p c3 kb vb hsl hll hti hkt hH h1 h2 e hk2 hq2 hq hlm hsb hpb hgt hBig hG hG2 hG3 hE1 hB1 hS1 hT1 hV1 hE2 hB2 hS2 hT2 hV2 hK hL0 hL1 hL2 hL3
    · exact ttWalkC code hbig ev xs P ew ys Q ez zs R st P1 x1 c1 l c2 s p c3 kb vb hsl hll hti hkt hH h1 h2 hq2 hq hlm hsb hpb hgt hBig hG hG2 hG3 hE1 hB1 hS1 hT1 hV1 hE2 hB2 hS2 hT2 hV2 hK hL0 hL1 hL2 hL3
  · by_cases h1 : c1 = 0
    · obtain ⟨e, hk2⟩ := hK2 h1
      exact ttWalkB code hbig ev xs P ew ys Q ez zs R st P1 x1 c1 l c2 s p c3 kb vb hsl hll hti hkt hH h1 h2 e hk2 hBig hG hG2 hG3 hE1 hB1 hS1 hT1 hV1 hE2 hB2 hS2 hT2 hV2 hK hL0 hL1 hL2 hL3
    · exact ttWalkA code hbig ev xs P ew ys Q ez zs R st P1 x1 c1 l c2 s p c3 kb vb hsl hll hti hkt hH h1 h2 hBig hG hG2 hG3 hE1 hB1 hS1 hT1 hV1 hE2 hB2 hS2 hT2 hV2 hK hL0 hL1 hL2 hL3
end Go.Proofs.Ytpgcmpbamlnkkaa
