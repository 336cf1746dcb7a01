/-
  The law FnLeastPeriods, in the abstract reading.
-/
import Derived.Test.YtpgcmpbamlnkkaaKtDFnLeastPeriodsA
import Derived.Test.YtpgcmpbamlnkkaaKtDFnLeastPeriodsB
import Derived.Test.YtpgcmpbamlnkkaaKtDFnLeastPeriodsC
import Derived.Test.YtpgcmpbamlnkkaaKtDFnLeastPeriodsD
import Derived.Test.YtpgcmpbamlnkkaaKtDFnLeastPeriodsE
import Derived.Test.YtpgcmpbamlnkkaaKtDFnLeastPeriodsF
import Derived.Test.YtpgcmpbamlnkkaaKtU13
namespace Go.Proofs.Ytpgcmpbamlnkkaa
set_option linter.unusedSimpArgs false
set_option linter.unusedVariables false
open Go Go.RowKit
attribute [local irreducible] AL AD AW OpOk Le AC thenQ blockQ EndQ

set_option maxRecDepth 100000 in
set_option maxHeartbeats 16000000 in
theorem lawFnLeastPeriods_ac (code : List Int) (hl : code.length ≤ 9223372036854775807) (hb : ∀ b ∈ code, 0 ≤ b ∧ b ≤ 255) : AC Try.prog 5 [.d (BD code)] H0 (Bo true) H0 := by
  have hBig := big_ac code hl
  by_cases hbig : 4096 < (code.length : Int)
  ·
    refine AC.of_body 0 Try.func5 rfl (fun l h => absurd rfl h) (fun C hC => ?_)
    have hD : ∀ l, ¬ C.D0 l := fun l h => (hC l).1 h rfl
    simp only [startFr, Try.ntmps5, List.length_cons, List.length_nil, Nat.reduceAdd, Nat.reduceSub, List.replicate_succ, List.replicate_zero, List.cons_append, List.nil_append]
    repeat' (first | ((first | apply Ba | (apply Bb; (· rfl); (· rfl)) | (apply Bc; (· exact nxE)) | (apply Bd; (· rfl); (· rfl); (· exact nxE))); (· first | exact Kz rfl rfl (hBig) (Ad An) | exact Ok.pe)) | ((first | apply Ca | (apply Cb; (· exact nxE))); (· first | exact Ok.e0)) | refine Sx ?_ | (refine Sy (fun h => ?_) (fun h => ?_) <;> try (exfalso; omega; done)) | refine Sz (fun h => ?_) (fun h => ?_))
    refine Ya ?_
    (apply Le.headZ (hs := []) [] rfl)
    all_goals (try dsimp only [srcs])
    (case' hfr => (repeat' (first | refine La ?_ ?_ | exact Lc | refine Lo ?_ | refine ⟨⟨_, rfl, ?_⟩, ?_⟩ | refine Lx ?_)))
    all_goals (first | exact Ld | exact trivial | (rfl))
  have hc : CodeOk code := ⟨by omega, hb⟩
  obtain ⟨ev, xs, hev, hx, hG⟩ := drawLeastPeriod_ex code hc
  obtain ⟨ez, zs, P, st, b, hez, hz, hst, hbb, hG2⟩ := drawShiftTimetable_ex code hc
  have hI := iLeastPeriod_ac ev xs (by omega)
  have hS := sLeastPeriod_ac ev xs (by omega)
  have hI2 := iShiftTimetable_ac ez zs P st b (by omega) hst
  have hS2 := sShiftTimetable_ac ez zs P st b (by omega) hst
  have hsl := sh_len (ev := ez) (xs := zs) (P := P) (b := b) hst
  have hL0 := like9_refl (shP ez zs P st b) (shO ez zs P st b) (by omega)
  have hA := iSlacksOf_ac ez zs P st (by omega) (by omega)
  have hB := iSlacksOf_ac ez zs P (shO ez zs P st b) (by omega) (by omega)
  have hlen := (sl_law (ev := ez) (xs := zs) (P := P) (st := st)).1
  have hL1 := likeInts_refl (slO ez zs P st) (by omega)
  have hE := iEarliestTimetable_ac ev xs (lpV ev xs) (by omega)
  have hC := iConflictCircuit_ac ev xs (lpV ev xs - 1) (by omega)
  have hlaw := lp_law (ev := ev) (xs := xs)
  have hpb0 : 0 ≤ lpV ev xs ∧ lpV ev xs ≤ 100000 := by
    by_cases h : lpC ev xs = 0
    · exact (hlaw h).2.1
    · unfold lpV; rw [if_neg h]; omega
  have hsh := sh_law (ev := ez) (xs := zs) (P := P) (st := st) (b := b)
  have hQ := hC
  clear hC
  generalize shO ez zs P st b = y at *
  generalize shP ez zs P st b = R at *
  generalize shC ez zs P st b = c2 at *
  generalize etP ev xs (lpV ev xs) = q1 at *
  generalize etS ev xs (lpV ev xs) = q2 at *
  generalize etC ev xs (lpV ev xs) = q3 at *
  generalize cN (ccL ev xs (lpV ev xs - 1)) = r1 at *
  generalize ccC ev xs (lpV ev xs - 1) = r2 at *
  generalize lpV ev xs = p at *
  generalize lpC ev xs = c1 at *
  have go := lpWalkA
  clear go
  by_cases h1 : c1 = 0
  case neg =>
    by_cases h2 : c2 = 0
    · obtain ⟨e1, rfl, e3, e4⟩ := hsh h2
      rw [e1] at hA
      rw [e3, e4] at hB
      exact lpWalkB code hbig ev xs ez zs R st b p hpb0 c1 R y c2 h1 h2 _ hBig hG hG2 hI hS hI2 hS2 hL0 hA hB hL1
    · exact lpWalkA code hbig ev xs ez zs P st b p hpb0 c1 R y c2 h1 h2 hBig hG hG2 hI hS hI2 hS2 hL0
  obtain ⟨rfl, hpb, hor⟩ := hlaw h1
  by_cases h2 : c2 = 0
  · obtain ⟨e1, rfl, e3, e4⟩ := hsh h2
    rw [e1] at hA
    rw [e3, e4] at hB
    rcases hor with hp | hr
    · exact lpWalkE code hbig ev xs ez zs R st b p hpb c1 R y c2 h1 h2 _ _ _ _ _ hp hBig hG hG2 hI hS hI2 hS2 hL0 hA hB hL1 hE hQ
    · exact lpWalkF code hbig ev xs ez zs R st b p hpb c1 R y c2 h1 h2 _ _ _ _ _ hr hBig hG hG2 hI hS hI2 hS2 hL0 hA hB hL1 hE hQ
  · rcases hor with hp | hr
    · exact lpWalkC code hbig ev xs ez zs P st b p hpb c1 R y c2 h1 h2 _ _ _ _ hp hBig hG hG2 hI hS hI2 hS2 hL0 hE hQ
    · exact lpWalkD code hbig ev xs ez zs P st b p hpb c1 R y c2 h1 h2 _ _ _ _ hr hBig hG hG2 hI hS hI2 hS2 hL0 hE hQ
end Go.Proofs.Ytpgcmpbamlnkkaa
