/-
  The law FnReplayed, in the abstract reading.
-/
import Derived.Test.YtofakjlamoigcaaGreatDoorKsDFnReplayedA
import Derived.Test.YtofakjlamoigcaaGreatDoorKsDFnReplayedB
namespace Go.Proofs.YtofakjlamoigcaaGreatDoor
set_option linter.unusedSimpArgs false
set_option linter.unusedVariables false
open Go Go.RowKit
attribute [local irreducible] AL AD AW OpOk Le AC thenQ blockQ EndQ

/-- What FirstDifference answers, both sides, either way round. -/
theorem fd_all [Mode] [HasTab] [HasErr] [HasLen] (u v : List UInt8) (hu : u.length ≤ 1048576) (hv : v.length ≤ 1048576) : ∃ d c3, AC Tryz.prog 32 [Str u, Str v] H0 (.tup [I d, I c3]) H0 ∧ AC Tryz.prog 33 [Str u, Str v] H0 (.tup [I d, I c3]) H0 ∧ AC Tryz.prog 32 [Str v, Str u] H0 (.tup [I d, I c3]) H0 := by
  by_cases hb : 20000 < u.length ∨ 20000 < v.length
  · exact ⟨0, 3, iFirstDifference_big u v hu hv hb, sFirstDifference_big u v hb, iFirstDifference_big v u hv hu hb.symm⟩
  · obtain ⟨fs, r, hf⟩ := rec_ex u
    obtain ⟨gs, r', hg⟩ := rec_ex v
    obtain ⟨m, hm⟩ := fd_ex fs gs
    have h3 := iFirstDifference_ok v u gs fs r' r m hg hf hm.symm (by omega) (by omega)
    rw [fdN_symm] at h3
    exact ⟨fdN fs gs m, 0, iFirstDifference_ok u v fs gs r r' m hf hg hm (by omega) (by omega), sFirstDifference_ok u v fs gs r r' m hf hg hm (by omega) (by omega), h3⟩
theorem fd_own [Mode] [HasTab] [HasErr] [HasLen] (u : List UInt8) (hu : u.length ≤ 1048576) : ∃ o c6, (c6 = 0 → o = -1) ∧ AC Tryz.prog 32 [Str u, Str u] H0 (.tup [I o, I c6]) H0 := by
  by_cases hb : 20000 < u.length
  · exact ⟨0, 3, (fun h => by cases h), iFirstDifference_big u u hu hu (.inl hb)⟩
  · obtain ⟨fs, r, hf⟩ := rec_ex u
    have h3 := iFirstDifference_ok u u fs fs r r fs.length hf hf (fd_self fs) (by omega) (by omega)
    rw [fdN_self] at h3
    exact ⟨-1, 0, fun _ => rfl, h3⟩
set_option maxHeartbeats 1000000 in
set_option maxRecDepth 100000 in
theorem lawFnReplayed_ac [Mode] [HasTab] [HasErr] [HasLen] (code : List Int) (hl : code.length ≤ 9223372036854775807) (hb : ∀ b ∈ code, 0 ≤ b ∧ b ≤ 255) : AC Tryz.prog 5 [.d (BD code)] H0 (Bo true) H0 := by
  have hBig := big_ac code hl
  by_cases hbig : 4096 < (code.length : Int)
  ·
    refine AC.of_body 0 Tryz.func5 rfl (fun l h => absurd rfl h) (fun C hC => ?_)
    have hD : ∀ l, ¬ C.D0 l := fun l h => (hC l).1 h rfl
    simp only [startFr, Tryz.ntmps5, List.length_cons, List.length_nil, Nat.reduceAdd, Nat.reduceSub, List.replicate_succ, List.replicate_zero, List.cons_append, List.nil_append]
    repeat' (first | ((first | apply Ba | (apply Bb; (· rfl); (· rfl)) | (apply Bc; (· exact nxE)) | (apply Bd; (· rfl); (· rfl); (· exact nxE))); (· first | exact Kz rfl rfl (hBig) (Ad An) | exact Ok.slen rfl rfl | exact Ok.sneSame rfl rfl rfl | exact Ok.pe)) | ((first | apply Ca | (apply Cb; (· exact nxE))); (· first | exact Ok.e0)) | refine Sx ?_ | (refine Sy (fun h => ?_) (fun h => ?_) <;> try (exfalso; omega; done)) | refine Sz (fun h => ?_) (fun h => ?_))
    refine Ya ?_
    (apply Le.headZ (hs := []) [] rfl)
    all_goals (try dsimp only [srcs])
    (case' hfr => (repeat' (first | refine La ?_ ?_ | exact Lc | refine Lo ?_ | refine ⟨⟨_, rfl, ?_⟩, ?_⟩ | refine Lx ?_)))
    all_goals (first | exact Ld | exact trivial | (rfl))
  have hc : CodeOk code := ⟨by omega, hb⟩
  rw [decide_eq_false hbig] at hBig
  obtain ⟨s, f, hsl, hG1⟩ := drawAppendFiring_ex code hc
  obtain ⟨ev, xs, tr, hxl, htr, hG2⟩ := drawReplayTrace_ex code hc
  obtain ⟨u, v, hul, hvl, hG3⟩ := drawFirstDifference_ex code hc
  obtain ⟨fs, r, hf⟩ := rec_ex s
  obtain ⟨gs, r2, hg⟩ := rec_ex tr
  obtain ⟨d, c3, hI3, hS3, hI4⟩ := fd_all u v (by omega) (by omega)
  obtain ⟨o, c6, h6, hI5⟩ := fd_own u (by omega)
  have hI1 := iAppendFiring_ac s fs r f hf (by omega)
  have hS1 := sAppendFiring_ac s fs r f hf (by omega)
  have hI2 := (iReplayTrace_ac ev xs tr gs r2 hg (by omega) (by omega)).frz (ARs.tup (.cons (AR.whole rfl trivial IR_len) (.cons (.dd _) .nil)))
  have hS2 := sReplayTrace_ac ev xs tr gs r2 hg (by omega) (by omega)
  have hml := rpL_len ev xs tr gs
  have hLI := likeInts_refl (rpL ev xs tr gs) (by omega)
  have hbad : apC fs r f ≠ 0 → AC Tryz.prog 5 [.d (BD code)] H0 (Bo true) H0 := fun hb => by
    by_cases hc6 : c6 = 0
    · have ho := h6 hc6
      subst hc6; subst ho
      exact replayed_A0 code s _ tr u v f ev xs _ _ _ d c3 hb hBig hG1 hI1 hS1 hG2 hI2 hS2 hG3 hI3 hS3 hI4 hI5 hLI
    · exact replayed_A1 code s _ tr u v f ev xs _ _ _ d c3 o c6 hb hc6 hBig hG1 hI1 hS1 hG2 hI2 hS2 hG3 hI3 hS3 hI4 hI5 hLI
  by_cases h0 : r = []
  case neg => exact hbad (by rw [apC, if_pos h0]; decide)
  subst h0
  cases hw : wrF f with
  | false => exact hbad (by rw [apC, if_neg (by simp), if_pos hw]; decide)
  | true =>
    by_cases h5 : fs.length = 500
    · exact hbad (by rw [apC, if_neg (by simp), if_neg (by rw [hw]; decide), if_pos h5]; decide)
    · have hl5 := hf.len
      have hs2 := trT_len15 (c := 1) (by decide) hf.wr
      have htx := hf.txt
      rw [List.append_nil] at htx
      have hcb := chA_bd (c := 1) (by decide) (by decide) hf.wr
      have hn15 := trN_len15 hcb.1 hw
      have e1 : apT s fs [] f = s ++ trN (chA 1 fs) f := if_neg (by rw [hw]; simp [h5])
      have e0 : apC fs [] f = 0 := by rw [apC, if_neg (by simp), if_neg (by rw [hw]; decide), if_neg h5]
      rw [e0] at hI1 hS1
      have hA := iRecoverTrace_frz s fs [] hf (by omega)
      rw [rtL, rtC, if_neg (by rw [htx]; omega), if_neg (by rw [htx]; omega)] at hA
      have hsl2 : (s ++ trN (chA 1 fs) f).length ≤ 20000 := by rw [List.length_append, htx]; omega
      have hB := iRecoverTrace_frz (s ++ trN (chA 1 fs) f) _ [] (rec_app hf hw h5) (by omega)
      rw [rtL, rtC, if_neg (by omega), if_neg (by omega), ← e1] at hB
      have hL2 := likeRuns9_refl fs (by omega)
      by_cases hc6 : c6 = 0
      · have ho := h6 hc6
        subst hc6; subst ho
        exact replayed_B0 code s _ tr u v f ev xs _ _ d c3 hBig hG1 hI1 hS1 hG2 hI2 hS2 hG3 hI3 hS3 hI4 hI5 hLI fs _ hl5 hA hB hL2
      · exact replayed_B1 code s _ tr u v f ev xs _ _ d c3 o c6 hc6 hBig hG1 hI1 hS1 hG2 hI2 hS2 hG3 hI3 hS3 hI4 hI5 hLI fs _ hl5 hA hB hL2
end Go.Proofs.YtofakjlamoigcaaGreatDoor
