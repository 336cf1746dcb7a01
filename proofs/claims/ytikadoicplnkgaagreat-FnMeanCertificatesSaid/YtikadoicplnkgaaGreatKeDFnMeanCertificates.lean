/-
  The law FnMeanCertificates, in the abstract reading.
-/
import Derived.Test.YtikadoicplnkgaaGreatKeU14
import Derived.Test.YtikadoicplnkgaaGreatKeU15
namespace Go.Proofs.YtikadoicplnkgaaGreat
set_option linter.unusedSimpArgs false
set_option linter.unusedVariables false
open Go Go.RowKit
attribute [local irreducible] AL AD AW OpOk Le AC thenQ blockQ EndQ

theorem frzI2 {P : Program} {f : FuncId} {args : List AV} {n : Nat} {d : D} {xs : List Int} (hc : AC P f args H0 (.tup [own1 1 n, .d d]) (hp1 (IO xs))) (hn : xs.length = n) : AC P f args H0 (.tup [IL xs, .d d]) H0 :=
  hc.frz (ARs.tup (.cons (AR.whole (l := ⟨0, []⟩) rfl trivial (by simpa using hn)) (.cons (.dd _) .nil)))
set_option maxRecDepth 100000 in
set_option maxHeartbeats 16000000 in
theorem lawFnMeanCertificates_ac (code : List Int) (hl : code.length ≤ 9223372036854775807) (hb : ∀ b ∈ code, 0 ≤ b ∧ b ≤ 255) : AC Tryz.prog 3 [.d (BD code)] H0 (Bo true) H0 := by
  have hBig := big_ac code hl
  by_cases hbig : 4096 < (code.length : Int)
  ·
    refine AC.of_body 0 Tryz.func3 rfl (fun l h => absurd rfl h) (fun C hC => ?_)
    have hD : ∀ l, ¬ C.D0 l := fun l h => (hC l).1 h rfl
    simp only [startFr, Tryz.ntmps3, List.length_cons, List.length_nil, Nat.reduceAdd, Nat.reduceSub, List.replicate_succ, List.replicate_zero, List.cons_append, List.nil_append]
    repeat' (first | ((first | apply Ba | (apply Bb; (· rfl); (· rfl)) | (apply Bc; (· exact nxE)) | (apply Bd; (· rfl); (· rfl); (· exact nxE))); (· first | exact Kz rfl rfl (hBig) (Ad An) | exact Ok.pe)) | ((first | apply Ca | (apply Cb; (· exact nxE))); (· first | exact Ok.e0)) | refine Sx ?_ | (refine Sy (fun h => ?_) (fun h => ?_) <;> try (exfalso; omega; done)) | refine Sz (fun h => ?_) (fun h => ?_))
    refine Ya ?_
    (apply Le.headZ (hs := []) [] rfl)
    all_goals (try dsimp only [srcs])
    (case' hfr => (repeat' (first | refine La ?_ ?_ | exact Lc | refine Lo ?_ | refine ⟨⟨_, rfl, ?_⟩, ?_⟩ | refine Lx ?_)))
    all_goals (first | exact Ld | exact trivial | (rfl))
  have hc : CodeOk code := ⟨by omega, hb⟩
  obtain ⟨t, hT, hG⟩ := drawCertifyMean_ex code hc
  obtain ⟨u, q, l, y, hU, hU6, hq, hl2, hy, hG2⟩ := drawIsMeanCertificate_ex code hc
  obtain ⟨e, hE, hG3⟩ := drawBestCycle_ex code hc
  have ht : t.length ≤ 100000000 := by have := hT.l; omega
  have hr : ∀ r ∈ t, r.length ≤ 100000000 := fun r h => by have := hT.r r h; omega
  have hu : u.length ≤ 100000000 := by omega
  have hur : ∀ r ∈ u, r.length ≤ 100000000 := fun r h => by have := hU.r r h; omega
  have he : e.length ≤ 100000000 := by have := hE.l; omega
  have her : ∀ r ∈ e, r.length ≤ 100000000 := fun r h => by have := hE.r r h; omega
  have hI := (iCertifyMean_ac t ht hr).frz (resD := .tup [.agg [I (cfR t).1, I (cfR t).2], IL (cfL t), IL (cfX t), I (cfC t)]) (ARs.tup (.cons (ARs.agg (.cons (.dd _) (.cons (.dd _) .nil))) (.cons (AR.whole (l := ⟨0, []⟩) rfl trivial (by simp)) (.cons (AR.whole (l := ⟨1, []⟩) rfl trivial (by simp)) (.cons (.dd _) .nil)))))
  have hS := sCertifyMean_ac t ht hr
  have hI2 := iIsMeanCertificate_ac u q l y hq hu hur (by omega) (by omega)
  have hS2 := sIsMeanCertificate_ac u q l y hq hu hur (by omega) (by omega)
  have hB := frzI2 (iBestCycle_ac e he her) (by simp [cN])
  have hSB := sBestCycle_ac e he her
  have hL1 := likeInts_refl (cfL t) (by have := cfL_len (t := t); omega)
  have hL2 := likeInts_refl (cfX t) (by have := cfX_len (t := t); omega)
  have hbl : (cN (bmL e)).length ≤ 1000 := by
    simp only [cN, List.length_map]
    unfold bmL
    split
    · have := bkF_len (t := e) (n := e.length) (r := kmR (entN e) e.length) (over := -1)
      have := hE.l
      omega
    · simp
  have hL3 := likeInts_refl (cN (bmL e)) (by omega)
  have hfin : cfC t = 0 → AC Tryz.prog 15 [TL t, .agg [I (cfR t).1, I (cfR t).2], IL (cfL t), IL (cfX t)] H0 (Bo true) H0 := fun h0 => by
    have hd : DrR (cfR t) := by
      have e1 : cfR t = kmR (entN t) t.length := by unfold cfR; rw [if_pos h0]
      have hcm : cmC t = 0 := by
        unfold cfC at h0
        by_cases h1 : cmC t = 0
        · exact h1
        · rw [if_neg h1] at h0; exact absurd h0 h1
      obtain ⟨g1, g2, g3, g4, _⟩ := cm_ok hcm
      obtain ⟨_, _, m3, m4⟩ := kmR_ok (isSq_ok g1).b (isSq_ok g1).le g2
      have g5 := wi_iff.1 g3
      rw [e1]
      exact ⟨by omega, by omega, fun _ => by omega⟩
    have := iIsMeanCertificate_ac t (cfR t) (cfL t) (cfX t) hd ht hr (by have := cfL_len (t := t); omega) (by have := cfX_len (t := t); omega)
    rwa [cert_ok h0] at this
  generalize cfR t = m at *
  generalize cfL t = l1 at *
  generalize cfX t = l2 at *
  generalize cfC t = c at *
  generalize mcB u q l y = z at *
  generalize cN (bmL e) = l3 at *
  generalize bmC e = c3 at *
  obtain ⟨q1, q2⟩ := q
  obtain ⟨m1, m2⟩ := m
  simp only at hI hS hI2 hS2 hG2 hfin
  by_cases hc0 : c = 0
  · have hfin := hfin hc0
    refine AC.of_body 0 Tryz.func3 rfl (fun l h => absurd rfl h) (fun C hC => ?_)
    have hD : ∀ l, ¬ C.D0 l := fun l h => (hC l).1 h rfl
    simp only [startFr, Tryz.ntmps3, List.length_cons, List.length_nil, Nat.reduceAdd, Nat.reduceSub, List.replicate_succ, List.replicate_zero, List.cons_append, List.nil_append]
    repeat' (first | ((first | apply Ba | (apply Bb; (· rfl); (· rfl)) | (apply Bc; (· exact nxE)) | (apply Bd; (· rfl); (· rfl); (· exact nxE))); (· first | exact Kz rfl rfl (hBig) (Ad An) | exact Kz rfl rfl (hG) (Ad An) | exact Kz rfl rfl (hG2) (Ad An) | exact Kz rfl rfl (hG3) (Ad An) | exact Kz rfl rfl (hI) (Ad An) | exact Kz rfl rfl (hS) (Ad An) | exact Kz rfl rfl (hB) (Ad An) | exact Kz rfl rfl (hSB) (Ad An) | exact Kz rfl rfl (hI2) (Ad (Aa (Ad (Ad An)) (Ad (Ad An)))) | exact Kz rfl rfl (hS2) (Ad (Aa (Ad (Ad An)) (Ad (Ad An)))) | exact Kz rfl rfl (hfin) (Ad (Aa (Ad (Ad An)) (Ad (Ad An)))) | exact Kz rfl rfl (hL1) (Ad (Ad An)) | exact Kz rfl rfl (hL2) (Ad (Ad An)) | exact Kz rfl rfl (hL3) (Ad (Ad An)) | exact Ok.neqRtS rfl rfl rfl | exact Ok.bneS rfl rfl rfl (by kernel_rfl) | exact Ok.pe)) | ((first | apply Ca | (apply Cb; (· exact nxE))); (· first | exact Ok.e0)) | refine Sx ?_ | (refine Sy (fun h => ?_) (fun h => ?_) <;> try (exfalso; omega; done)) | refine Sz (fun h => ?_) (fun h => ?_))
    all_goals
      refine Ya ?_
      (apply Le.headZ (hs := []) [] rfl)
      all_goals (try dsimp only [srcs])
      (case' hfr => (repeat' (first | refine La ?_ ?_ | exact Lc | refine Lo ?_ | refine ⟨⟨_, rfl, ?_⟩, ?_⟩ | refine Lx ?_)))
      all_goals (first | exact Ld | exact trivial | (first | rfl | exact (decide_eq_true (by omega)).symm))
  · clear hfin
    refine AC.of_body 0 Tryz.func3 rfl (fun l h => absurd rfl h) (fun C hC => ?_)
    have hD : ∀ l, ¬ C.D0 l := fun l h => (hC l).1 h rfl
    simp only [startFr, Tryz.ntmps3, List.length_cons, List.length_nil, Nat.reduceAdd, Nat.reduceSub, List.replicate_succ, List.replicate_zero, List.cons_append, List.nil_append]
    repeat' (first | ((first | apply Ba | (apply Bb; (· rfl); (· rfl)) | (apply Bc; (· exact nxE)) | (apply Bd; (· rfl); (· rfl); (· exact nxE))); (· first | exact Kz rfl rfl (hBig) (Ad An) | exact Kz rfl rfl (hG) (Ad An) | exact Kz rfl rfl (hG2) (Ad An) | exact Kz rfl rfl (hG3) (Ad An) | exact Kz rfl rfl (hI) (Ad An) | exact Kz rfl rfl (hS) (Ad An) | exact Kz rfl rfl (hB) (Ad An) | exact Kz rfl rfl (hSB) (Ad An) | exact Kz rfl rfl (hI2) (Ad (Aa (Ad (Ad An)) (Ad (Ad An)))) | exact Kz rfl rfl (hS2) (Ad (Aa (Ad (Ad An)) (Ad (Ad An)))) | exact Kz rfl rfl (hL1) (Ad (Ad An)) | exact Kz rfl rfl (hL2) (Ad (Ad An)) | exact Kz rfl rfl (hL3) (Ad (Ad An)) | exact Ok.neqRtS rfl rfl rfl | exact Ok.bneS rfl rfl rfl (by kernel_rfl) | exact Ok.pe)) | ((first | apply Ca | (apply Cb; (· exact nxE))); (· first | exact Ok.e0)) | refine Sx ?_ | (refine Sy (fun h => ?_) (fun h => ?_) <;> try (exfalso; omega; done)) | refine Sz (fun h => ?_) (fun h => ?_))
    all_goals
      refine Ya ?_
      (apply Le.headZ (hs := []) [] rfl)
      all_goals (try dsimp only [srcs])
      (case' hfr => (repeat' (first | refine La ?_ ?_ | exact Lc | refine Lo ?_ | refine ⟨⟨_, rfl, ?_⟩, ?_⟩ | refine Lx ?_)))
      all_goals (first | exact Ld | exact trivial | (first | rfl | exact (decide_eq_true (by omega)).symm))
end Go.Proofs.YtikadoicplnkgaaGreat
