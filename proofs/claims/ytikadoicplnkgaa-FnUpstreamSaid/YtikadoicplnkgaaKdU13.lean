/-
  Walks in the abstract reading, part 13.
-/
import Derived.Test.YtikadoicplnkgaaKdU12
import Derived.Test.YtikadoicplnkgaaKdU6
import Derived.Test.YtikadoicplnkgaaKdA3
section
namespace Go.Proofs.Ytikadoicplnkgaa
set_option linter.unusedSimpArgs false
set_option linter.unusedVariables false
open Go Go.RowKit
attribute [local irreducible] AL AD AW OpOk Le AC thenQ blockQ EndQ

theorem fitR_rt {a b : Int × Int} (ha : RtZ a) (hb : RtZ b) : fitR a b := by
  have h1 := mulB (q := b.2) (w := a.1) (Q := 1000000) (M := 1000000000000) (by have := hb.d; omega) hb.d.2 ha.n.1 ha.n.2 (by decide)
  have h2 := mulB (q := a.2) (w := b.1) (Q := 1000000) (M := 1000000000000) (by have := ha.d; omega) ha.d.2 hb.n.1 hb.n.2 (by decide)
  rw [Int.mul_comm b.2] at h1
  rw [Int.mul_comm a.2] at h2
  unfold fitR
  generalize a.1 * b.2 = x at *
  generalize b.1 * a.2 = y at *
  omega
theorem iCompareRatiosZ_ac (a b : Int × Int) (ha : RtZ a) (hb : RtZ b) (ia : isRt a = true) (ib : isRt b = true) : AC Try.prog 39 [.agg [I a.1, I a.2], .agg [I b.1, I b.2]] H0 (.tup [I (crI a b), I 0]) H0 := by
  have h1 := iIsRatioZ_ac a ha
  have h2 := iIsRatioZ_ac b hb
  have h3 := compareRatiosZ_ac a b (fitR_rt ha hb)
  rw [ia] at h1
  rw [ib] at h2
  obtain ⟨a1, a2⟩ := a
  obtain ⟨b1, b2⟩ := b
  generalize crI (a1, a2) (b1, b2) = c at *
  simp only at h1 h2 h3 ⊢
  refine AC.of_body 0 Try.func39 rfl (fun l h => absurd rfl h) (fun C hC => ?_)
  have hD : ∀ l, ¬ C.D0 l := fun l h => (hC l).1 h rfl
  simp only [startFr, Try.ntmps39, List.length_cons, List.length_nil, Nat.reduceAdd, Nat.reduceSub, List.replicate_succ, List.replicate_zero, List.cons_append, List.nil_append]
  repeat' (first | ((first | apply Ba | (apply Bb; (· rfl); (· rfl)) | (apply Bc; (· exact nxE)) | (apply Bd; (· rfl); (· rfl); (· exact nxE))); (· first | exact Kz rfl rfl (h1) (Aa (Ad (Ad An)) An) | exact Kz rfl rfl (h2) (Aa (Ad (Ad An)) An) | exact Kz rfl rfl (h3) (Aa (Ad (Ad An)) (Aa (Ad (Ad An)) An)) | exact Ok.pe)) | ((first | apply Ca | (apply Cb; (· exact nxE))); (· first | exact Ok.e0)) | refine Sx ?_ | (refine Sy (fun h => ?_) (fun h => ?_) <;> try (exfalso; omega; done)) | refine Sz (fun h => ?_) (fun h => ?_))
  refine Yb ?_
  (apply Le.headZ (hs := []) [] rfl)
  all_goals (try dsimp only [srcs])
  (case' hfr => (repeat' (first | refine La ?_ ?_ | exact Lc | refine Lo ?_ | refine ⟨⟨_, rfl, ?_⟩, ?_⟩ | refine Lx ?_)))
  all_goals (first | exact Ld | exact trivial | (rfl))
section
variable {A B : Nat → Nat → Int} {n : Nat}
theorem kP_congr (h : ∀ u v, u < n → v < n → A v u = B v u) : ∀ {l : List Nat} {u : Nat}, u < n → (∀ x ∈ l, x < n) → (kP A u l ↔ kP B u l) ∧ kW A u l = kW B u l
  | [], _, _, _ => ⟨Iff.rfl, rfl⟩
  | v :: l, u, hu, hl => by
    have hv := hl v (by simp)
    obtain ⟨h1, h2⟩ := kP_congr h (l := l) hv (fun x hx => hl x (by simp [hx]))
    simp only [kP, kW, h u v hu hv, h1, h2, and_true]
theorem KMean.congr (h : ∀ u v, u < n → v < n → A v u = B v u) {p q : Int} (hk : KMean A n p q) : KMean B n p q := by
  refine ⟨hk.pos, fun u l hu hl hp he => ?_, ?_⟩
  · obtain ⟨h1, h2⟩ := kP_congr h hu hl
    have := hk.le u l hu hl (h1.2 hp) he
    unfold kV at this ⊢
    rwa [← h2]
  · obtain ⟨u, l, hu, hl, h0, hp, he, hv⟩ := hk.eq
    obtain ⟨h1, h2⟩ := kP_congr h hu hl
    refine ⟨u, l, hu, hl, h0, h1.1 hp, he, ?_⟩
    unfold kV at hv ⊢
    rwa [← h2]
theorem KMean.has {p q : Int} (hk : KMean A n p q) : hasK A n := by
  obtain ⟨u, l, hu, hl, h0, hp, he, _⟩ := hk.eq
  exact ⟨u, l, hu, hl, h0, hp, he⟩
end
theorem upT_ent {t : List (List Int)} {e : Int} {u v : Nat} (hu : u < t.length) (hv : v < t.length) : entN (upT t e) v u = upF (rchF (entN t) t.length) (entN t) e.toNat v u := tabF_ent hv hu
theorem cm_rt {t : List (List Int)} (h : cmC t = 0) : RtZ (cmR t) ∧ isRt (cmR t) = true := by
  obtain ⟨h1, h2, h3, h4, _⟩ := cm_ok h
  rw [h4]
  exact ⟨kmR_rt (isSq_ok h1) h2, h3⟩
theorem um_ok {t : List (List Int)} {e : Int} (h : umC t e = 0) : isSq t = true ∧ nodB t e = true ∧ cmC (upT t e) = 0 ∧ umR t e = cmR (upT t e) := by
  unfold umC at h
  by_cases hs : isSq t = true
  · rw [if_pos hs] at h
    by_cases hn : nodB t e = true
    · rw [if_pos hn] at h
      unfold umR
      rw [if_pos hs, if_pos hn]
      exact ⟨hs, hn, h, rfl⟩
    · rw [if_neg hn] at h; cases h
  · rw [if_neg hs] at h; cases h
theorem up_law {t : List (List Int)} {e : Int} (h1 : umC t e = 0) (h2 : cmC t = 0) : crI (umR t e) (cmR t) ≤ 0 ∧ ∃ f r, bmL t = f :: r ∧ bmC t = 0 ∧ umC t (f : Nat) = 0 ∧ umR t (f : Nat) = cmR t := by
  obtain ⟨hs, hn, hc, hr⟩ := um_ok h1
  obtain ⟨_, k2, k3, k4, k5⟩ := cm_ok h2
  obtain ⟨u1, u2, u3, u4, u5⟩ := cm_ok hc
  have hM := isSq_ok hs
  have hU := isSq_ok u1
  rw [upT_len] at hU u2 u4
  obtain ⟨m1, m2, m3, m4⟩ := kmR_ok hM.b hM.le k2
  obtain ⟨n1, n2, n3, n4⟩ := kmR_ok hU.b hU.le u2
  refine ⟨?_, ?_⟩
  · rw [hr, u4, k4]
    have := kMean_le2 (n1.congr (fun u v hu hv => upT_ent hu hv)) m1 (fun u l hp => upF_p hp)
    apply Int.not_lt.1
    rw [crI_gt]
    rw [Int.mul_comm (kmR (entN t) t.length).1, Int.mul_comm (kmR (entN (upT t e)) t.length).1]
    omega
  · obtain ⟨f, r, e1, hcy, e2⟩ := best_ne hM.b hM.le k2
    have hf := hcy.lt
    have hcl := hcy.close
    obtain ⟨b1, b2, b3, b4⟩ := mR_ok hM.b hM.le hcy
    rw [e2] at b4
    have hl : ∀ x ∈ r ++ [f], x < t.length := fun x hx => by
      rcases List.mem_append.1 hx with hx | hx
      · exact (hcy.gt x hx).2
      · simp at hx; subst hx; exact hf
    have hup := up_top (F := rchF (entN t) t.length) (l := r ++ [f]) m1 (fun u hu h => (rch_iff hu hf).2 h) hf hl (by simp) ((kP_app r [f] f).2 ⟨hcy.path, hcl, trivial⟩) (by rw [kE_app]; rfl) (by
      unfold kV
      rw [kW_app]
      simp only [kW, Int.add_zero, List.length_append, List.length_cons, List.length_nil]
      unfold cyS at b4
      rw [show ((r.length + (0 + 1) : Nat) : Int) = (r.length : Int) + 1 by omega]
      exact b4)
    have hup2 : KMean (entN (upT t (f : Nat))) t.length (kmR (entN t) t.length).1 (kmR (entN t) t.length).2 := hup.congr (fun u v hu hv => by rw [upT_ent hu hv, Int.toNat_natCast])
    have hkm := kmR_eq hup2 m2
    have hsf := upT_sq (e := ((f : Nat) : Int)) hs
    have hnf : nodB t (f : Nat) = true := wi_iff.2 (by omega)
    have hb : bmC (upT t (f : Nat)) = 0 := by
      unfold bmC
      rw [if_pos hsf, upT_len, if_pos hup2.has]
    refine ⟨f, r, ?_, k5, ?_, ?_⟩
    · unfold bmL
      rw [if_pos k5]; exact e1
    · unfold umC
      rw [if_pos hs, if_pos hnf]
      unfold cmC
      rw [if_pos hb, upT_len, hkm]
      unfold rtC
      rw [if_pos k3]
    · unfold umR
      rw [if_pos hs, if_pos hnf, k4]
      unfold cmR
      rw [if_pos hb, upT_len, hkm]
      unfold rtR
      rw [if_pos k3]
theorem um_rt {t : List (List Int)} {e : Int} (h : umC t e = 0) : RtZ (umR t e) ∧ isRt (umR t e) = true := by
  obtain ⟨_, _, hc, hr⟩ := um_ok h
  rw [hr]; exact cm_rt hc
end Go.Proofs.Ytikadoicplnkgaa
end

section
namespace Go.Proofs.Ytikadoicplnkgaa
set_option linter.unusedSimpArgs false
set_option linter.unusedVariables false
open Go Go.RowKit
attribute [local irreducible] AL AD AW OpOk Le AC thenQ blockQ EndQ

theorem frzI2 {P : Program} {f : FuncId} {args : List AV} {n : Nat} {d : D} {xs : List Int} (hc : AC P f args H0 (.tup [own1 1 n, .d d]) (hp1 (IO xs))) (hn : xs.length = n) : AC P f args H0 (.tup [IL xs, .d d]) H0 :=
  hc.frz (ARs.tup (.cons (AR.whole (l := ⟨0, []⟩) rfl trivial (by simpa using hn)) (.cons (.dd _) .nil)))
set_option maxRecDepth 100000 in
set_option maxHeartbeats 8000000 in
theorem lawFnUpstream_ac (code : List Int) (hl : code.length ≤ 9223372036854775807) (hb : ∀ b ∈ code, 0 ≤ b ∧ b ≤ 255) : AC Try.prog 8 [.d (BD code)] H0 (Bo true) H0 := by
  have hBig := big_ac code hl
  by_cases hbig : 4096 < (code.length : Int)
  ·
    refine AC.of_body 0 Try.func8 rfl (fun l h => absurd rfl h) (fun C hC => ?_)
    have hD : ∀ l, ¬ C.D0 l := fun l h => (hC l).1 h rfl
    simp only [startFr, Try.ntmps8, List.length_cons, List.length_nil, Nat.reduceAdd, Nat.reduceSub, List.replicate_succ, List.replicate_zero, List.cons_append, List.nil_append]
    repeat' (first | ((first | apply Ba | (apply Bb; (· rfl); (· rfl)) | (apply Bc; (· exact nxE)) | (apply Bd; (· rfl); (· rfl); (· exact nxE))); (· first | exact Kz rfl rfl (hBig) (Ad An) | exact Ok.pe)) | ((first | apply Ca | (apply Cb; (· exact nxE))); (· first | exact Ok.e0)) | refine Sx ?_ | (refine Sy (fun h => ?_) (fun h => ?_) <;> try (exfalso; omega; done)) | refine Sz (fun h => ?_) (fun h => ?_))
    refine Ya ?_
    (apply Le.headZ (hs := []) [] rfl)
    all_goals (try dsimp only [srcs])
    (case' hfr => (repeat' (first | refine La ?_ ?_ | exact Lc | refine Lo ?_ | refine ⟨⟨_, rfl, ?_⟩, ?_⟩ | refine Lx ?_)))
    all_goals (first | exact Ld | exact trivial | (rfl))
  have hc : CodeOk code := ⟨by omega, hb⟩
  obtain ⟨t, e, hT, hG⟩ := drawUpstreamMean_ex code hc
  have htl := hT.l
  have htr := hT.r
  have ht : t.length ≤ 100000000 := by omega
  have hr : ∀ r ∈ t, r.length ≤ 100000000 := fun r h => by have := htr r h; omega
  have hI := iUpstreamMean_ac t e ht hr
  have hS := sUpstreamMean_ac t e ht hr
  have hM := iCycleMean_ac t ht hr
  have hu : umC t e = 0 → RtZ (umR t e) ∧ isRt (umR t e) = true := um_rt
  have hm : cmC t = 0 → RtZ (cmR t) ∧ isRt (cmR t) = true := cm_rt
  by_cases h12 : umC t e = 0 ∧ cmC t = 0
  case neg =>
    generalize umR t e = r1 at *
    generalize cmR t = r2 at *
    generalize umC t e = c1 at *
    generalize cmC t = c2 at *
    refine AC.of_body 0 Try.func8 rfl (fun l h => absurd rfl h) (fun C hC => ?_)
    have hD : ∀ l, ¬ C.D0 l := fun l h => (hC l).1 h rfl
    simp only [startFr, Try.ntmps8, List.length_cons, List.length_nil, Nat.reduceAdd, Nat.reduceSub, List.replicate_succ, List.replicate_zero, List.cons_append, List.nil_append]
    repeat' (first | ((first | apply Ba | (apply Bb; (· rfl); (· rfl)) | (apply Bc; (· exact nxE)) | (apply Bd; (· rfl); (· rfl); (· exact nxE))); (· first | exact Kz rfl rfl (hBig) (Ad An) | exact Kz rfl rfl (hG) (Ad An) | exact Kz rfl rfl (hI) (Ad (Ad An)) | exact Kz rfl rfl (hS) (Ad (Ad An)) | exact Kz rfl rfl (hM) (Ad An) | exact Ok.neqRtS rfl rfl rfl | exact Ok.pe)) | ((first | apply Ca | (apply Cb; (· exact nxE))); (· first | exact Ok.e0)) | refine Sx ?_ | (refine Sy (fun h => ?_) (fun h => ?_) <;> try (exfalso; omega; done)) | refine Sz (fun h => ?_) (fun h => ?_))
    all_goals
      refine Ya ?_
      (apply Le.headZ (hs := []) [] rfl)
      all_goals (try dsimp only [srcs])
      (case' hfr => (repeat' (first | refine La ?_ ?_ | exact Lc | refine Lo ?_ | refine ⟨⟨_, rfl, ?_⟩, ?_⟩ | refine Lx ?_)))
      all_goals (first | exact Ld | exact trivial | (first | rfl | exact (decide_eq_true (by omega)).symm))
  obtain ⟨h1, h2⟩ := h12
  obtain ⟨hk, f, r, hb1, hb2, hb3, hb4⟩ := up_law h1 h2
  have hK := iCompareRatiosZ_ac (umR t e) (cmR t) (hu h1).1 (hm h2).1 (hu h1).2 (hm h2).2
  have hB := frzI2 (iBestCycle_ac t ht hr) (by simp [cN])
  have hI2 := iUpstreamMean_ac t (f : Nat) ht hr
  rw [hb1, hb2] at hB
  rw [hb3, hb4] at hI2
  rw [h1] at hI hS
  rw [h2] at hM
  have hrow : (IR (cN (f :: r)))[(0 : Int).toNat]? = some [DI (f : Nat)] := rfl
  generalize crI (umR t e) (cmR t) = k at *
  generalize umR t e = r1 at *
  generalize cmR t = r2 at *
  generalize f :: r = c at *
  refine AC.of_body 0 Try.func8 rfl (fun l h => absurd rfl h) (fun C hC => ?_)
  have hD : ∀ l, ¬ C.D0 l := fun l h => (hC l).1 h rfl
  simp only [startFr, Try.ntmps8, List.length_cons, List.length_nil, Nat.reduceAdd, Nat.reduceSub, List.replicate_succ, List.replicate_zero, List.cons_append, List.nil_append]
  repeat' (first | ((first | apply Ba | (apply Bb; (· rfl); (· rfl)) | (apply Bc; (· exact nxE)) | (apply Bd; (· rfl); (· rfl); (· exact nxE))); (· first | exact Kz rfl rfl (hBig) (Ad An) | exact Kz rfl rfl (hG) (Ad An) | exact Kz rfl rfl (hI) (Ad (Ad An)) | exact Kz rfl rfl (hI2) (Ad (Ad An)) | exact Kz rfl rfl (hS) (Ad (Ad An)) | exact Kz rfl rfl (hM) (Ad An) | exact Kz rfl rfl (hK) (Aa (Ad (Ad An)) (Aa (Ad (Ad An)) An)) | exact Kz rfl rfl (hB) (Ad An) | exact Ok.neqRtS rfl rfl rfl | exact Ok.eqRtS rfl rfl rfl | exact Ok.pe)) | ((first | apply Ca | (apply Cb; (· exact nxE))); (· first | exact Ok.e0)) | refine Sx ?_ | (refine Sy (fun h => ?_) (fun h => ?_) <;> try (exfalso; omega; done)) | refine Sz (fun h => ?_) (fun h => ?_))
  all_goals
    refine Ya ?_
    (apply Le.headZ (hs := []) [] rfl)
    all_goals (try dsimp only [srcs])
    (case' hfr => (repeat' (first | refine La ?_ ?_ | exact Lc | refine Lo ?_ | refine ⟨⟨_, rfl, ?_⟩, ?_⟩ | refine Lx ?_)))
    all_goals (first | exact Ld | exact trivial | (first | rfl | exact (decide_eq_true (by omega)).symm))
end Go.Proofs.Ytikadoicplnkgaa
end
