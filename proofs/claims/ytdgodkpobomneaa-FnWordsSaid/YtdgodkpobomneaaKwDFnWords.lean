/-
  The law FnWords, in the abstract reading.
-/
import Derived.Test.YtdgodkpobomneaaKwU12
import Derived.Test.YtdgodkpobomneaaKwU13
import Derived.Test.YtdgodkpobomneaaKwU14
import Derived.Test.YtdgodkpobomneaaKwU15
import Derived.Test.YtdgodkpobomneaaKwU16
import Derived.Test.YtdgodkpobomneaaKwU17
namespace Go.Proofs.Ytdgodkpobomneaa
set_option linter.unusedSimpArgs false
set_option linter.unusedVariables false
open Go Go.RowKit
attribute [local irreducible] AL AD AW OpOk Le AC thenQ blockQ EndQ

theorem bwF_memb [Mode] {most : Bool} {f : List Nat → Int} {W : List (List Nat)} {b : List Nat} {h : Int} (e : bwF most f W = some (b, h)) : b ∈ W := by
  have hg : ∀ (W : List (List Nat)) (o : Option (List Nat × Int)), W.foldl (fun st w => bwS most st w (f w)) o = some (b, h) → b ∈ W ∨ o = some (b, h) := by
    intro W
    induction W with
    | nil => intro o e; exact .inr e
    | cons w W ih =>
      intro o e
      rw [List.foldl_cons] at e
      rcases ih _ e with h1 | h1
      · exact .inl (by simp [h1])
      · cases o with
        | none =>
          have h2 : some (w, f w) = some (b, h) := h1
          cases h2
          exact .inl (by simp)
        | some p =>
          obtain ⟨c, g⟩ := p
          have h2 : (if (most = true ∧ f w > g) ∨ (most = false ∧ f w < g) then some (w, f w) else some (c, g)) = some (b, h) := h1
          split at h2
          · cases h2; exact .inl (by simp)
          · exact .inr h2
  rcases hg W none e with h1 | h1
  · exact h1
  · cases h1
theorem hwP_len [Mode] {ms : List (List (List Int))} {x : List Int} {k : Int} {most : Bool} : (cN (hwP ms x k most).1).length ≤ 1000000 := by
  unfold hwP
  split
  · rename_i hh
    have h0 : inC (moC ms x) (wi k 0 6) = 0 := Classical.byContradiction fun h => by
      unfold hwC at hh; rw [if_neg h] at hh; exact h hh
    have hk := wi_iff.1 (inC_ok h0).2
    cases e : bwF most (afH ms (ms.headD []).length x) (wds ms.length k.toNat) with
    | none => simp [cN]
    | some p =>
      obtain ⟨b, h⟩ := p
      have := (wds_mem (bwF_memb e)).1
      simp [cN]
      omega
  · simp [cN]
theorem afL_len [Mode] {ms : List (List (List Int))} {x w : List Int} : (afL ms x w).length ≤ 100 ∧ (afL ms x w).all isVal = true := by
  unfold afL
  split
  · rename_i h0
    obtain ⟨g1, g2⟩ := inC_ok h0
    obtain ⟨n, ho, t0, q, e, _, h00, _⟩ := moC_ok g1
    have hhd : (ms.headD []).length = n := by rw [e]; exact h00.sq.l
    rw [hhd]
    cases hz : afR ms n (w.map Int.toNat) x with
    | none => exact ⟨by simp, rfl⟩
    | some z =>
      obtain ⟨h1, h2⟩ := afR_val ho.l ho.v hz
      have := ho.n2
      exact ⟨by simp only; omega, h2⟩
  · exact ⟨by simp, rfl⟩
theorem grL_len [Mode] {ms : List (List (List Int))} {x : List Int} {k : Int} : (grL ms x k).length ≤ 100 ∧ (grL ms x k).all isVal = true := by
  unfold grL
  split
  · rename_i h0
    obtain ⟨g1, g2⟩ := inC_ok h0
    obtain ⟨n, ho, t0, q, e, _, h00, _⟩ := moC_ok g1
    have hhd : (ms.headD []).length = n := by rw [e]; exact h00.sq.l
    rw [hhd]
    cases hz : grR (smM ms) n k.toNat x with
    | none => exact ⟨by simp, rfl⟩
    | some z =>
      obtain ⟨h1, h2⟩ := grR_val ho.l ho.v hz
      have := ho.n2
      exact ⟨by simp only; omega, h2⟩
  · exact ⟨by simp, rfl⟩
set_option maxRecDepth 100000 in
set_option maxHeartbeats 16000000 in
theorem lawFnWords_ac [Mode] (code : List Int) (hl : code.length ≤ 9223372036854775807) (hb : ∀ b ∈ code, 0 ≤ b ∧ b ≤ 255) : AC Try.prog 3 [.d (BD code)] H0 (Bo true) H0 := by
  have hBig := big_ac code hl
  by_cases hbig : 4096 < (code.length : Int)
  ·
    refine AC.of_body 0 Try.func3 rfl (fun l h => absurd rfl h) (fun C hC => ?_)
    have hD : ∀ l, ¬ C.D0 l := fun l h => (hC l).1 h rfl
    simp only [startFr, Try.ntmps3, List.length_cons, List.length_nil, Nat.reduceAdd, Nat.reduceSub, List.replicate_succ, List.replicate_zero, List.cons_append, List.nil_append]
    repeat' (first | ((first | apply Ba | (apply Bb; (· rfl); (· rfl)) | (apply Bc; (· exact nxE)) | (apply Bd; (· rfl); (· rfl); (· exact nxE))); (· first | exact Kz rfl rfl (hBig) (Ad An) | exact Ok.pe)) | ((first | apply Ca | (apply Cb; (· exact nxE))); (· first | exact Ok.e0)) | refine Sx ?_ | (refine Sy (fun h => ?_) (fun h => ?_) <;> try (exfalso; omega; done)) | refine Sz (fun h => ?_) (fun h => ?_))
    refine Ya ?_
    (apply Le.headZ (hs := []) [] rfl)
    all_goals (try dsimp only [srcs])
    (case' hfr => (repeat' (first | refine La ?_ ?_ | exact Lc | refine Lo ?_ | refine ⟨⟨_, rfl, ?_⟩, ?_⟩ | refine Lx ?_)))
    all_goals (first | exact Ld | exact trivial | (rfl))
  have hc : CodeOk code := ⟨by omega, hb⟩
  obtain ⟨ms, x, k, hT, hml, hx, hk, hD1⟩ := drawHighestWord_ex code hc
  obtain ⟨ms2, y, w, hT2, hml2, hy, hw, hD2⟩ := drawAfterWord_ex code hc
  have hm := hT.ms hml
  have hm2 := hT2.ms hml2
  have hH1 := iHighestWord_ac ms hm x (by omega) k
  have hH2 := sHighestWord_ac ms hm x (by omega) k
  have hL1 := iLowestWord_ac ms hm x (by omega) k
  have hL2 := sLowestWord_ac ms hm x (by omega) k
  have hG1 := iGreatestAfter_ac ms hm x (by omega) k
  have hG2 := sGreatestAfter_ac ms hm x (by omega) k
  have hA1 := iAfterWord_ac ms2 hm2 y (by omega) w (by omega)
  have hA2 := sAfterWord_ac ms2 hm2 y (by omega) w (by omega)
  have hM1 := iAreModes_ac ms hm
  have hM2 := sAreModes_ac ms hm
  have hK1 := likeInts_refl (cN (hwP ms x k true).1) (by have := hwP_len (ms := ms) (x := x) (k := k) (most := true); omega)
  have hK2 := likeInts_refl (cN (hwP ms x k false).1) (by have := hwP_len (ms := ms) (x := x) (k := k) (most := false); omega)
  have hK3 := likeInts_refl (grL ms x k) (by have := (grL_len (ms := ms) (x := x) (k := k)).1; omega)
  have hK4 := likeInts_refl (afL ms2 y w) (by have := (afL_len (ms := ms2) (x := y) (w := w)).1; omega)
  have hEnd : hwC ms x k = 0 → grC ms x k = 0 → (True ∧ (hwP ms x k false).2 ≤ (hwP ms x k true).2 ∧ True ∧ AC Try.prog 22 [IL (grL ms x k)] H0 (.tup [I (hwP ms x k true).2, I 0]) H0 ∧ AC Try.prog 15 [QL ms, IL x, IL (cN (hwP ms x k true).1)] H0 (.tup [IL (afL ms x (cN (hwP ms x k true).1)), I 0]) H0 ∧ AC Try.prog 22 [IL (afL ms x (cN (hwP ms x k true).1))] H0 (.tup [I (hwP ms x k true).2, I 0]) H0) := fun h1 h2 => by
    obtain ⟨e1, e2, e3, e4⟩ := words_top h1 h2
    have a1 := iSumOf_ac (grL ms x k) (grL_len).1 (grL_len).2
    have a2 := iAfterWord_ac ms hm x (by omega) (cN (hwP ms x k true).1) hwP_len
    have a3 := iSumOf_ac (afL ms x (cN (hwP ms x k true).1)) (afL_len).1 (afL_len).2
    rw [e1] at a1
    rw [e3] at a2
    rw [e4] at a3
    exact ⟨trivial, e2, trivial, a1, a2, a3⟩
  by_cases hf : afC ms2 y w = 0
  · have hW := iWordMatrix_ac ms2 hm2 w (by omega)
    obtain ⟨p, e, hT, hse⟩ := word_times hf (by omega)
    by_cases hs : wmC ms2 w = 0
    · obtain ⟨rfl, rfl⟩ := hse hs
      by_cases hc0 : hwC ms x k = 0
      · by_cases hd0 : grC ms x k = 0
        · obtain ⟨t1, t2, t3, t4, t5, t6⟩ := hEnd hc0 hd0
          exact fwWalkI code hbig ms ms2 [] x y w (cN (hwP ms x k true).1) (cN (hwP ms x k false).1) (grL ms x k) (afL ms2 y w) [] (afL ms x (cN (hwP ms x k true).1)) k (hwP ms x k true).2 (hwP ms x k false).2 (hwC ms x k) (grC ms x k) (afC ms2 y w) (wmC ms2 w) 0 (areMo ms) (wmL ms2 w) hBig hD1 hD2 hH1 hH2 hL1 hL2 hG1 hG2 hA1 hA2 hM1 hM2 hK1 hK2 hK3 hK4 hf hs hW hT hc0 hd0 t2 t4 t5 t6
        · exact fwWalkH code hbig ms ms2 [] x y w (cN (hwP ms x k true).1) (cN (hwP ms x k false).1) (grL ms x k) (afL ms2 y w) [] [] k (hwP ms x k true).2 (hwP ms x k false).2 (hwC ms x k) (grC ms x k) (afC ms2 y w) (wmC ms2 w) 0 (areMo ms) (wmL ms2 w) hBig hD1 hD2 hH1 hH2 hL1 hL2 hG1 hG2 hA1 hA2 hM1 hM2 hK1 hK2 hK3 hK4 hf hs hW hT hc0 hd0
      · exact fwWalkG code hbig ms ms2 [] x y w (cN (hwP ms x k true).1) (cN (hwP ms x k false).1) (grL ms x k) (afL ms2 y w) [] [] k (hwP ms x k true).2 (hwP ms x k false).2 (hwC ms x k) (grC ms x k) (afC ms2 y w) (wmC ms2 w) 0 (areMo ms) (wmL ms2 w) hBig hD1 hD2 hH1 hH2 hL1 hL2 hG1 hG2 hA1 hA2 hM1 hM2 hK1 hK2 hK3 hK4 hf hs hW hT hc0
    · by_cases hc0 : hwC ms x k = 0
      · by_cases hd0 : grC ms x k = 0
        · obtain ⟨t1, t2, t3, t4, t5, t6⟩ := hEnd hc0 hd0
          exact fwWalkF code hbig ms ms2 [] x y w (cN (hwP ms x k true).1) (cN (hwP ms x k false).1) (grL ms x k) (afL ms2 y w) p (afL ms x (cN (hwP ms x k true).1)) k (hwP ms x k true).2 (hwP ms x k false).2 (hwC ms x k) (grC ms x k) (afC ms2 y w) (wmC ms2 w) e (areMo ms) (wmL ms2 w) hBig hD1 hD2 hH1 hH2 hL1 hL2 hG1 hG2 hA1 hA2 hM1 hM2 hK1 hK2 hK3 hK4 hf hs hW hT hc0 hd0 t2 t4 t5 t6
        · exact fwWalkE code hbig ms ms2 [] x y w (cN (hwP ms x k true).1) (cN (hwP ms x k false).1) (grL ms x k) (afL ms2 y w) p [] k (hwP ms x k true).2 (hwP ms x k false).2 (hwC ms x k) (grC ms x k) (afC ms2 y w) (wmC ms2 w) e (areMo ms) (wmL ms2 w) hBig hD1 hD2 hH1 hH2 hL1 hL2 hG1 hG2 hA1 hA2 hM1 hM2 hK1 hK2 hK3 hK4 hf hs hW hT hc0 hd0
      · exact fwWalkD code hbig ms ms2 [] x y w (cN (hwP ms x k true).1) (cN (hwP ms x k false).1) (grL ms x k) (afL ms2 y w) p [] k (hwP ms x k true).2 (hwP ms x k false).2 (hwC ms x k) (grC ms x k) (afC ms2 y w) (wmC ms2 w) e (areMo ms) (wmL ms2 w) hBig hD1 hD2 hH1 hH2 hL1 hL2 hG1 hG2 hA1 hA2 hM1 hM2 hK1 hK2 hK3 hK4 hf hs hW hT hc0
  · by_cases hc0 : hwC ms x k = 0
    · by_cases hd0 : grC ms x k = 0
      · obtain ⟨t1, t2, t3, t4, t5, t6⟩ := hEnd hc0 hd0
        exact fwWalkC code hbig ms ms2 [] x y w (cN (hwP ms x k true).1) (cN (hwP ms x k false).1) (grL ms x k) (afL ms2 y w) [] (afL ms x (cN (hwP ms x k true).1)) k (hwP ms x k true).2 (hwP ms x k false).2 (hwC ms x k) (grC ms x k) (afC ms2 y w) (wmC ms2 w) 0 (areMo ms) (wmL ms2 w) hBig hD1 hD2 hH1 hH2 hL1 hL2 hG1 hG2 hA1 hA2 hM1 hM2 hK1 hK2 hK3 hK4 hf hc0 hd0 t2 t4 t5 t6
      · exact fwWalkB code hbig ms ms2 [] x y w (cN (hwP ms x k true).1) (cN (hwP ms x k false).1) (grL ms x k) (afL ms2 y w) [] [] k (hwP ms x k true).2 (hwP ms x k false).2 (hwC ms x k) (grC ms x k) (afC ms2 y w) (wmC ms2 w) 0 (areMo ms) (wmL ms2 w) hBig hD1 hD2 hH1 hH2 hL1 hL2 hG1 hG2 hA1 hA2 hM1 hM2 hK1 hK2 hK3 hK4 hf hc0 hd0
    · exact fwWalkA code hbig ms ms2 [] x y w (cN (hwP ms x k true).1) (cN (hwP ms x k false).1) (grL ms x k) (afL ms2 y w) [] [] k (hwP ms x k true).2 (hwP ms x k false).2 (hwC ms x k) (grC ms x k) (afC ms2 y w) (wmC ms2 w) 0 (areMo ms) (wmL ms2 w) hBig hD1 hD2 hH1 hH2 hL1 hL2 hG1 hG2 hA1 hA2 hM1 hM2 hK1 hK2 hK3 hK4 hf hc0
end Go.Proofs.Ytdgodkpobomneaa
