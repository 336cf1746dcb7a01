/-
  Walks in the abstract reading: the laws' sizes, copies and tests of lists of matrices.
-/
import Derived.Test.YtikadoicplnkgaaKcU12
import Derived.Test.YtikadoicplnkgaaKcU6
namespace Go.Proofs.Ytikadoicplnkgaa
set_option linter.unusedSimpArgs false
set_option linter.unusedVariables false
open Go Go.RowKit
attribute [local irreducible] AL AD AW OpOk Le AC thenQ blockQ EndQ

abbrev rowQ (t : List (List Int)) : List D := [TD t]
def szQR : List (List (List Int)) → Int → Int
  | [], l => l
  | t :: q, l => if szT t l < 0 then -1 else szQR q (szT t l)
def szQ (ms : List (List (List Int))) (l : Int) : Int := if l - ms.length < 0 then -1 else szQR ms (l - ms.length)
theorem szT_le {t : List (List Int)} {l : Int} (h : 0 ≤ szT t l) : szT t l ≤ l := by
  unfold szT at h ⊢
  split
  · omega
  · rename_i h1
    rw [if_neg h1] at h
    have := szR_le (t := t) (l := l - t.length) (by omega); omega
theorem szQR_ok : ∀ {ms : List (List (List Int))} {l : Int}, 0 ≤ szQR ms l → ∀ t ∈ ms, ∃ l', l' ≤ l ∧ 0 ≤ szT t l'
  | [], l, _, t, ht => by cases ht
  | a :: q, l, h, t, ht => by
    rw [szQR] at h
    split at h
    · omega
    · rename_i h1
      rcases List.mem_cons.1 ht with rfl | ht
      · exact ⟨l, Int.le_refl _, by omega⟩
      · obtain ⟨l', h2, h3⟩ := szQR_ok h t ht
        have := szT_le (t := a) (l := l) (by omega)
        exact ⟨l', by omega, h3⟩
theorem szQ_ok {ms : List (List (List Int))} {l : Int} (h : 0 ≤ szQ ms l) (hl : l ≤ 1048576) : ms.length ≤ 1048576 ∧ (∀ t ∈ ms, t.length ≤ 1048576) ∧ ∀ t ∈ ms, ∀ r ∈ t, r.length ≤ 1048576 := by
  unfold szQ at h
  split at h
  · omega
  · have key : ∀ t ∈ ms, t.length ≤ 1048576 ∧ ∀ r ∈ t, r.length ≤ 1048576 := fun t ht => by
      obtain ⟨l', h1, h2⟩ := szQR_ok h t ht
      exact szT_ok h2 (by omega)
    exact ⟨by omega, fun t ht => (key t ht).1, fun t ht => (key t ht).2⟩
set_option maxHeartbeats 1000000 in
theorem szInt64SSS_ac (ms : List (List (List Int))) (l : Int) (hn : ms.length ≤ 9223372036854775807) (ht : ∀ t ∈ ms, t.length ≤ 9223372036854775807) (hr : ∀ t ∈ ms, ∀ r ∈ t, r.length ≤ 9223372036854775807) (hl : 0 ≤ l ∧ l ≤ 1048576) : AC Try.prog 26 [QL ms, I l] H0 (I (szQ ms l)) H0 := by
  by_cases h0 : l - ms.length < 0
  · unfold szQ
    rw [if_pos h0]
    refine AC.of_body 0 Try.func26 rfl (fun l h => absurd rfl h) (fun C hC => ?_)
    have hD : ∀ l, ¬ C.D0 l := fun l h => (hC l).1 h rfl
    simp only [startFr, Try.ntmps26, List.length_cons, List.length_nil, Nat.reduceAdd, Nat.reduceSub, List.replicate_succ, List.replicate_zero, List.cons_append, List.nil_append]
    repeat' (first | ((first | apply Ba | (apply Bb; (· rfl); (· rfl)) | (apply Bc; (· exact nxE)) | (apply Bd; (· rfl); (· rfl); (· exact nxE))); (· first | exact Ok.pe)) | ((first | apply Ca | (apply Cb; (· exact nxE))); (· first | exact Ok.e0)) | refine Sx ?_ | (refine Sy (fun h => ?_) (fun h => ?_) <;> try (exfalso; omega; done)) | refine Sz (fun h => ?_) (fun h => ?_))
    refine Ya ?_
    (apply Le.headZ (hs := []) [] rfl)
    all_goals (try dsimp only [srcs])
    (case' hfr => (repeat' (first | refine La ?_ ?_ | exact Lc | refine Lo ?_ | refine ⟨⟨_, rfl, ?_⟩, ?_⟩ | refine Lx ?_)))
    all_goals (first | exact Ld | exact trivial | (rfl))
  · unfold szQ
    rw [if_neg h0]
    refine AC.of_body 0 Try.func26 rfl (fun l h => absurd rfl h) (fun C hC => ?_)
    have hD : ∀ l, ¬ C.D0 l := fun l h => (hC l).1 h rfl
    simp only [startFr, Try.ntmps26, List.length_cons, List.length_nil, Nat.reduceAdd, Nat.reduceSub, List.replicate_succ, List.replicate_zero, List.cons_append, List.nil_append]
    repeat' (first | ((first | apply Ba | (apply Bb; (· rfl); (· rfl)) | (apply Bc; (· exact nxE)) | (apply Bd; (· rfl); (· rfl); (· exact nxE))); (· first | exact Ok.pe)) | ((first | apply Ca | (apply Cb; (· exact nxE))); (· first | exact Ok.e0)) | refine Sx ?_ | (refine Sy (fun h => ?_) (fun h => ?_) <;> try (exfalso; omega; done)) | refine Sz (fun h => ?_) (fun h => ?_))
    refine AW.loop (X := {s : Nat × Int // s.1 ≤ ms.length ∧ 0 ≤ s.2 ∧ s.2 ≤ 1048576 ∧ szQR ms (l - ms.length) = szQR (ms.drop s.1) s.2}) (fun s => ⟨[QL ms, I s.1.2, Oo, Oo, Oo, I (s.1.1 : Nat), Oo, Oo, Oo, Oo, Oo, Oo, Oo, Oo, Oo, Oo, Oo, Oo, Oo, Oo, Oo, Oo, Oo, Oo, Oo, Oo, Oo], heapL [], 900⟩) (fun s => ms.length - s.1.1) ⟨(0, l - ms.length), Nat.zero_le _, by omega, by omega, rfl⟩ ?_ (fun s => ?_)
    ·
      (apply Le.headZ [] rfl)
      all_goals (try dsimp only [srcs])
      (case' hfr | hob => (repeat' (first | refine La ?_ ?_ | exact Lc | refine Lo ?_ | refine ⟨⟨_, rfl, ?_⟩, ?_⟩ | refine Lx ?_)))
      all_goals (first | ((simp; done)) | exact Ld)
    obtain ⟨⟨k, q⟩, hk, hq0, hq1, hq⟩ := s
    simp only at hk hq0 hq1 hq ⊢
    by_cases hlt : k < ms.length
    · obtain ⟨t, hr1⟩ : ∃ t, ms[k]? = some t := ⟨ms[k], by simp⟩
      have hrow := QR_get hr1
      have hmem := List.mem_of_getElem? hr1
      have hd : ms.drop k = t :: ms.drop (k + 1) := by
        obtain ⟨hk', rfl⟩ := List.getElem?_eq_some_iff.1 hr1
        exact List.drop_eq_getElem_cons hk'
      rw [hd, szQR] at hq
      have hS := szInt64SS_ac t q (ht t hmem) (hr t hmem) ⟨hq0, hq1⟩
      have hle := szT_le (t := t) (l := q)
      by_cases hs : szT t q < 0
      · rw [if_pos hs] at hq
        generalize szT t q = z at *
        repeat' (first | ((first | apply Ba | (apply Bb; (· rfl); (· rfl)) | (apply Bc; (· exact nxE)) | (apply Bd; (· rfl); (· rfl); (· exact nxE))); (· first | exact Kz rfl rfl (hS) (Ad (Ad An)) | exact Ok.pe)) | ((first | apply Ca | (apply Cb; (· exact nxE))); (· first | exact Ok.e0)) | refine Sx ?_ | (refine Sy (fun h => ?_) (fun h => ?_) <;> try (exfalso; omega; done)) | refine Sz (fun h => ?_) (fun h => ?_))
        refine Ya ?_
        (apply Le.headZ (hs := []) [] rfl)
        all_goals (try dsimp only [srcs])
        (case' hfr => (repeat' (first | refine La ?_ ?_ | exact Lc | refine Lo ?_ | refine ⟨⟨_, rfl, ?_⟩, ?_⟩ | refine Lx ?_)))
        all_goals (first | exact Ld | exact trivial | ((rw [hq]; done)))
      · rw [if_neg hs] at hq
        generalize szT t q = z at *
        repeat' (first | ((first | apply Ba | (apply Bb; (· rfl); (· rfl)) | (apply Bc; (· exact nxE)) | (apply Bd; (· rfl); (· rfl); (· exact nxE))); (· first | exact Kz rfl rfl (hS) (Ad (Ad An)) | exact Ok.pe)) | ((first | apply Ca | (apply Cb; (· exact nxE))); (· first | exact Ok.e0)) | refine Sx ?_ | (refine Sy (fun h => ?_) (fun h => ?_) <;> try (exfalso; omega; done)) | refine Sz (fun h => ?_) (fun h => ?_))
        refine ⟨⟨(k + 1, z), by omega, by simp only; omega, by simp only; omega, hq⟩, ?_, by simp only; omega⟩
        (apply Le.headZ [] rfl)
        all_goals (try dsimp only [srcs])
        (case' hfr | hob => (repeat' (first | refine La ?_ ?_ | exact Lc | refine Lo ?_ | refine ⟨⟨_, rfl, ?_⟩, ?_⟩ | refine Lx ?_)))
        all_goals (first | (rfl) | exact Ld)
    · rw [List.drop_of_length_le (by omega), szQR] at hq
      rw [hq]
      repeat' (first | ((first | apply Ba | (apply Bb; (· rfl); (· rfl)) | (apply Bc; (· exact nxE)) | (apply Bd; (· rfl); (· rfl); (· exact nxE))); (· first | exact Ok.pe)) | ((first | apply Ca | (apply Cb; (· exact nxE))); (· first | exact Ok.e0)) | refine Sx ?_ | (refine Sy (fun h => ?_) (fun h => ?_) <;> try (exfalso; omega; done)) | refine Sz (fun h => ?_) (fun h => ?_))
      refine Ya ?_
      (apply Le.headZ (hs := []) [] rfl)
      all_goals (try dsimp only [srcs])
      (case' hfr => (repeat' (first | refine La ?_ ?_ | exact Lc | refine Lo ?_ | refine ⟨⟨_, rfl, ?_⟩, ?_⟩ | refine Lx ?_)))
      all_goals (first | exact Ld | exact trivial | (rfl))
theorem toInt64SSSO_ac (ms : List (List (List Int))) (hn : ms.length ≤ 1048576) (ht : ∀ t ∈ ms, t.length ≤ 1048576) (hr : ∀ t ∈ ms, ∀ r ∈ t, r.length ≤ 1048576) : AC Try.prog 28 [QL ms] H0 (own1 1 ms.length) (hp1 (dobj 1 (QR ms))) := by
  refine AC.of_body 0 Try.func28 rfl (fun l h => absurd rfl h) (fun C hC => ?_)
  have hD : ∀ l, ¬ C.D0 l := fun l h => (hC l).1 h rfl
  simp only [startFr, Try.ntmps28, List.length_cons, List.length_nil, Nat.reduceAdd, Nat.reduceSub, List.replicate_succ, List.replicate_zero, List.cons_append, List.nil_append]
  repeat' (first | ((first | apply Ba | (apply Bb; (· rfl); (· rfl)) | (apply Bc; (· exact nxE)) | (apply Bd; (· rfl); (· rfl); (· exact nxE))); (· first | exact Ok.pe)) | ((first | apply Ca | (apply Cb; (· exact nxE))); (· first | exact Ok.e0)) | refine Sx ?_ | (refine Sy (fun h => ?_) (fun h => ?_) <;> try (exfalso; omega; done)) | refine Sz (fun h => ?_) (fun h => ?_))
  refine AW.loop (X := {k : Nat // k ≤ ms.length}) (fun k => ⟨[QL ms, Oo, Oo, .own 1 ⟨0, []⟩ 0 ms.length, I (k.1 : Nat), Oo, Oo, Oo, Oo, Oo, Oo, Oo, Oo, Oo, Oo, Oo, Oo, Oo, Oo, Oo, Oo, Oo, Oo], heapL [(⟨0, []⟩, ⟨3, []⟩, fillRows 1 rowQ [.v (.slice none 0 0)] ms k.1)], 20⟩) (fun k => ms.length - k.1) ⟨0, Nat.zero_le _⟩ ?_ (fun k => ?_)
  ·
    refine Le.head ([(⟨0, []⟩, ⟨3, []⟩, fillRows 1 rowQ [.v (.slice none 0 0)] ms 0)]) (by first | exact fun l h => absurd h (hD l) | (intro l h; rcases hD l h with rfl; simp [tauL]) | (intro l h; rcases hD l h with rfl | rfl <;> simp [tauL]; done) | (intro l h; rcases hD l h with rfl | rfl | rfl <;> simp [tauL])) ?_ ?_ (by simp) (by simp) (by simp [AllP]) <;> (repeat' (first | exact trivial | exact ARs.nil | refine ARs.cons ?_ ?_ | exact AR.dead _ | exact AR.dd _ | exact AR.i (by (try dsimp only); omega) | exact AR.ptr _ _ _ _ (by simp [heapL, upd]) | exact AR.own _ _ _ _ (by simp [heapL, upd]) | refine AR.ownE _ _ _ ?_ (by simp [heapL, upd]) | refine ⟨⟨_, rfl, ?_⟩, ?_⟩ | exact ObA.data | refine ObA.box ?_ | refine ObA.frE ?_ | refine ObA.dataE ?_ | refine ARs.agg ?_ | refine ARs.tup ?_ | exact AR.clo' ARs.nil ARs.nil | exact AR.clo' ARs.nil (hca _ _)))
    all_goals (first | exact fillRows_0.symm | (simp; done))
  obtain ⟨k, hk⟩ := k
  simp only
  by_cases hlt : k < ms.length
  · obtain ⟨x, hx⟩ : ∃ x, ms[k]? = some x := ⟨ms[k], by simp⟩
    have hrow := QR_get hx
    have hmem := List.mem_of_getElem? hx
    have hT := (toInt64SS_ac x (ht x hmem) (hr x hmem)).frzT (by rw [TR_len])
    have hget := fillRows_get (m := 1) (row := rowQ) (z := [.v (.slice none 0 0)]) hlt
    repeat' (first | ((first | apply Ba | (apply Bb; (· rfl); (· rfl)) | (apply Bc; (· exact nxE)) | (apply Bd; (· rfl); (· rfl); (· exact nxE))); (· first | exact Kz rfl rfl (hT) (Ad An) | exact Ok.storeC rfl rfl rfl rfl hget (by decide) rfl rfl rfl (fillRows_set hx rfl) | exact Ok.pe)) | ((first | apply Ca | (apply Cb; (· exact nxE))); (· first | exact Ok.storeC rfl rfl rfl rfl hget (by decide) rfl rfl rfl (fillRows_set hx rfl) | exact Ok.e0)) | refine Sx ?_ | (refine Sy (fun h => ?_) (fun h => ?_) <;> try (exfalso; omega; done)) | refine Sz (fun h => ?_) (fun h => ?_))
    refine ⟨⟨k + 1, by omega⟩, ?_, by simp only; omega⟩
    refine Le.head ([(⟨0, []⟩, ⟨0, []⟩, fillRows 1 rowQ [.v (.slice none 0 0)] ms (k + 1))]) (by first | exact fun l h => absurd h (hD l) | (intro l h; rcases hD l h with rfl; simp [tauL]) | (intro l h; rcases hD l h with rfl | rfl <;> simp [tauL]; done) | (intro l h; rcases hD l h with rfl | rfl | rfl <;> simp [tauL])) ?_ ?_ (by simp) (by simp) (by simp [AllP]) <;> (repeat' (first | exact trivial | exact ARs.nil | refine ARs.cons ?_ ?_ | exact AR.dead _ | exact AR.dd _ | exact AR.i (by (try dsimp only); omega) | exact AR.ptr _ _ _ _ (by simp [heapL, upd]) | exact AR.own _ _ _ _ (by simp [heapL, upd]) | refine AR.ownE _ _ _ ?_ (by simp [heapL, upd]) | refine ⟨⟨_, rfl, ?_⟩, ?_⟩ | exact ObA.data | refine ObA.box ?_ | refine ObA.frE ?_ | refine ObA.dataE ?_ | refine ARs.agg ?_ | refine ARs.tup ?_ | exact AR.clo' ARs.nil ARs.nil | exact AR.clo' ARs.nil (hca _ _)))
  ·
    repeat' (first | ((first | apply Ba | (apply Bb; (· rfl); (· rfl)) | (apply Bc; (· exact nxE)) | (apply Bd; (· rfl); (· rfl); (· exact nxE))); (· first | exact Ok.pe)) | ((first | apply Ca | (apply Cb; (· exact nxE))); (· first | exact Ok.e0)) | refine Sx ?_ | (refine Sy (fun h => ?_) (fun h => ?_) <;> try (exfalso; omega; done)) | refine Sz (fun h => ?_) (fun h => ?_))
    (refine end1p (by first | exact .inl rfl | exact .inr rfl) rfl (by first | exact rT rfl | exact rCA rfl rfl rfl rfl (by simp) | exact rCC rfl rfl rfl rfl rfl) ?_ (Le.head ([(⟨0, []⟩, ⟨0, []⟩, dobj 1 (QR ms))]) (by first | exact fun l h => absurd h (hD l) | (intro l h; rcases hD l h with rfl; simp [tauL]) | (intro l h; rcases hD l h with rfl | rfl <;> simp [tauL]; done) | (intro l h; rcases hD l h with rfl | rfl | rfl <;> simp [tauL])) ?_ ?_ (by simp) (by simp) (by simp [AllP]) (n' := 1000)); (· rfl)) <;> (repeat' (first | exact trivial | exact ARs.nil | refine ARs.cons ?_ ?_ | exact AR.dead _ | exact AR.dd _ | exact AR.i (by (try dsimp only); omega) | exact AR.ptr _ _ _ _ (by simp [heapL, upd]) | exact AR.own _ _ _ _ (by simp [heapL, upd]) | refine AR.ownE _ _ _ ?_ (by simp [heapL, upd]) | refine ⟨⟨_, rfl, ?_⟩, ?_⟩ | exact ObA.data | refine ObA.box ?_ | refine ObA.frE ?_ | refine ObA.dataE ?_ | refine ARs.agg ?_ | refine ARs.tup ?_ | exact AR.clo' ARs.nil ARs.nil | exact AR.clo' ARs.nil (hca _ _)))
    all_goals exact fillRows_all (by omega)
theorem toInt64SSS_ac (ms : List (List (List Int))) (hn : ms.length ≤ 1048576) (ht : ∀ t ∈ ms, t.length ≤ 1048576) (hr : ∀ t ∈ ms, ∀ r ∈ t, r.length ≤ 1048576) : AC Try.prog 28 [QL ms] H0 (QL ms) H0 :=
  (toInt64SSSO_ac ms hn ht hr).frz (AR.whole (l := ⟨0, []⟩) rfl trivial (by simp))
theorem eqInt64SSS_ac (ms : List (List (List Int))) (hm : MsOk ms) : AC Try.prog 30 [QL ms, QL ms] H0 (Bo true) H0 := by
  have hmn := hm.n
  refine AC.of_body 0 Try.func30 rfl (fun l h => absurd rfl h) (fun C hC => ?_)
  have hD : ∀ l, ¬ C.D0 l := fun l h => (hC l).1 h rfl
  simp only [startFr, Try.ntmps30, List.length_cons, List.length_nil, Nat.reduceAdd, Nat.reduceSub, List.replicate_succ, List.replicate_zero, List.cons_append, List.nil_append]
  repeat' (first | ((first | apply Ba | (apply Bb; (· rfl); (· rfl)) | (apply Bc; (· exact nxE)) | (apply Bd; (· rfl); (· rfl); (· exact nxE))); (· first | exact Ok.pe)) | ((first | apply Ca | (apply Cb; (· exact nxE))); (· first | exact Ok.e0)) | refine Sx ?_ | (refine Sy (fun h => ?_) (fun h => ?_) <;> try (exfalso; omega; done)) | refine Sz (fun h => ?_) (fun h => ?_))
  refine AW.loop (X := {k : Nat // k ≤ ms.length}) (fun k => ⟨[QL ms, QL ms, Oo, Oo, Oo, I (k.1 : Nat), Oo, Oo, Oo, Oo, Oo, Oo, Oo, Oo, Oo, Oo, Oo, Oo, Oo, Oo, Oo, Oo, Oo, Oo, Oo, Oo, Oo], heapL [], 900⟩) (fun k => ms.length - k.1) ⟨0, Nat.zero_le _⟩ ?_ (fun k => ?_)
  ·
    (apply Le.headZ [] rfl)
    all_goals (try dsimp only [srcs])
    (case' hfr | hob => (repeat' (first | refine La ?_ ?_ | exact Lc | refine Lo ?_ | refine ⟨⟨_, rfl, ?_⟩, ?_⟩ | refine Lx ?_)))
    all_goals (first | (rfl) | exact Ld)
  obtain ⟨k, hk⟩ := k
  simp only
  by_cases hlt : k < ms.length
  · obtain ⟨x, hx⟩ : ∃ x, ms[k]? = some x := ⟨ms[k], by simp⟩
    have hrow := QR_get hx
    have hmem := List.mem_of_getElem? hx
    have hE := eqInt64SS_ac x (hm.t x hmem) (hm.r x hmem)
    repeat' (first | ((first | apply Ba | (apply Bb; (· rfl); (· rfl)) | (apply Bc; (· exact nxE)) | (apply Bd; (· rfl); (· rfl); (· exact nxE))); (· first | exact Kz rfl rfl (hE) (Ad (Ad An)) | exact Ok.pe)) | ((first | apply Ca | (apply Cb; (· exact nxE))); (· first | exact Ok.e0)) | refine Sx ?_ | (refine Sy (fun h => ?_) (fun h => ?_) <;> try (exfalso; omega; done)) | refine Sz (fun h => ?_) (fun h => ?_))
    refine ⟨⟨k + 1, by omega⟩, ?_, by simp only; omega⟩
    (apply Le.headZ [] rfl)
    all_goals (try dsimp only [srcs])
    (case' hfr | hob => (repeat' (first | refine La ?_ ?_ | exact Lc | refine Lo ?_ | refine ⟨⟨_, rfl, ?_⟩, ?_⟩ | refine Lx ?_)))
    all_goals (first | (rfl) | exact Ld)
  ·
    repeat' (first | ((first | apply Ba | (apply Bb; (· rfl); (· rfl)) | (apply Bc; (· exact nxE)) | (apply Bd; (· rfl); (· rfl); (· exact nxE))); (· first | exact Ok.pe)) | ((first | apply Ca | (apply Cb; (· exact nxE))); (· first | exact Ok.e0)) | refine Sx ?_ | (refine Sy (fun h => ?_) (fun h => ?_) <;> try (exfalso; omega; done)) | refine Sz (fun h => ?_) (fun h => ?_))
    refine Ya ?_
    (apply Le.headZ (hs := []) [] rfl)
    all_goals (try dsimp only [srcs])
    (case' hfr => (repeat' (first | refine La ?_ ?_ | exact Lc | refine Lo ?_ | refine ⟨⟨_, rfl, ?_⟩, ?_⟩ | refine Lx ?_)))
    all_goals (first | exact Ld | exact trivial | (rfl))
end Go.Proofs.Ytikadoicplnkgaa
