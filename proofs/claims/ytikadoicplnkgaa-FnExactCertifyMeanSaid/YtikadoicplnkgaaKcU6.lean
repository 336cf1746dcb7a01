/-
  Walks in the abstract reading, part 6.
-/
import Derived.Test.YtikadoicplnkgaaKcU3
import Derived.Test.YtikadoicplnkgaaKcU5
import Derived.Test.YtikadoicplnkgaaKcA3
section
namespace Go.Proofs.Ytikadoicplnkgaa
set_option linter.unusedSimpArgs false
set_option linter.unusedVariables false
open Go Go.RowKit
attribute [local irreducible] AL AD AW OpOk Le AC thenQ blockQ EndQ

def szS (n : Nat) (l : Int) : Int := if l - n < 0 then -1 else l - n
def szR : List (List Int) → Int → Int
  | [], l => l
  | r :: q, l => if l - r.length < 0 then -1 else szR q (l - r.length)
def szT (t : List (List Int)) (l : Int) : Int := if l - t.length < 0 then -1 else szR t (l - t.length)
theorem szR_ok : ∀ {t : List (List Int)} {l : Int}, 0 ≤ szR t l → ∀ r ∈ t, (r.length : Int) ≤ l
  | [], l, _, r, hr => by cases hr
  | q :: t, l, h, r, hr => by
    rw [szR] at h
    split at h
    · omega
    · rcases List.mem_cons.1 hr with rfl | hr
      · omega
      · have := szR_ok h r hr; omega
theorem szR_le : ∀ {t : List (List Int)} {l : Int}, 0 ≤ l → szR t l ≤ l
  | [], l, _ => Int.le_refl _
  | q :: t, l, h => by
    rw [szR]
    split
    · omega
    · have := szR_le (t := t) (l := l - q.length) (by omega); omega
theorem szT_ok {t : List (List Int)} {l : Int} (h : 0 ≤ szT t l) (hl : l ≤ 1048576) : t.length ≤ 1048576 ∧ ∀ r ∈ t, r.length ≤ 1048576 := by
  unfold szT at h
  split at h
  · omega
  · refine ⟨by omega, fun r hr => ?_⟩
    have := szR_ok h r hr; omega
theorem szInt64S_ac (xs : List Int) (l : Int) (hn : xs.length ≤ 9223372036854775807) (hl : 0 ≤ l ∧ l ≤ 1048576) : AC Try.prog 69 [IL xs, I l] H0 (I (szS xs.length l)) H0 := by
  refine AC.of_body 0 Try.func69 rfl (fun l h => absurd rfl h) (fun C hC => ?_)
  have hD : ∀ l, ¬ C.D0 l := fun l h => (hC l).1 h rfl
  simp only [startFr, Try.ntmps69, List.length_cons, List.length_nil, Nat.reduceAdd, Nat.reduceSub, List.replicate_succ, List.replicate_zero, List.cons_append, List.nil_append]
  repeat' (first | ((first | apply Ba | (apply Bb; (· rfl); (· rfl)) | (apply Bc; (· exact nxE)) | (apply Bd; (· rfl); (· rfl); (· exact nxE))); (· first | exact Ok.pe)) | ((first | apply Ca | (apply Cb; (· exact nxE))); (· first | exact Ok.e0)) | refine Sx ?_ | (refine Sy (fun h => ?_) (fun h => ?_) <;> try (exfalso; omega; done)) | refine Sz (fun h => ?_) (fun h => ?_))
  all_goals
    refine Ya ?_
    (apply Le.headZ (hs := []) [] rfl)
    all_goals (try dsimp only [srcs])
    (case' hfr => (repeat' (first | refine La ?_ ?_ | exact Lc | refine Lo ?_ | refine ⟨⟨_, rfl, ?_⟩, ?_⟩ | refine Lx ?_)))
    all_goals (first | exact Ld | exact trivial | ((unfold szS; first | (rw [if_pos (by omega)]; done) | (rw [if_neg (by omega)]; done))))
set_option maxHeartbeats 1000000 in
theorem szInt64SS_ac (t : List (List Int)) (l : Int) (hn : t.length ≤ 9223372036854775807) (hr : ∀ r ∈ t, r.length ≤ 9223372036854775807) (hl : 0 ≤ l ∧ l ≤ 1048576) : AC Try.prog 12 [TL t, I l] H0 (I (szT t l)) H0 := by
  by_cases h0 : l - t.length < 0
  · unfold szT
    rw [if_pos h0]
    refine AC.of_body 0 Try.func12 rfl (fun l h => absurd rfl h) (fun C hC => ?_)
    have hD : ∀ l, ¬ C.D0 l := fun l h => (hC l).1 h rfl
    simp only [startFr, Try.ntmps12, List.length_cons, List.length_nil, Nat.reduceAdd, Nat.reduceSub, List.replicate_succ, List.replicate_zero, List.cons_append, List.nil_append]
    repeat' (first | ((first | apply Ba | (apply Bb; (· rfl); (· rfl)) | (apply Bc; (· exact nxE)) | (apply Bd; (· rfl); (· rfl); (· exact nxE))); (· first | exact Ok.pe)) | ((first | apply Ca | (apply Cb; (· exact nxE))); (· first | exact Ok.e0)) | refine Sx ?_ | (refine Sy (fun h => ?_) (fun h => ?_) <;> try (exfalso; omega; done)) | refine Sz (fun h => ?_) (fun h => ?_))
    refine Ya ?_
    (apply Le.headZ (hs := []) [] rfl)
    all_goals (try dsimp only [srcs])
    (case' hfr => (repeat' (first | refine La ?_ ?_ | exact Lc | refine Lo ?_ | refine ⟨⟨_, rfl, ?_⟩, ?_⟩ | refine Lx ?_)))
    all_goals (first | exact Ld | exact trivial | (rfl))
  · unfold szT
    rw [if_neg h0]
    refine AC.of_body 0 Try.func12 rfl (fun l h => absurd rfl h) (fun C hC => ?_)
    have hD : ∀ l, ¬ C.D0 l := fun l h => (hC l).1 h rfl
    simp only [startFr, Try.ntmps12, List.length_cons, List.length_nil, Nat.reduceAdd, Nat.reduceSub, List.replicate_succ, List.replicate_zero, List.cons_append, List.nil_append]
    repeat' (first | ((first | apply Ba | (apply Bb; (· rfl); (· rfl)) | (apply Bc; (· exact nxE)) | (apply Bd; (· rfl); (· rfl); (· exact nxE))); (· first | exact Ok.pe)) | ((first | apply Ca | (apply Cb; (· exact nxE))); (· first | exact Ok.e0)) | refine Sx ?_ | (refine Sy (fun h => ?_) (fun h => ?_) <;> try (exfalso; omega; done)) | refine Sz (fun h => ?_) (fun h => ?_))
    refine AW.loop (X := {s : Nat × Int // s.1 ≤ t.length ∧ 0 ≤ s.2 ∧ s.2 ≤ 1048576 ∧ szR t (l - t.length) = szR (t.drop s.1) s.2}) (fun s => ⟨[TL t, I s.1.2, Oo, Oo, Oo, I (s.1.1 : Nat), Oo, Oo, Oo, Oo, Oo, Oo, Oo, Oo, Oo, Oo, Oo, Oo, Oo, Oo, Oo, Oo, Oo, Oo, Oo, Oo, Oo], heapL [], 900⟩) (fun s => t.length - s.1.1) ⟨(0, l - t.length), Nat.zero_le _, by omega, by omega, rfl⟩ ?_ (fun s => ?_)
    ·
      (apply Le.headZ [] rfl)
      all_goals (try dsimp only [srcs])
      (case' hfr | hob => (repeat' (first | refine La ?_ ?_ | exact Lc | refine Lo ?_ | refine ⟨⟨_, rfl, ?_⟩, ?_⟩ | refine Lx ?_)))
      all_goals (first | ((simp; done)) | exact Ld)
    obtain ⟨⟨k, q⟩, hk, hq0, hq1, hq⟩ := s
    simp only at hk hq0 hq1 hq ⊢
    by_cases hlt : k < t.length
    · obtain ⟨r, hr1⟩ : ∃ r, t[k]? = some r := ⟨t[k], by simp⟩
      have hrow := TR_get hr1
      have hrl := hr r (List.mem_of_getElem? hr1)
      have hd : t.drop k = r :: t.drop (k + 1) := by
        obtain ⟨hk', rfl⟩ := List.getElem?_eq_some_iff.1 hr1
        exact List.drop_eq_getElem_cons hk'
      rw [hd, szR] at hq
      have hS := szInt64S_ac r q hrl ⟨hq0, hq1⟩
      by_cases hs : q - r.length < 0
      · rw [if_pos hs] at hq
        rw [show szS r.length q = -1 from if_pos hs] at hS
        repeat' (first | ((first | apply Ba | (apply Bb; (· rfl); (· rfl)) | (apply Bc; (· exact nxE)) | (apply Bd; (· rfl); (· rfl); (· exact nxE))); (· first | exact Kz rfl rfl (hS) (Ad (Ad An)) | exact Ok.pe)) | ((first | apply Ca | (apply Cb; (· exact nxE))); (· first | exact Ok.e0)) | refine Sx ?_ | (refine Sy (fun h => ?_) (fun h => ?_) <;> try (exfalso; omega; done)) | refine Sz (fun h => ?_) (fun h => ?_))
        refine Ya ?_
        (apply Le.headZ (hs := []) [] rfl)
        all_goals (try dsimp only [srcs])
        (case' hfr => (repeat' (first | refine La ?_ ?_ | exact Lc | refine Lo ?_ | refine ⟨⟨_, rfl, ?_⟩, ?_⟩ | refine Lx ?_)))
        all_goals (first | exact Ld | exact trivial | ((rw [hq]; done)))
      · rw [if_neg hs] at hq
        rw [show szS r.length q = q - r.length from if_neg hs] at hS
        repeat' (first | ((first | apply Ba | (apply Bb; (· rfl); (· rfl)) | (apply Bc; (· exact nxE)) | (apply Bd; (· rfl); (· rfl); (· exact nxE))); (· first | exact Kz rfl rfl (hS) (Ad (Ad An)) | exact Ok.pe)) | ((first | apply Ca | (apply Cb; (· exact nxE))); (· first | exact Ok.e0)) | refine Sx ?_ | (refine Sy (fun h => ?_) (fun h => ?_) <;> try (exfalso; omega; done)) | refine Sz (fun h => ?_) (fun h => ?_))
        refine ⟨⟨(k + 1, q - r.length), by omega, by simp only; omega, by simp only; omega, hq⟩, ?_, by simp only; omega⟩
        (apply Le.headZ [] rfl)
        all_goals (try dsimp only [srcs])
        (case' hfr | hob => (repeat' (first | refine La ?_ ?_ | exact Lc | refine Lo ?_ | refine ⟨⟨_, rfl, ?_⟩, ?_⟩ | refine Lx ?_)))
        all_goals (first | (rfl) | exact Ld)
    · rw [List.drop_of_length_le (by omega), szR] at hq
      rw [hq]
      repeat' (first | ((first | apply Ba | (apply Bb; (· rfl); (· rfl)) | (apply Bc; (· exact nxE)) | (apply Bd; (· rfl); (· rfl); (· exact nxE))); (· first | exact Ok.pe)) | ((first | apply Ca | (apply Cb; (· exact nxE))); (· first | exact Ok.e0)) | refine Sx ?_ | (refine Sy (fun h => ?_) (fun h => ?_) <;> try (exfalso; omega; done)) | refine Sz (fun h => ?_) (fun h => ?_))
      refine Ya ?_
      (apply Le.headZ (hs := []) [] rfl)
      all_goals (try dsimp only [srcs])
      (case' hfr => (repeat' (first | refine La ?_ ?_ | exact Lc | refine Lo ?_ | refine ⟨⟨_, rfl, ?_⟩, ?_⟩ | refine Lx ?_)))
      all_goals (first | exact Ld | exact trivial | (rfl))
abbrev rowI (n : Int) : List D := [DI n]
theorem toInt64S_ac (xs : List Int) (hn : xs.length ≤ 1048576) : AC Try.prog 72 [IL xs] H0 (own1 1 xs.length) (hp1 (IO xs)) := by
  refine AC.of_body 0 Try.func72 rfl (fun l h => absurd rfl h) (fun C hC => ?_)
  have hD : ∀ l, ¬ C.D0 l := fun l h => (hC l).1 h rfl
  simp only [startFr, Try.ntmps72, List.length_cons, List.length_nil, Nat.reduceAdd, Nat.reduceSub, List.replicate_succ, List.replicate_zero, List.cons_append, List.nil_append]
  repeat' (first | ((first | apply Ba | (apply Bb; (· rfl); (· rfl)) | (apply Bc; (· exact nxE)) | (apply Bd; (· rfl); (· rfl); (· exact nxE))); (· first | exact Ok.pe)) | ((first | apply Ca | (apply Cb; (· exact nxE))); (· first | exact Ok.e0)) | refine Sx ?_ | (refine Sy (fun h => ?_) (fun h => ?_) <;> try (exfalso; omega; done)) | refine Sz (fun h => ?_) (fun h => ?_))
  refine AW.loop (X := {k : Nat // k ≤ xs.length}) (fun k => ⟨[IL xs, Oo, Oo, .own 1 ⟨0, []⟩ 0 xs.length, I (k.1 : Nat), Oo, Oo, Oo, Oo, Oo, Oo, Oo, Oo, Oo, Oo, Oo, Oo, Oo, Oo, Oo, Oo, Oo], heapL [(⟨0, []⟩, ⟨3, []⟩, fillRows 1 rowI [DI 0] xs k.1)], 20⟩) (fun k => xs.length - k.1) ⟨0, Nat.zero_le _⟩ ?_ (fun k => ?_)
  ·
    refine Le.head ([(⟨0, []⟩, ⟨3, []⟩, fillRows 1 rowI [DI 0] xs 0)]) (by first | exact fun l h => absurd h (hD l) | (intro l h; rcases hD l h with rfl; simp [tauL]) | (intro l h; rcases hD l h with rfl | rfl <;> simp [tauL]; done) | (intro l h; rcases hD l h with rfl | rfl | rfl <;> simp [tauL])) ?_ ?_ (by simp) (by simp) (by simp [AllP]) <;> (repeat' (first | exact trivial | exact ARs.nil | refine ARs.cons ?_ ?_ | exact AR.dead _ | exact AR.dd _ | exact AR.i (by (try dsimp only); omega) | exact AR.ptr _ _ _ _ (by simp [heapL, upd]) | exact AR.own _ _ _ _ (by simp [heapL, upd]) | refine AR.ownE _ _ _ ?_ (by simp [heapL, upd]) | refine ⟨⟨_, rfl, ?_⟩, ?_⟩ | exact ObA.data | refine ObA.box ?_ | refine ObA.frE ?_ | refine ObA.dataE ?_ | refine ARs.agg ?_ | refine ARs.tup ?_ | exact AR.clo' ARs.nil ARs.nil | exact AR.clo' ARs.nil (hca _ _)))
    all_goals (first | exact fillRows_0.symm | (simp; done))
  obtain ⟨k, hk⟩ := k
  simp only
  by_cases hlt : k < xs.length
  · obtain ⟨x, hx⟩ : ∃ x, xs[k]? = some x := ⟨xs[k], by simp⟩
    have hrow := IR_get hx
    have hget := fillRows_get (m := 1) (row := rowI) (z := [DI 0]) hlt
    repeat' (first | ((first | apply Ba | (apply Bb; (· rfl); (· rfl)) | (apply Bc; (· exact nxE)) | (apply Bd; (· rfl); (· rfl); (· exact nxE))); (· first | exact Ok.storeC rfl rfl rfl rfl hget (by decide) rfl rfl rfl (fillRows_set hx rfl) | exact Ok.pe)) | ((first | apply Ca | (apply Cb; (· exact nxE))); (· first | exact Ok.storeC rfl rfl rfl rfl hget (by decide) rfl rfl rfl (fillRows_set hx rfl) | exact Ok.e0)) | refine Sx ?_ | (refine Sy (fun h => ?_) (fun h => ?_) <;> try (exfalso; omega; done)) | refine Sz (fun h => ?_) (fun h => ?_))
    refine ⟨⟨k + 1, by omega⟩, ?_, by simp only; omega⟩
    refine Le.head ([(⟨0, []⟩, ⟨0, []⟩, fillRows 1 rowI [DI 0] xs (k + 1))]) (by first | exact fun l h => absurd h (hD l) | (intro l h; rcases hD l h with rfl; simp [tauL]) | (intro l h; rcases hD l h with rfl | rfl <;> simp [tauL]; done) | (intro l h; rcases hD l h with rfl | rfl | rfl <;> simp [tauL])) ?_ ?_ (by simp) (by simp) (by simp [AllP]) <;> (repeat' (first | exact trivial | exact ARs.nil | refine ARs.cons ?_ ?_ | exact AR.dead _ | exact AR.dd _ | exact AR.i (by (try dsimp only); omega) | exact AR.ptr _ _ _ _ (by simp [heapL, upd]) | exact AR.own _ _ _ _ (by simp [heapL, upd]) | refine AR.ownE _ _ _ ?_ (by simp [heapL, upd]) | refine ⟨⟨_, rfl, ?_⟩, ?_⟩ | exact ObA.data | refine ObA.box ?_ | refine ObA.frE ?_ | refine ObA.dataE ?_ | refine ARs.agg ?_ | refine ARs.tup ?_ | exact AR.clo' ARs.nil ARs.nil | exact AR.clo' ARs.nil (hca _ _)))
  ·
    repeat' (first | ((first | apply Ba | (apply Bb; (· rfl); (· rfl)) | (apply Bc; (· exact nxE)) | (apply Bd; (· rfl); (· rfl); (· exact nxE))); (· first | exact Ok.pe)) | ((first | apply Ca | (apply Cb; (· exact nxE))); (· first | exact Ok.e0)) | refine Sx ?_ | (refine Sy (fun h => ?_) (fun h => ?_) <;> try (exfalso; omega; done)) | refine Sz (fun h => ?_) (fun h => ?_))
    (refine end1p (by first | exact .inl rfl | exact .inr rfl) rfl (by first | exact rT rfl | exact rCA rfl rfl rfl rfl (by simp) | exact rCC rfl rfl rfl rfl rfl) ?_ (Le.head ([(⟨0, []⟩, ⟨0, []⟩, dobj 1 (IR xs))]) (by first | exact fun l h => absurd h (hD l) | (intro l h; rcases hD l h with rfl; simp [tauL]) | (intro l h; rcases hD l h with rfl | rfl <;> simp [tauL]; done) | (intro l h; rcases hD l h with rfl | rfl | rfl <;> simp [tauL])) ?_ ?_ (by simp) (by simp) (by simp [AllP]) (n' := 1000)); (· rfl)) <;> (repeat' (first | exact trivial | exact ARs.nil | refine ARs.cons ?_ ?_ | exact AR.dead _ | exact AR.dd _ | exact AR.i (by (try dsimp only); omega) | exact AR.ptr _ _ _ _ (by simp [heapL, upd]) | exact AR.own _ _ _ _ (by simp [heapL, upd]) | refine AR.ownE _ _ _ ?_ (by simp [heapL, upd]) | refine ⟨⟨_, rfl, ?_⟩, ?_⟩ | exact ObA.data | refine ObA.box ?_ | refine ObA.frE ?_ | refine ObA.dataE ?_ | refine ARs.agg ?_ | refine ARs.tup ?_ | exact AR.clo' ARs.nil ARs.nil | exact AR.clo' ARs.nil (hca _ _)))
    all_goals exact fillRows_all (by omega)
set_option maxHeartbeats 1000000 in
theorem toInt64SS_ac (t : List (List Int)) (hn : t.length ≤ 1048576) (hr : ∀ r ∈ t, r.length ≤ 1048576) : AC Try.prog 14 [TL t] H0 (own1 1 t.length) (hpM 1 (TR t)) := by
  refine AC.of_body 0 Try.func14 rfl (fun l h => absurd rfl h) (fun C hC => ?_)
  have hD : ∀ l, ¬ C.D0 l := fun l h => (hC l).1 h rfl
  simp only [startFr, Try.ntmps14, List.length_cons, List.length_nil, Nat.reduceAdd, Nat.reduceSub, List.replicate_succ, List.replicate_zero, List.cons_append, List.nil_append]
  repeat' (first | ((first | apply Ba | (apply Bb; (· rfl); (· rfl)) | (apply Bc; (· exact nxE)) | (apply Bd; (· rfl); (· rfl); (· exact nxE))); (· first | exact Ok.pe)) | ((first | apply Ca | (apply Cb; (· exact nxE))); (· first | exact Ok.e0)) | refine Sx ?_ | (refine Sy (fun h => ?_) (fun h => ?_) <;> try (exfalso; omega; done)) | refine Sz (fun h => ?_) (fun h => ?_))
  refine AW.loop (X := {k : Nat // k ≤ t.length}) (fun k => ⟨[TL t, Oo, Oo, .own 1 ⟨1, []⟩ 0 t.length, I (k.1 : Nat), Oo, Oo, Oo, Oo, Oo, Oo, Oo, Oo, Oo, Oo, Oo, Oo, Oo, Oo, Oo, Oo, Oo, Oo], heapX [] [{ l := ⟨1, []⟩, k := 1, R := TR (t.take k.1), nils := t.length - k.1, src := ⟨1, []⟩, base := ⟨1, []⟩ }], 900⟩) (fun k => t.length - k.1) ⟨0, Nat.zero_le _⟩ ?_ (fun k => ?_)
  ·
    (apply Le.headG [] [{ l := ⟨1, []⟩, k := 1, R := [], nils := t.length, src := ⟨3, []⟩, base := ⟨3, []⟩ }] (fun _ => False))
    (case' hlen => rfl)
    (case' hms => rfl)
    all_goals (try dsimp only [srcs])
    (case' hfr | hob => (repeat' (first | refine La ?_ ?_ | exact Lc | refine Lo ?_ | refine ⟨⟨_, rfl, ?_⟩, ?_⟩ | refine Lx ?_)))
    (case' hok => first | exact ⟨MI.ok_make rfl, trivial⟩ | exact trivial)
    (case' hN => rfl)
    (case' hS => rfl)
    all_goals (first | exact Ld | ((simp; done)))
  obtain ⟨k, hk⟩ := k
  simp only
  by_cases hlt : k < t.length
  · obtain ⟨r, hr1⟩ : ∃ r, t[k]? = some r := ⟨t[k], by simp⟩
    have hrow := TR_get hr1
    have htk : (TR (t.take k)).length = k := by simp; omega
    rw [show t.length - k = (t.length - (k + 1)) + 1 by omega]
    repeat' (first | ((first | apply Ba | (apply Bb; (· rfl); (· rfl)) | (apply Bc; (· exact nxE)) | (apply Bd; (· rfl); (· rfl); (· exact nxE))); (· first | exact Eo rfl rfl (toInt64S_ac r (hr r (List.mem_of_getElem? hr1))) (Sd Sn) | exact Ok.stT rfl rfl rfl (by dsimp only; rw [htk]; omega) rfl | exact Ok.pe)) | ((first | apply Ca | (apply Cb; (· exact nxE))); (· first | exact Eo rfl rfl (toInt64S_ac r (hr r (List.mem_of_getElem? hr1))) (Sd Sn) | exact Ok.stT rfl rfl rfl (by dsimp only; rw [htk]; omega) rfl | exact Ok.e0)) | refine Sx ?_ | (refine Sy (fun h => ?_) (fun h => ?_) <;> try (exfalso; omega; done)) | refine Sz (fun h => ?_) (fun h => ?_))
    refine ⟨⟨k + 1, by omega⟩, ?_, by simp only; omega⟩
    (apply Le.headG [] [{ l := ⟨1, []⟩, k := 1, R := TR (t.take (k + 1)), nils := t.length - (k + 1), src := ⟨1, []⟩, base := ⟨1, []⟩, cut := k, ext := some ⟨910, [0]⟩ }] (fun _ => False))
    (case' hlen => rfl)
    (case' hms => rfl)
    all_goals (try dsimp only [srcs])
    (case' hfr | hob => (repeat' (first | refine La ?_ ?_ | exact Lc | refine Lo ?_ | refine ⟨⟨_, rfl, ?_⟩, ?_⟩ | refine Lx ?_)))
    (case' hok => first | exact ⟨MI.ok_fill (TR_take hr1) htk IR_len rfl (Cg) rfl, trivial⟩ | exact trivial)
    (case' hN => rfl)
    (case' hS => rfl)
    all_goals (first | exact Ld | ((simp [AllP]; omega)))
  ·
    have hkn : k = t.length := by omega
    subst hkn
    rw [List.take_length, Nat.sub_self]
    repeat' (first | ((first | apply Ba | (apply Bb; (· rfl); (· rfl)) | (apply Bc; (· exact nxE)) | (apply Bd; (· rfl); (· rfl); (· exact nxE))); (· first | exact Ok.pe)) | ((first | apply Ca | (apply Cb; (· exact nxE))); (· first | exact Ok.e0)) | refine Sx ?_ | (refine Sy (fun h => ?_) (fun h => ?_) <;> try (exfalso; omega; done)) | refine Sz (fun h => ?_) (fun h => ?_))
    refine Ya ?_
    (apply Le.headG [] [{ l := ⟨0, []⟩, k := 1, R := TR t, src := ⟨1, []⟩, base := ⟨1, []⟩ }] (fun _ => False))
    (case' hlen => rfl)
    (case' hms => rfl)
    all_goals (try dsimp only [srcs])
    (case' hfr | hob => (repeat' (first | refine La ?_ ?_ | exact Lc | refine Lo ?_ | refine ⟨⟨_, rfl, ?_⟩, ?_⟩ | refine Lx ?_)))
    (case' hok => first | exact ⟨MI.ok_same rfl (Cg), trivial⟩ | exact trivial)
    (case' hN => rfl)
    (case' hS => rfl)
    all_goals (first | exact Ld | (rfl))
theorem eqInt64S_ac (xs : List Int) (hn : xs.length ≤ 100000000) : AC Try.prog 16 [IL xs, IL xs] H0 (Bo true) H0 := by
  refine AC.of_body 0 Try.func16 rfl (fun l h => absurd rfl h) (fun C hC => ?_)
  have hD : ∀ l, ¬ C.D0 l := fun l h => (hC l).1 h rfl
  simp only [startFr, Try.ntmps16, List.length_cons, List.length_nil, Nat.reduceAdd, Nat.reduceSub, List.replicate_succ, List.replicate_zero, List.cons_append, List.nil_append]
  repeat' (first | ((first | apply Ba | (apply Bb; (· rfl); (· rfl)) | (apply Bc; (· exact nxE)) | (apply Bd; (· rfl); (· rfl); (· exact nxE))); (· first | exact Ok.pe)) | ((first | apply Ca | (apply Cb; (· exact nxE))); (· first | exact Ok.e0)) | refine Sx ?_ | (refine Sy (fun h => ?_) (fun h => ?_) <;> try (exfalso; omega; done)) | refine Sz (fun h => ?_) (fun h => ?_))
  refine AW.loop (X := {k : Nat // k ≤ xs.length}) (fun k => ⟨[IL xs, IL xs, Oo, Oo, Oo, I (k.1 : Nat), Oo, Oo, Oo, Oo, Oo, Oo, Oo, Oo, Oo, Oo, Oo, Oo, Oo, Oo, Oo, Oo, Oo, Oo, Oo, Oo], heapL [], 900⟩) (fun k => xs.length - k.1) ⟨0, Nat.zero_le _⟩ ?_ (fun k => ?_)
  ·
    (apply Le.headZ [] rfl)
    all_goals (try dsimp only [srcs])
    (case' hfr | hob => (repeat' (first | refine La ?_ ?_ | exact Lc | refine Lo ?_ | refine ⟨⟨_, rfl, ?_⟩, ?_⟩ | refine Lx ?_)))
    all_goals (first | (rfl) | exact Ld)
  obtain ⟨k, hk⟩ := k
  simp only
  by_cases hlt : k < xs.length
  · obtain ⟨x, hx⟩ : ∃ x, xs[k]? = some x := ⟨xs[k], by simp⟩
    have hrow := IR_get hx
    repeat' (first | ((first | apply Ba | (apply Bb; (· rfl); (· rfl)) | (apply Bc; (· exact nxE)) | (apply Bd; (· rfl); (· rfl); (· exact nxE))); (· first | exact Ok.pe)) | ((first | apply Ca | (apply Cb; (· exact nxE))); (· first | exact Ok.e0)) | refine Sx ?_ | (refine Sy (fun h => ?_) (fun h => ?_) <;> try (exfalso; omega; done)) | refine Sz (fun h => ?_) (fun h => ?_))
    refine ⟨⟨k + 1, by omega⟩, ?_, by simp only; omega⟩
    (apply Le.headZ [] rfl)
    all_goals (try dsimp only [srcs])
    (case' hfr | hob => (repeat' (first | refine La ?_ ?_ | exact Lc | refine Lo ?_ | refine ⟨⟨_, rfl, ?_⟩, ?_⟩ | refine Lx ?_)))
    all_goals (first | (rfl) | exact Ld)
  ·
    repeat' (first | ((first | apply Ba | (apply Bb; (· rfl); (· rfl)) | (apply Bc; (· exact nxE)) | (apply Bd; (· rfl); (· rfl); (· exact nxE))); (· first | exact Ok.pe)) | ((first | apply Ca | (apply Cb; (· exact nxE))); (· first | exact Ok.e0)) | refine Sx ?_ | (refine Sy (fun h => ?_) (fun h => ?_) <;> try (exfalso; omega; done)) | refine Sz (fun h => ?_) (fun h => ?_))
    refine Ya ?_
    (apply Le.headZ (hs := []) [] rfl)
    all_goals (try dsimp only [srcs])
    (case' hfr => (repeat' (first | refine La ?_ ?_ | exact Lc | refine Lo ?_ | refine ⟨⟨_, rfl, ?_⟩, ?_⟩ | refine Lx ?_)))
    all_goals (first | exact Ld | exact trivial | (rfl))
theorem eqInt64SS_ac (t : List (List Int)) (hn : t.length ≤ 100000000) (hr : ∀ r ∈ t, r.length ≤ 100000000) : AC Try.prog 17 [TL t, TL t] H0 (Bo true) H0 := by
  refine AC.of_body 0 Try.func17 rfl (fun l h => absurd rfl h) (fun C hC => ?_)
  have hD : ∀ l, ¬ C.D0 l := fun l h => (hC l).1 h rfl
  simp only [startFr, Try.ntmps17, List.length_cons, List.length_nil, Nat.reduceAdd, Nat.reduceSub, List.replicate_succ, List.replicate_zero, List.cons_append, List.nil_append]
  repeat' (first | ((first | apply Ba | (apply Bb; (· rfl); (· rfl)) | (apply Bc; (· exact nxE)) | (apply Bd; (· rfl); (· rfl); (· exact nxE))); (· first | exact Ok.pe)) | ((first | apply Ca | (apply Cb; (· exact nxE))); (· first | exact Ok.e0)) | refine Sx ?_ | (refine Sy (fun h => ?_) (fun h => ?_) <;> try (exfalso; omega; done)) | refine Sz (fun h => ?_) (fun h => ?_))
  refine AW.loop (X := {k : Nat // k ≤ t.length}) (fun k => ⟨[TL t, TL t, Oo, Oo, Oo, I (k.1 : Nat), Oo, Oo, Oo, Oo, Oo, Oo, Oo, Oo, Oo, Oo, Oo, Oo, Oo, Oo, Oo, Oo, Oo, Oo, Oo, Oo, Oo], heapL [], 900⟩) (fun k => t.length - k.1) ⟨0, Nat.zero_le _⟩ ?_ (fun k => ?_)
  ·
    (apply Le.headZ [] rfl)
    all_goals (try dsimp only [srcs])
    (case' hfr | hob => (repeat' (first | refine La ?_ ?_ | exact Lc | refine Lo ?_ | refine ⟨⟨_, rfl, ?_⟩, ?_⟩ | refine Lx ?_)))
    all_goals (first | (rfl) | exact Ld)
  obtain ⟨k, hk⟩ := k
  simp only
  by_cases hlt : k < t.length
  · obtain ⟨r, hr1⟩ : ∃ r, t[k]? = some r := ⟨t[k], by simp⟩
    have hrow := TR_get hr1
    repeat' (first | ((first | apply Ba | (apply Bb; (· rfl); (· rfl)) | (apply Bc; (· exact nxE)) | (apply Bd; (· rfl); (· rfl); (· exact nxE))); (· first | exact Kz rfl rfl (eqInt64S_ac r (hr r (List.mem_of_getElem? hr1))) (Ad (Ad An)) | exact Ok.pe)) | ((first | apply Ca | (apply Cb; (· exact nxE))); (· first | exact Ok.e0)) | refine Sx ?_ | (refine Sy (fun h => ?_) (fun h => ?_) <;> try (exfalso; omega; done)) | refine Sz (fun h => ?_) (fun h => ?_))
    refine ⟨⟨k + 1, by omega⟩, ?_, by simp only; omega⟩
    (apply Le.headZ [] rfl)
    all_goals (try dsimp only [srcs])
    (case' hfr | hob => (repeat' (first | refine La ?_ ?_ | exact Lc | refine Lo ?_ | refine ⟨⟨_, rfl, ?_⟩, ?_⟩ | refine Lx ?_)))
    all_goals (first | (rfl) | exact Ld)
  ·
    repeat' (first | ((first | apply Ba | (apply Bb; (· rfl); (· rfl)) | (apply Bc; (· exact nxE)) | (apply Bd; (· rfl); (· rfl); (· exact nxE))); (· first | exact Ok.pe)) | ((first | apply Ca | (apply Cb; (· exact nxE))); (· first | exact Ok.e0)) | refine Sx ?_ | (refine Sy (fun h => ?_) (fun h => ?_) <;> try (exfalso; omega; done)) | refine Sz (fun h => ?_) (fun h => ?_))
    refine Ya ?_
    (apply Le.headZ (hs := []) [] rfl)
    all_goals (try dsimp only [srcs])
    (case' hfr => (repeat' (first | refine La ?_ ?_ | exact Lc | refine Lo ?_ | refine ⟨⟨_, rfl, ?_⟩, ?_⟩ | refine Lx ?_)))
    all_goals (first | exact Ld | exact trivial | (rfl))
end Go.Proofs.Ytikadoicplnkgaa
end

section
namespace Go.Proofs.Ytikadoicplnkgaa
set_option linter.unusedSimpArgs false
set_option linter.unusedVariables false
open Go Go.RowKit
attribute [local irreducible] AL AD AW OpOk Le AC thenQ blockQ EndQ

def mkF (k : Int) : Nat → Int := fun j => k + (j : Int)
def mixR (f g : Nat → Int) (K : Nat) : Nat → Int := fun j => if j < K then f j else g j
theorem mixR_0 {f g : Nat → Int} {n : Nat} : rowF n (mixR f g 0) = rowF n g := rowF_congr fun j _ => by simp [mixR]
theorem mixR_all {f g : Nat → Int} {n : Nat} : rowF n (mixR f g n) = rowF n f := rowF_congr fun j hj => by simp [mixR, hj]
theorem mixR_set {f g : Nat → Int} {n K : Nat} : (rowF n (mixR f g K)).set K (f K) = rowF n (mixR f g (K + 1)) := by
  rw [rowF_set]
  refine rowF_congr fun b _ => ?_
  unfold mixR
  by_cases e : b = K
  · subst e; simp
  · rw [if_neg e]
    by_cases h : b < K
    · rw [if_pos h, if_pos (by omega)]
    · rw [if_neg h, if_neg (by omega)]
theorem IR_setR {f g : Nat → Int} {n K : Nat} : (IR (rowF n (mixR f g K))).set K [DI (f K)] = IR (rowF n (mixR f g (K + 1))) := by rw [IR_set, mixR_set]
set_option maxHeartbeats 1000000 in
theorem markInt64S_ac (g : Nat → Int) (n : Nat) (k0 : Int) (hn : n ≤ 10000000) (hk : 0 ≤ k0 ∧ k0 ≤ 10000000000000000) : AC Try.prog 19 [own1 1 n, I k0] (hp1 (IO (rowF n g))) (I (k0 + n)) (hp1 (IO (rowF n (mkF k0)))) := by
  refine AC.of_body 1 Try.func19 rfl (fun l h => by simp [upd] at h; simp [h]) (fun C hC => ?_)
  simp only [startFr, Try.ntmps19, List.length_cons, List.length_nil, Nat.reduceAdd, Nat.reduceSub, List.replicate_succ, List.replicate_zero, List.cons_append, List.nil_append]
  have hD : ∀ l, C.D0 l → l = ⟨0, []⟩ := fun l h => by have := (hC l).1 h; simp [upd] at this; exact this
  repeat' (first | ((first | apply Ba | (apply Bb; (· rfl); (· rfl)) | (apply Bc; (· exact nxE)) | (apply Bd; (· rfl); (· rfl); (· exact nxE))); (· first | exact Ok.pe)) | ((first | apply Ca | (apply Cb; (· exact nxE))); (· first | exact Ok.e0)) | refine Sx ?_ | (refine Sy (fun h => ?_) (fun h => ?_) <;> try (exfalso; omega; done)) | refine Sz (fun h => ?_) (fun h => ?_))
  refine AW.loop (X := {k : Nat // k ≤ n}) (fun k => ⟨[own1 1 n, I (k0 + (k.1 : Nat)), Oo, Oo, Oo, I (k.1 : Nat), Oo, Oo, Oo, Oo, Oo, Oo, Oo, Oo, Oo, Oo, Oo, Oo, Oo], heapL [(⟨0, []⟩, ⟨0, []⟩, IO (rowF n (mixR (mkF k0) g k.1)))], 900⟩) (fun k => n - k.1) ⟨0, Nat.zero_le _⟩ ?_ (fun k => ?_)
  ·
    (apply Le.headZ [_] rfl)
    all_goals (try dsimp only [srcs])
    (case' hfr | hob => (repeat' (first | refine La ?_ ?_ | exact Lc | refine Lo ?_ | refine ⟨⟨_, rfl, ?_⟩, ?_⟩ | refine Lx ?_)))
    all_goals (first | (first | (rw [mixR_0]; done) | (simp; done)) | exact Ld)
  obtain ⟨k, hkk⟩ := k
  simp only
  by_cases hlt : k < n
  ·
    repeat' (first | ((first | apply Ba | (apply Bb; (· rfl); (· rfl)) | (apply Bc; (· exact nxE)) | (apply Bd; (· rfl); (· rfl); (· exact nxE))); (· first | exact Ok.st1 (c := DI (mkF k0 k)) rfl rfl rfl (by simp [rowF_len]; omega) (by rw [IRF_get hlt]; rfl) rfl rfl IR_setR | exact Ok.pe)) | ((first | apply Ca | (apply Cb; (· exact nxE))); (· first | exact Ok.st1 (c := DI (mkF k0 k)) rfl rfl rfl (by simp [rowF_len]; omega) (by rw [IRF_get hlt]; rfl) rfl rfl IR_setR | exact Ok.e0)) | refine Sx ?_ | (refine Sy (fun h => ?_) (fun h => ?_) <;> try (exfalso; omega; done)) | refine Sz (fun h => ?_) (fun h => ?_))
    refine ⟨⟨k + 1, by omega⟩, ?_, by simp only; omega⟩
    (apply Le.headZ [_] rfl)
    all_goals (try dsimp only [srcs])
    (case' hfr | hob => (repeat' (first | refine La ?_ ?_ | exact Lc | refine Lo ?_ | refine ⟨⟨_, rfl, ?_⟩, ?_⟩ | refine Lx ?_)))
    all_goals (first | (rfl) | exact Ld)
  ·
    have hkn : k = n := by omega
    subst hkn
    rw [mixR_all]
    repeat' (first | ((first | apply Ba | (apply Bb; (· rfl); (· rfl)) | (apply Bc; (· exact nxE)) | (apply Bd; (· rfl); (· rfl); (· exact nxE))); (· first | exact Ok.pe)) | ((first | apply Ca | (apply Cb; (· exact nxE))); (· first | exact Ok.e0)) | refine Sx ?_ | (refine Sy (fun h => ?_) (fun h => ?_) <;> try (exfalso; omega; done)) | refine Sz (fun h => ?_) (fun h => ?_))
    (refine end1p (by first | exact .inl rfl | exact .inr rfl) rfl (by first | exact rT rfl | exact rCA rfl rfl rfl rfl (by simp) | exact rCC rfl rfl rfl rfl rfl) ?_ (Le.head ([(⟨0, []⟩, ⟨0, []⟩, IO (rowF k (mkF k0)))]) (by first | exact fun l h => absurd h (hD l) | (intro l h; rcases hD l h with rfl; simp [tauL]) | (intro l h; rcases hD l h with rfl | rfl <;> simp [tauL]; done) | (intro l h; rcases hD l h with rfl | rfl | rfl <;> simp [tauL])) ?_ ?_ (by simp) (by simp) (by simp [AllP]) (n' := 1000)); (· rfl)) <;> (repeat' (first | exact trivial | exact ARs.nil | refine ARs.cons ?_ ?_ | exact AR.dead _ | exact AR.dd _ | exact AR.i (by (try dsimp only); omega) | exact AR.ptr _ _ _ _ (by simp [heapL, upd]) | exact AR.own _ _ _ _ (by simp [heapL, upd]) | refine AR.ownE _ _ _ ?_ (by simp [heapL, upd]) | refine ⟨⟨_, rfl, ?_⟩, ?_⟩ | exact ObA.data | refine ObA.box ?_ | refine ObA.frE ?_ | refine ObA.dataE ?_ | refine ARs.agg ?_ | refine ARs.tup ?_ | exact AR.clo' ARs.nil ARs.nil | exact AR.clo' ARs.nil (hca _ _)))
theorem mkRow_get {n j : Nat} {k0 : Int} (h : j < n) : (IR (rowF n (mkF k0)))[((j : Nat) : Int).toNat]? = some [DI (k0 + j)] := IRF_get h
theorem heldInt64S_ac (n : Nat) (k0 : Int) (hn : n ≤ 10000000) (hk : 0 ≤ k0 ∧ k0 ≤ 10000000000000000) : AC Try.prog 20 [IL (rowF n (mkF k0)), I k0] H0 (I (k0 + n)) H0 := by
  have hl : (IR (rowF n (mkF k0))).length = n := by rw [IR_len, rowF_len]
  have hl2 : (rowF n (mkF k0)).length = n := rowF_len
  refine AC.of_body 0 Try.func20 rfl (fun l h => absurd rfl h) (fun C hC => ?_)
  have hD : ∀ l, ¬ C.D0 l := fun l h => (hC l).1 h rfl
  simp only [startFr, Try.ntmps20, List.length_cons, List.length_nil, Nat.reduceAdd, Nat.reduceSub, List.replicate_succ, List.replicate_zero, List.cons_append, List.nil_append]
  repeat' (first | ((first | apply Ba | (apply Bb; (· rfl); (· rfl)) | (apply Bc; (· exact nxE)) | (apply Bd; (· rfl); (· rfl); (· exact nxE))); (· first | exact Ok.pe)) | ((first | apply Ca | (apply Cb; (· exact nxE))); (· first | exact Ok.e0)) | refine Sx ?_ | (refine Sy (fun h => ?_) (fun h => ?_) <;> try (exfalso; omega; done)) | refine Sz (fun h => ?_) (fun h => ?_))
  refine AW.loop (X := {k : Nat // k ≤ n}) (fun k => ⟨[IL (rowF n (mkF k0)), I (k0 + (k.1 : Nat)), Oo, Oo, Oo, I (k.1 : Nat), Oo, Oo, Oo, Oo, Oo, Oo, Oo, Oo, Oo, Oo, Oo, Oo, Oo, Oo, Oo], heapL [], 900⟩) (fun k => n - k.1) ⟨0, Nat.zero_le _⟩ ?_ (fun k => ?_)
  ·
    (apply Le.headZ [] rfl)
    all_goals (try dsimp only [srcs])
    (case' hfr | hob => (repeat' (first | refine La ?_ ?_ | exact Lc | refine Lo ?_ | refine ⟨⟨_, rfl, ?_⟩, ?_⟩ | refine Lx ?_)))
    all_goals (first | ((simp; done)) | exact Ld)
  obtain ⟨k, hkk⟩ := k
  simp only
  by_cases hlt : k < n
  ·
    have hrow := mkRow_get (k0 := k0) hlt
    repeat' (first | ((first | apply Ba | (apply Bb; (· rfl); (· rfl)) | (apply Bc; (· exact nxE)) | (apply Bd; (· rfl); (· rfl); (· exact nxE))); (· first | exact Ok.pe)) | ((first | apply Ca | (apply Cb; (· exact nxE))); (· first | exact Ok.e0)) | refine Sx ?_ | (refine Sy (fun h => ?_) (fun h => ?_) <;> try (exfalso; omega; done)) | refine Sz (fun h => ?_) (fun h => ?_))
    refine ⟨⟨k + 1, by omega⟩, ?_, by simp only; omega⟩
    (apply Le.headZ [] rfl)
    all_goals (try dsimp only [srcs])
    (case' hfr | hob => (repeat' (first | refine La ?_ ?_ | exact Lc | refine Lo ?_ | refine ⟨⟨_, rfl, ?_⟩, ?_⟩ | refine Lx ?_)))
    all_goals (first | (rfl) | exact Ld)
  ·
    have hkn : k = n := by omega
    subst hkn
    repeat' (first | ((first | apply Ba | (apply Bb; (· rfl); (· rfl)) | (apply Bc; (· exact nxE)) | (apply Bd; (· rfl); (· rfl); (· exact nxE))); (· first | exact Ok.pe)) | ((first | apply Ca | (apply Cb; (· exact nxE))); (· first | exact Ok.e0)) | refine Sx ?_ | (refine Sy (fun h => ?_) (fun h => ?_) <;> try (exfalso; omega; done)) | refine Sz (fun h => ?_) (fun h => ?_))
    refine Ya ?_
    (apply Le.headZ (hs := []) [] rfl)
    all_goals (try dsimp only [srcs])
    (case' hfr => (repeat' (first | refine La ?_ ?_ | exact Lc | refine Lo ?_ | refine ⟨⟨_, rfl, ?_⟩, ?_⟩ | refine Lx ?_)))
    all_goals (first | exact Ld | exact trivial | (rfl))
/-! ### Tables marked -/
def offT (t : List (List Int)) (i : Nat) : Nat := ((t.take i).map List.length).sum
def mkRow (k : Int) (r : List Int) : List Int := rowF r.length (mkF k)
def mkAt (t : List (List Int)) (k : Int) (i : Nat) : List (List Int) := t.mapIdx fun j r => if j < i then mkRow (k + offT t j) r else r
theorem offT_succ {t : List (List Int)} {i : Nat} {r : List Int} (h : t[i]? = some r) : offT t (i + 1) = offT t i + r.length := by
  obtain ⟨hi, rfl⟩ := List.getElem?_eq_some_iff.1 h
  unfold offT
  rw [List.take_succ_eq_append_getElem hi, List.map_append, List.sum_append]; rfl
theorem offT_le {t : List (List Int)} (h : ∀ r ∈ t, r.length ≤ 1048576) : ∀ i, i ≤ t.length → offT t i ≤ i * 1048576
  | 0, _ => by simp [offT]
  | i + 1, hi => by
    have h1 := List.getElem?_eq_getElem (l := t) (i := i) (by omega)
    have := offT_le h i (by omega)
    have h2 := h t[i] (List.getElem_mem _)
    rw [offT_succ h1]; omega
theorem mkAt_len {t : List (List Int)} {k : Int} {i : Nat} : (mkAt t k i).length = t.length := by simp [mkAt]
theorem mkAt_0 {t : List (List Int)} {k : Int} : mkAt t k 0 = t := by
  apply List.ext_getElem?
  intro j
  simp [mkAt]
theorem mkAt_get {t : List (List Int)} {k : Int} {i j : Nat} {r : List Int} (h : t[j]? = some r) : (mkAt t k i)[j]? = some (if j < i then mkRow (k + offT t j) r else r) := by simp [mkAt, h]
theorem mkAt_step {t : List (List Int)} {k : Int} {i : Nat} {r : List Int} (h : t[i]? = some r) : mkAt t k (i + 1) = (mkAt t k i).set i (mkRow (k + offT t i) r) := by
  apply List.ext_getElem?
  intro j
  rw [List.getElem?_set]
  by_cases e : i = j
  · subst e
    obtain ⟨hi, _⟩ := List.getElem?_eq_some_iff.1 h
    rw [if_pos rfl, if_pos (by rw [mkAt_len]; exact hi), mkAt_get h, if_pos (by omega)]
  · rw [if_neg e]
    cases hj : t[j]? with
    | none => rw [List.getElem?_eq_none (by rw [mkAt_len]; simpa using hj), List.getElem?_eq_none (by rw [mkAt_len]; simpa using hj)]
    | some q =>
      rw [mkAt_get hj, mkAt_get hj]
      by_cases h1 : j < i
      · rw [if_pos h1, if_pos (by omega)]
      · rw [if_neg h1, if_neg (by omega)]
theorem hpM_id {k : Nat} {R : List (List (List D))} {l : Loc} (h : hpM k R l ≠ none) : l = ⟨0, []⟩ ∨ ∃ i, l = Loc.at ⟨0, []⟩ i := by
  cases hh : hpM k R l with
  | none => exact absurd hh h
  | some ob =>
    rcases hpM_some hh with ⟨rfl, _⟩ | ⟨i, r, rfl, _⟩
    · exact .inl rfl
    · exact .inr ⟨i, rfl⟩
set_option maxHeartbeats 1000000 in
theorem markInt64SS_ac (t : List (List Int)) (k0 : Int) (hn : t.length ≤ 1048576) (hr : ∀ r ∈ t, r.length ≤ 1048576) (hk : 0 ≤ k0 ∧ k0 ≤ 1000000000) : AC Try.prog 18 [own1 1 t.length, I k0] (hpM 1 (TR t)) (I (k0 + offT t t.length)) (hpM 1 (TR (mkAt t k0 t.length))) := by
  refine AC.of_body 1 Try.func18 rfl (fun l h => by rcases hpM_id h with rfl | ⟨i, rfl⟩ <;> simp [Loc.at]) (fun C hC => ?_)
  simp only [startFr, Try.ntmps18, List.length_cons, List.length_nil, Nat.reduceAdd, Nat.reduceSub, List.replicate_succ, List.replicate_zero, List.cons_append, List.nil_append]
  have hD : ∀ l, C.D0 l → l = ⟨0, []⟩ ∨ ∃ i, l = Loc.at ⟨0, []⟩ i := fun l h => hpM_id ((hC l).1 h)
  repeat' (first | ((first | apply Ba | (apply Bb; (· rfl); (· rfl)) | (apply Bc; (· exact nxE)) | (apply Bd; (· rfl); (· rfl); (· exact nxE))); (· first | exact Ok.pe)) | ((first | apply Ca | (apply Cb; (· exact nxE))); (· first | exact Ok.e0)) | refine Sx ?_ | (refine Sy (fun h => ?_) (fun h => ?_) <;> try (exfalso; omega; done)) | refine Sz (fun h => ?_) (fun h => ?_))
  refine AW.loop (X := {k : Nat // k ≤ t.length}) (fun k => ⟨[own1 1 t.length, I (k0 + offT t k.1), Oo, Oo, Oo, I (k.1 : Nat), Oo, Oo, Oo, Oo, Oo, Oo, Oo, Oo, Oo, Oo, Oo, Oo, Oo], heapX [] [mi0 1 (TR (mkAt t k0 k.1))], 900⟩) (fun k => t.length - k.1) ⟨0, Nat.zero_le _⟩ ?_ (fun k => ?_)
  ·
    (apply Le.headG [] [mi0 1 (TR (mkAt t k0 0))] (fun _ => False))
    (case' hlen => rfl)
    (case' hms => rfl)
    all_goals (try dsimp only [srcs])
    (case' hfr | hob => (repeat' (first | refine La ?_ ?_ | exact Lc | refine Lo ?_ | refine ⟨⟨_, rfl, ?_⟩, ?_⟩ | refine Lx ?_)))
    (case' hok => first | exact ⟨by rw [mkAt_0]; exact MI.ok_same rfl (Cg), trivial⟩ | exact trivial)
    (case' hN => rfl)
    (case' hS => rfl)
    all_goals (first | exact Ld | ((simp [offT]; done)))
  obtain ⟨k, hkk⟩ := k
  simp only
  by_cases hlt : k < t.length
  · obtain ⟨r, hr1⟩ : ∃ r, t[k]? = some r := ⟨t[k], by simp⟩
    have hof := offT_le hr k hkk
    have hrl := hr r (List.mem_of_getElem? hr1)
    have hst := offT_succ hr1
    have hget : (TR (mkAt t k0 k))[k]? = some (IR (rowF r.length (fun j => (r[j]?).getD 0))) := by
      rw [rowF_self rfl, List.getElem?_map, mkAt_get hr1, if_neg (Nat.lt_irrefl k)]; rfl
    have hgl : (IR (rowF r.length (fun j => (r[j]?).getD 0))).length = r.length := by rw [IR_len, rowF_len]
    have hM := markInt64S_ac (fun j => (r[j]?).getD 0) r.length (k0 + offT t k) (by omega) (by omega)
    repeat' (first | ((first | apply Ba | (apply Bb; (· rfl); (· rfl)) | (apply Bc; (· exact nxE)) | (apply Bd; (· rfl); (· rfl); (· exact nxE))); (· first | exact Ok.ldTn rfl rfl rfl hget hgl | exact OpOk.callM (l := Loc.at ⟨0, []⟩ k) rfl rfl hM (congrArg (Option.map (dobj 1)) hget) rfl (.cons (.own _ _ _ _ rfl) (.cons (.dd _) .nil)) | exact Ok.pe)) | ((first | apply Ca | (apply Cb; (· exact nxE))); (· first | exact OpOk.callM (l := Loc.at ⟨0, []⟩ k) rfl rfl hM (congrArg (Option.map (dobj 1)) hget) rfl (.cons (.own _ _ _ _ rfl) (.cons (.dd _) .nil)) | exact Ok.e0)) | refine Sx ?_ | (refine Sy (fun h => ?_) (fun h => ?_) <;> try (exfalso; omega; done)) | refine Sz (fun h => ?_) (fun h => ?_))
    refine ⟨⟨k + 1, by omega⟩, ?_, by simp only; omega⟩
    (apply Le.headG [] [mi0 1 (TR (mkAt t k0 (k + 1)))] (fun _ => False))
    (case' hlen => rfl)
    (case' hms => rfl)
    all_goals (try dsimp only [srcs])
    (case' hfr | hob => (repeat' (first | refine La ?_ ?_ | exact Lc | refine Lo ?_ | refine ⟨⟨_, rfl, ?_⟩, ?_⟩ | refine Lx ?_)))
    (case' hok => first | exact ⟨MI.ok_row (by rw [mkAt_step hr1]; simp [List.map_set, mkRow]) hget (by simp [rowF_len]) rfl (Cg), trivial⟩ | exact trivial)
    (case' hN => rfl)
    (case' hS => rfl)
    all_goals (first | exact Ld | (rfl))
  ·
    have hkn : k = t.length := by omega
    subst hkn
    repeat' (first | ((first | apply Ba | (apply Bb; (· rfl); (· rfl)) | (apply Bc; (· exact nxE)) | (apply Bd; (· rfl); (· rfl); (· exact nxE))); (· first | exact Ok.pe)) | ((first | apply Ca | (apply Cb; (· exact nxE))); (· first | exact Ok.e0)) | refine Sx ?_ | (refine Sy (fun h => ?_) (fun h => ?_) <;> try (exfalso; omega; done)) | refine Sz (fun h => ?_) (fun h => ?_))
    refine Ya ?_
    (apply Le.headG [] [mi0 1 (TR (mkAt t k0 t.length))] (fun _ => False))
    (case' hlen => rfl)
    (case' hms => rfl)
    all_goals (try dsimp only [srcs])
    (case' hfr | hob => (repeat' (first | refine La ?_ ?_ | exact Lc | refine Lo ?_ | refine ⟨⟨_, rfl, ?_⟩, ?_⟩ | refine Lx ?_)))
    (case' hok => first | exact ⟨MI.ok_same rfl (Cg), trivial⟩ | exact trivial)
    (case' hN => rfl)
    (case' hS => rfl)
    all_goals (first | exact Ld | (rfl))
end Go.Proofs.Ytikadoicplnkgaa
end

section
namespace Go.Proofs.Ytikadoicplnkgaa
set_option linter.unusedSimpArgs false
set_option linter.unusedVariables false
open Go Go.RowKit
attribute [local irreducible] AL AD AW OpOk Le AC thenQ blockQ EndQ

theorem mgF_0 {n : Nat} {f : Nat → Int} : dobj 1 (List.replicate n [DI 0]) = IO (rowF n (mixR f (fun _ => 0) 0)) := by
  rw [mixR_0]
  unfold IO dobj
  simp [rowF, List.map_const']
end Go.Proofs.Ytikadoicplnkgaa
end

section
namespace Go.Proofs.Ytikadoicplnkgaa
set_option linter.unusedSimpArgs false
set_option linter.unusedVariables false
open Go Go.RowKit
attribute [local irreducible] AL AD AW OpOk Le AC thenQ blockQ EndQ

def isCr (s : Nat → Nat → Int) (u1 u2 : Int) (p : Pl) : Bool := !decide (s p.f.toNat p.t.toNat = BOT) && decide (pw u1 u2 p + s p.f.toNat p.t.toNat = 0)
end Go.Proofs.Ytikadoicplnkgaa
end

section
namespace Go.Proofs.Ytikadoicplnkgaa
set_option linter.unusedSimpArgs false
set_option linter.unusedVariables false
open Go Go.RowKit

theorem growC_pre {xs : List Pl} {rn rd over : Int} : ∀ {k : Nat} {l : List Nat}, growC xs rn rd over k l ≠ [] → ∃ e, growC xs rn rd over k l = l ++ e
  | 0, _, h => by simp [growC] at h
  | k + 1, l, h => by
    unfold growC at h ⊢
    split
    · rename_i h1
      rw [if_pos h1] at h
      split
      · exact ⟨[], by simp⟩
      · rename_i h2; rw [if_neg h2] at h; exact absurd rfl h
    · rename_i h1
      rw [if_neg h1] at h
      obtain ⟨i, hi, h2, h3⟩ := tryAll_mem h
      rw [h3]
      split at h2
      · exact absurd rfl h2
      · rename_i hs
        rw [if_neg hs]
        obtain ⟨e, he⟩ := growC_pre h2
        exact ⟨i :: e, by rw [he]; simp⟩
theorem tryAll_congr {α : Type} {f g : Nat → List α} : ∀ {l : List Nat}, (∀ v ∈ l, f v = g v) → tryAll f l = tryAll g l
  | [], _ => rfl
  | v :: r, h => by
    unfold tryAll
    rw [h v (by simp), tryAll_congr fun x hx => h x (by simp [hx])]
theorem star_super {W : Nat → Nat → Int} {n : Nat} {s : Nat → Nat → Int} (hs : StarOk W n s) {u m v : Nat} (hu : u < n) (hm : m < n) (hv : v < n) (h1 : s m u ≠ BOT) (h2 : s v m ≠ BOT) : s v u ≠ BOT ∧ s m u + s v m ≤ s v u := by
  rcases hs.some u m hu hm with e | ⟨e, e2⟩ | ⟨c, c1, c2, c3⟩
  · exact absurd e h1
  · subst e; exact ⟨h2, by omega⟩
  · rcases hs.some m v hm hv with e | ⟨e, e2⟩ | ⟨c', d1, d2, d3⟩
    · exact absurd e h2
    · subst e; exact ⟨h1, by omega⟩
    · have := hs.all u v (c ++ m :: c') hu hv (fun x hx => by
        rcases List.mem_append.1 hx with h | h
        · exact c2 x h
        · rcases List.mem_cons.1 h with rfl | h
          · exact hm
          · exact d2 x h) (WM.app.2 ⟨c1, d1⟩)
      rw [wM_app] at this
      exact ⟨this.1, by omega⟩
theorem wk_wm {n : Nat} {xs : List Pl} {r : Int × Int} {t : List (List Int)} (hw : WmOk n xs r t) (hv : ∀ p ∈ xs, okPl n p) : ∀ {c : List Nat} {u v : Int}, Wk xs u c v → c ≠ [] → ∃ c', WM (entN t) u.toNat c' v.toNat ∧ (∀ x ∈ c', x < n) ∧ wgt xs r.1 r.2 c ≤ wM (entN t) u.toNat c' v.toNat
  | [], _, _, _, h => absurd rfl h
  | [i], u, v, ⟨h1, h2, h3⟩, _ => by
    have hp : plA xs i ∈ xs := by
      have e : plA xs i = xs[i] := by simp [plA, h1]
      rw [e]; exact List.getElem_mem h1
    have ha := hw.all _ hp
    have h3' : (plA xs i).t = v := h3
    subst h2 h3'
    exact ⟨[], ha.1, by simp, by simp only [wgt, wM]; omega⟩
  | i :: j :: c, u, v, ⟨h1, h2, h3⟩, _ => by
    have hp : plA xs i ∈ xs := by
      have e : plA xs i = xs[i] := by simp [plA, h1]
      rw [e]; exact List.getElem_mem h1
    have ha := hw.all _ hp
    obtain ⟨c', g1, g2, g3⟩ := wk_wm hw hv h3 (by simp)
    obtain ⟨_, ⟨k1, k2⟩, _⟩ := hv _ hp
    subst h2
    refine ⟨(plA xs i).t.toNat :: c', ⟨ha.1, g1⟩, fun x hx => ?_, ?_⟩
    · rcases List.mem_cons.1 hx with rfl | h
      · omega
      · exact g2 x h
    · have e : wgt xs r.1 r.2 (i :: j :: c) = pw r.1 r.2 (plA xs i) + wgt xs r.1 r.2 (j :: c) := rfl
      rw [e]
      simp only [wM]
      omega
/-- What is held of the weights, their star and the greatest ratio. -/
structure CrOk (xs : List Pl) (n : Nat) (r : Int × Int) (s : Nat → Nat → Int) : Prop where
  v : ∀ p ∈ xs, okPl n p
  mx : MaxR xs r
  w : WmOk n xs r (wmT n xs r)
  np : NoPos (entN (wmT n xs r)) n
  st : StarOk (entN (wmT n xs r)) n s
abbrev crB (xs : List Pl) (r : Int × Int) (s : Nat → Nat → Int) (i : Nat) : Bool := isCr s r.1 r.2 (plA xs i)
theorem crB_iff {xs : List Pl} {r : Int × Int} {s : Nat → Nat → Int} {i : Nat} : crB xs r s i = true ↔ s (plA xs i).f.toNat (plA xs i).t.toNat ≠ BOT ∧ pw r.1 r.2 (plA xs i) + s (plA xs i).f.toNat (plA xs i).t.toNat = 0 := by
  unfold crB isCr
  simp
theorem CrOk.at {xs : List Pl} {n : Nat} {r : Int × Int} {s : Nat → Nat → Int} (h : CrOk xs n r s) {i : Nat} (hi : i < xs.length) : (0 ≤ (plA xs i).f ∧ (plA xs i).f.toNat < n) ∧ (0 ≤ (plA xs i).t ∧ (plA xs i).t.toNat < n) ∧ plA xs i ∈ xs := by
  have hp : plA xs i ∈ xs := by
    have e : plA xs i = xs[i] := by simp [plA, hi]
    rw [e]; exact List.getElem_mem hi
  obtain ⟨⟨k1, k2⟩, ⟨k3, k4⟩, _⟩ := h.v _ hp
  exact ⟨⟨k1, by omega⟩, ⟨k3, by omega⟩, hp⟩
theorem CrOk.crit {xs : List Pl} {n : Nat} {r : Int × Int} {s : Nat → Nat → Int} (h : CrOk xs n r s) {c : List Nat} (hc : Circ xs c) (hz : wgt xs r.1 r.2 c = 0) {i : Nat} (hi : i ∈ c) : crB xs r s i = true := by
  have hil := hc.wk.lt i hi
  obtain ⟨⟨k1, k2⟩, ⟨k3, k4⟩, hp⟩ := h.at hil
  obtain ⟨a, b, rfl⟩ := List.append_of_mem hi
  obtain ⟨m, w1, w2, w3, w4⟩ := Wk.app.1 hc.wk
  have hwk : Wk xs (plA xs i).t (b ++ a) (plA xs i).f := Wk.app.2 ⟨_, w4, w3 ▸ w1⟩
  have hwt : wgt xs r.1 r.2 (b ++ a) = - pw r.1 r.2 (plA xs i) := by
    rw [wgt_app] at hz ⊢
    have e : wgt xs r.1 r.2 (i :: b) = pw r.1 r.2 (plA xs i) + wgt xs r.1 r.2 b := rfl
    omega
  rw [crB_iff]
  by_cases hne : b ++ a = []
  · rw [hne] at hwk hwt
    have e : (plA xs i).t = (plA xs i).f := hwk
    have hd := star_dia0 h.np h.st.some h.st.dia k2
    have hd2 := (h.st.dia _ k2).1
    rw [e, hd]
    have e0 : wgt xs r.1 r.2 ([] : List Nat) = 0 := rfl
    exact ⟨by decide, by omega⟩
  · obtain ⟨c', g1, g2, g3⟩ := wk_wm h.w h.v hwk hne
    have ha := h.st.all _ _ c' k4 k2 g2 g1
    have hg := gap_nn h.w h.np h.st (f := (plA xs i).f.toNat) (u := (plA xs i).t.toNat) k2 k4 hp (by omega) (by omega) ha.1
    exact ⟨ha.1, by omega⟩
theorem CrOk.back {xs : List Pl} {n : Nat} {r : Int × Int} {s : Nat → Nat → Int} (h : CrOk xs n r s) : ∀ {c : List Nat} {u v : Int}, Wk xs u c v → c ≠ [] → (∀ i ∈ c, crB xs r s i = true) → (v.toNat < n) ∧ s u.toNat v.toNat ≠ BOT ∧ - wgt xs r.1 r.2 c ≤ s u.toNat v.toNat
  | [], _, _, _, hn, _ => absurd rfl hn
  | [i], u, v, ⟨h1, h2, h3⟩, _, ha => by
    have h3' : (plA xs i).t = v := h3
    subst h2 h3'
    have hcr := crB_iff.1 (ha i (by simp))
    refine ⟨(h.at h1).2.1.2, hcr.1, ?_⟩
    have e : wgt xs r.1 r.2 [i] = pw r.1 r.2 (plA xs i) + 0 := rfl
    omega
  | i :: j :: c, u, v, ⟨h1, h2, h3⟩, _, ha => by
    obtain ⟨g0, g1, g2⟩ := h.back h3 (by simp) (fun x hx => ha x (by simp [hx]))
    obtain ⟨⟨k1, k2⟩, ⟨k3, k4⟩, hp⟩ := h.at h1
    have hcr := crB_iff.1 (ha i (by simp))
    subst h2
    have := star_super h.st (u := v.toNat) (m := (plA xs i).t.toNat) (v := (plA xs i).f.toNat) g0 k4 k2 g1 hcr.1
    have e : wgt xs r.1 r.2 (i :: j :: c) = pw r.1 r.2 (plA xs i) + wgt xs r.1 r.2 (j :: c) := rfl
    exact ⟨g0, this.1, by omega⟩
theorem CrOk.zero {xs : List Pl} {n : Nat} {r : Int × Int} {s : Nat → Nat → Int} (h : CrOk xs n r s) {c : List Nat} (hc : Circ xs c) (ha : ∀ i ∈ c, crB xs r s i = true) : wgt xs r.1 r.2 c = 0 := by
  obtain ⟨g0, g1, g2⟩ := h.back hc.wk hc.ne ha
  have hd := star_dia0 h.np h.st.some h.st.dia g0
  have := h.mx.le c hc
  omega
theorem CrOk.none {xs : List Pl} {n : Nat} {r : Int × Int} {s : Nat → Nat → Int} (h : CrOk xs n r s) {k : Nat} {l : List Nat} (hp : PathC xs l) {i : Nat} (hi : i ∈ l) (hcr : crB xs r s i = false) : growC xs r.1 r.2 (-1) k l = [] := by
  refine Classical.byContradiction fun hne => ?_
  obtain ⟨g1, g2⟩ := growC_sound hp hne
  obtain ⟨e, he⟩ := growC_pre hne
  have hz : wgt xs r.1 r.2 (growC xs r.1 r.2 (-1) k l) = 0 := by
    have := h.mx.le _ g1; omega
  have := h.crit g1 hz (i := i) (by rw [he]; simp [hi])
  rw [hcr] at this; cases this
theorem PathC.circ {xs : List Pl} {l : List Nat} (hp : PathC xs l) (h : lastT xs l = firstF xs l) : Circ xs l := ⟨hp.ne, by have := hp.wk; rwa [h] at this, hp.nd, hp.mn⟩
end Go.Proofs.Ytikadoicplnkgaa
end

section
namespace Go.Proofs.Ytikadoicplnkgaa
set_option linter.unusedSimpArgs false
set_option linter.unusedVariables false
open Go Go.RowKit
attribute [local irreducible] AL AD AW OpOk Le AC thenQ blockQ EndQ

/-- A row of truth values. -/
def boR (n : Nat) (g : Nat → Bool) : List (List D) := (List.range n).map fun e => [D.v (.bool (g e))]
theorem boR_len {n : Nat} {g : Nat → Bool} : (boR n g).length = n := by simp [boR]
theorem boR_get {n e : Nat} {g : Nat → Bool} (h : e < n) : (boR n g)[e]? = some [D.v (.bool (g e))] := by simp [boR, h]
theorem boR_congr {n : Nat} {f g : Nat → Bool} (h : ∀ j, j < n → f j = g j) : boR n f = boR n g := List.map_congr_left fun j hj => by rw [h j (List.mem_range.1 hj)]
theorem boR_set {n j : Nat} {g : Nat → Bool} {v : Bool} : (boR n g).set j [D.v (.bool v)] = boR n (fun b => if b = j then v else g b) := by
  unfold boR
  apply List.ext_getElem?
  intro i
  rw [List.getElem?_set]
  by_cases hi : i < n
  · by_cases e : j = i
    · subst e; simp [hi]
    · simp [hi, e, Ne.symm e]
  · by_cases e : j = i
    · subst e; simp [hi]
    · simp [hi, e]
theorem boR_0 {n : Nat} : dobj 1 (List.replicate n [D.v (.bool false)]) = dobj 1 (boR n fun _ => false) := by
  unfold boR; simp [List.map_const']
theorem tryAll_no {α : Type} {F : Nat → List α} {j m : Nat} (h : j < m) (h0 : F j = []) : tryAll F (List.range' j (m - j)) = tryAll F (List.range' (j + 1) (m - (j + 1))) := by
  rw [range'_cons h, tryAll, if_neg (by rw [h0]; simp)]
theorem tryAll_yes {α : Type} {F : Nat → List α} {j m : Nat} (h : j < m) (h0 : F j ≠ []) : tryAll F (List.range' j (m - j)) = F j := by
  rw [range'_cons h, tryAll, if_pos h0]
end Go.Proofs.Ytikadoicplnkgaa
end
