/-
  Walks in the abstract reading, part 12.
-/
import Derived.Test.YtikadoicplnkgaaGreatKeU6
import Derived.Test.YtikadoicplnkgaaGreatKeU11
import Derived.Test.YtikadoicplnkgaaGreatKeU5
import Derived.Test.YtikadoicplnkgaaGreatKeU10
import Derived.Test.YtikadoicplnkgaaGreatKeA3
section
namespace Go.Proofs.YtikadoicplnkgaaGreat
set_option linter.unusedSimpArgs false
set_option linter.unusedVariables false
open Go Go.RowKit
attribute [local irreducible] AL AD AW OpOk Le AC thenQ blockQ EndQ

/-- Which ratios are valid. -/
def isRtG (r : Int × Int) : Bool := wi r.1 (-1000000) 1000000 && (wi r.2 1 1000000 && (Nat.gcd r.1.natAbs r.2.toNat == 1))
structure DrR (r : Int × Int) : Prop where
  n : -2000000 ≤ r.1 ∧ r.1 ≤ 2000000
  d : -1 ≤ r.2 ∧ r.2 ≤ 1000000
  s : isRtG r = true → r.2 ≤ 10
theorem isRtG_ok {r : Int × Int} (h : isRtG r = true) : RtZ r ∧ isRt r = true := by
  unfold isRtG at h
  rw [Bool.and_eq_true, Bool.and_eq_true, beq_iff_eq] at h
  obtain ⟨h1, h2, h3⟩ := h
  have a1 := wi_iff.1 h1
  have a2 := wi_iff.1 h2
  exact ⟨⟨by omega, by omega, h3⟩, h1⟩
theorem isRtG_of {r : Int × Int} (h : RtZ r) : isRtG r = isRt r := by
  unfold isRtG isRt
  rw [Bool.eq_iff_iff, Bool.and_eq_true, Bool.and_eq_true, beq_iff_eq]
  exact ⟨fun hh => hh.1, fun hh => ⟨hh, wi_iff.2 h.d, h.g⟩⟩
theorem redR_small {a b : Int} (hb : 1 ≤ b ∧ b ≤ 1000000) (ha : -1000000 ≤ a ∧ a ≤ 1000000) : (-1000000 ≤ (redR a b).1 ∧ (redR a b).1 ≤ 1000000) ∧ (0 < (redR a b).2 ∧ (redR a b).2 ≤ b) := redR_bnd (by omega) ha
theorem gcd2 {x y : Int} (hy : 1 ≤ y) : Nat.gcd (2 * x).natAbs (2 * y).toNat ≠ 1 := fun h => by
  have h1 : 2 ∣ Nat.gcd (2 * x).natAbs (2 * y).toNat := Nat.dvd_gcd (by rw [Int.natAbs_mul]; exact Nat.dvd_mul_right _ _) (by rw [show (2 * y).toNat = 2 * y.toNat by omega]; exact Nat.dvd_mul_right _ _)
  rw [h] at h1
  omega
set_option maxHeartbeats 2000000 in
theorem l01DrawRatio_ex (code : List Int) (hc : CodeOk code) (s : Src) (hs : SrcOk code s) : ∃ (r : Int × Int) (s' : Src), DrR r ∧ SrcOk code s' ∧ AC Tryz.prog 124 [Bx 3 0] (srcH code s) (.agg [I r.1, I r.2]) (srcH code s') := by
  obtain ⟨a, s1, a1, a2, h1, q1, N1⟩ := next_ex hc hs 80
  obtain ⟨b, s2, b1, b2, h2, q2, N2⟩ := next_ex hc h1 9
  have hR := l01RatioZ_ac (a - 40) (1 + b) (by omega) (by omega)
  obtain ⟨r1, r2⟩ := redR_small (a := a - 40) (b := 1 + b) (by omega) (by omega)
  generalize redR (a - 40) (1 + b) = r at *
  obtain ⟨x, y⟩ := r
  simp only at r1 r2 hR
  obtain ⟨z, s3, z1, z2, h3, q3, N3⟩ := next_ex hc h2 24
  by_cases c0 : z = 0
  · refine ⟨(2 * x, 2 * y), s3, ⟨by simp only; omega, by simp only; omega, fun h => ?_⟩, h3, ?_⟩
    · unfold isRtG at h
      rw [Bool.and_eq_true, Bool.and_eq_true, beq_iff_eq] at h
      exact absurd h.2.2 (gcd2 (by omega))
    · show AC _ _ _ (heapL [(⟨0, []⟩, ⟨0, []⟩, srcO code s)]) _ _
      refine AC.of_body 1 Tryz.func124 rfl (fun l h => by simp [heapL, upd] at h; simp [h]) (fun C hC => ?_)
      simp only [startFr, Tryz.ntmps124, List.length_cons, List.length_nil, Nat.reduceAdd, Nat.reduceSub, List.replicate_succ, List.replicate_zero, List.cons_append, List.nil_append]
      have hD : ∀ l, C.D0 l → l = ⟨0, []⟩ := fun l h => by have := (hC l).1 h; simp [heapL, upd] at this; exact this
      repeat' (first | ((first | apply Ba | (apply Bb; (· rfl); (· rfl)) | (apply Bc; (· exact nxE)) | (apply Bd; (· rfl); (· rfl); (· exact nxE))); (· first | exact Kz rfl rfl (hR) (Ad (Ad An)) | exact Nx N1 rfl rfl rfl rfl rfl | exact Nx N2 rfl rfl rfl rfl rfl | exact Nx N3 rfl rfl rfl rfl rfl | exact Ok.pe)) | ((first | apply Ca | (apply Cb; (· exact nxE))); (· first | exact Nx N1 rfl rfl rfl rfl rfl | exact Nx N2 rfl rfl rfl rfl rfl | exact Nx N3 rfl rfl rfl rfl rfl | exact Ok.e0)) | refine Sx ?_ | (refine Sy (fun h => ?_) (fun h => ?_) <;> try (exfalso; omega; done)) | refine Sz (fun h => ?_) (fun h => ?_))
      all_goals
        refine Ya ?_
        (apply Le.headZ (hs := [(⟨0, []⟩, ⟨0, []⟩, _)]) [⟨0, []⟩] rfl)
        all_goals (try dsimp only [srcs])
        (case' hfr | hob => (repeat' (first | refine La ?_ ?_ | refine ARs.agg ?_ | refine ARs.tup ?_ | (first | exact AR.i (by first | rfl | omega)) | refine La ?_ ?_ | exact Lc | refine Lo ?_ | refine ⟨⟨_, rfl, ?_⟩, ?_⟩ | refine Lx ?_)))
        all_goals (first | exact Ld | exact trivial | (first | exact AR.i (by first | rfl | omega)))
  by_cases c1 : z = 1
  · obtain ⟨u, s4, hu, h4, p4, q4, K4⟩ := pick_ex hc h3 [1000000, 1000001, -1000000] 3 rfl
    obtain ⟨v, s5, hv, h5, p5, q5, K5⟩ := pick_ex hc h4 [1, 1000000, 0, -1] 4 rfl
    refine ⟨(u, v), s5, ?_, h5, ?_⟩
    · simp at hu hv
      refine ⟨by simp only; omega, by simp only; omega, ?_⟩
      rcases hu with rfl | rfl | rfl <;> rcases hv with rfl | rfl | rfl | rfl <;> decide
    · show AC _ _ _ (heapL [(⟨0, []⟩, ⟨0, []⟩, srcO code s)]) _ _
      refine AC.of_body 1 Tryz.func124 rfl (fun l h => by simp [heapL, upd] at h; simp [h]) (fun C hC => ?_)
      simp only [startFr, Tryz.ntmps124, List.length_cons, List.length_nil, Nat.reduceAdd, Nat.reduceSub, List.replicate_succ, List.replicate_zero, List.cons_append, List.nil_append]
      have hD : ∀ l, C.D0 l → l = ⟨0, []⟩ := fun l h => by have := (hC l).1 h; simp [heapL, upd] at this; exact this
      repeat' (first | ((first | apply Ba | (apply Bb; (· rfl); (· rfl)) | (apply Bc; (· exact nxE)) | (apply Bd; (· rfl); (· rfl); (· exact nxE))); (· first | exact Kz rfl rfl (hR) (Ad (Ad An)) | exact Nx N1 rfl rfl rfl rfl rfl | exact Nx N2 rfl rfl rfl rfl rfl | exact Nx N3 rfl rfl rfl rfl rfl | exact Kx K4 rfl rfl rfl rfl rfl rfl (by decide) | exact Kx K5 rfl rfl rfl rfl rfl rfl (by decide) | exact Ok.bs3 rfl rfl rfl rfl rfl | exact Ok.bs4 rfl rfl rfl rfl rfl rfl | exact Ok.pe)) | ((first | apply Ca | (apply Cb; (· exact nxE))); (· first | exact Nx N1 rfl rfl rfl rfl rfl | exact Nx N2 rfl rfl rfl rfl rfl | exact Nx N3 rfl rfl rfl rfl rfl | exact Kx K4 rfl rfl rfl rfl rfl rfl (by decide) | exact Kx K5 rfl rfl rfl rfl rfl rfl (by decide) | exact Ok.bs3 rfl rfl rfl rfl rfl | exact Ok.bs4 rfl rfl rfl rfl rfl rfl | exact Ok.e0)) | refine Sx ?_ | (refine Sy (fun h => ?_) (fun h => ?_) <;> try (exfalso; omega; done)) | refine Sz (fun h => ?_) (fun h => ?_))
      all_goals
        refine Ya ?_
        (apply Le.headZ (hs := [(⟨0, []⟩, ⟨0, []⟩, _)]) [⟨0, []⟩] rfl)
        all_goals (try dsimp only [srcs])
        (case' hfr | hob => (repeat' (first | refine La ?_ ?_ | exact Lc | refine Lo ?_ | refine ⟨⟨_, rfl, ?_⟩, ?_⟩ | refine Lx ?_)))
        all_goals (first | exact Ld | exact trivial | (rfl))
  · refine ⟨(x, y), s3, ⟨by simp only; omega, by simp only; omega, fun _ => by simp only; omega⟩, h3, ?_⟩
    show AC _ _ _ (heapL [(⟨0, []⟩, ⟨0, []⟩, srcO code s)]) _ _
    refine AC.of_body 1 Tryz.func124 rfl (fun l h => by simp [heapL, upd] at h; simp [h]) (fun C hC => ?_)
    simp only [startFr, Tryz.ntmps124, List.length_cons, List.length_nil, Nat.reduceAdd, Nat.reduceSub, List.replicate_succ, List.replicate_zero, List.cons_append, List.nil_append]
    have hD : ∀ l, C.D0 l → l = ⟨0, []⟩ := fun l h => by have := (hC l).1 h; simp [heapL, upd] at this; exact this
    repeat' (first | ((first | apply Ba | (apply Bb; (· rfl); (· rfl)) | (apply Bc; (· exact nxE)) | (apply Bd; (· rfl); (· rfl); (· exact nxE))); (· first | exact Kz rfl rfl (hR) (Ad (Ad An)) | exact Nx N1 rfl rfl rfl rfl rfl | exact Nx N2 rfl rfl rfl rfl rfl | exact Nx N3 rfl rfl rfl rfl rfl | exact Ok.pe)) | ((first | apply Ca | (apply Cb; (· exact nxE))); (· first | exact Nx N1 rfl rfl rfl rfl rfl | exact Nx N2 rfl rfl rfl rfl rfl | exact Nx N3 rfl rfl rfl rfl rfl | exact Ok.e0)) | refine Sx ?_ | (refine Sy (fun h => ?_) (fun h => ?_) <;> try (exfalso; omega; done)) | refine Sz (fun h => ?_) (fun h => ?_))
    all_goals
      refine Ya ?_
      (apply Le.headZ (hs := [(⟨0, []⟩, ⟨0, []⟩, _)]) [⟨0, []⟩] rfl)
      all_goals (try dsimp only [srcs])
      (case' hfr | hob => (repeat' (first | refine La ?_ ?_ | exact Lc | refine Lo ?_ | refine ⟨⟨_, rfl, ?_⟩, ?_⟩ | refine Lx ?_)))
      all_goals (first | exact Ld | exact trivial | (rfl))
/-! ### Vectors -/
def dvF (code : List Int) (q : QS) : QS := ((nxt code (nxt code q.1 31).2 8).2, q.2 ++ [if (nxt code (nxt code q.1 31).2 8).1 = 0 then -1000000000000000 else (nxt code q.1 31).1 - 15])
theorem dvF_ok {code : List Int} (hc : CodeOk code) {s : Src} (hs : SrcOk code s) (n : Nat) : SrcOk code (itr (dvF code) n (s, [])).1 ∧ (itr (dvF code) n (s, [])).2.length = n :=
  itr_ok (p := fun k (q : QS) => SrcOk code q.1 ∧ q.2.length = k) ⟨hs, rfl⟩ (fun k x h => ⟨(nxt_ok hc (nxt_ok hc h.1 31).2.2 8).2.2, by simp [dvF, h.2]⟩) n
set_option maxHeartbeats 4000000 in
theorem l02DrawVector_ex (code : List Int) (hc : CodeOk code) (s : Src) (hs : SrcOk code s) (n : Nat) (hn : n ≤ 1000) : ∃ (x : List Int) (s' : Src), x.length ≤ n + 1 ∧ SrcOk code s' ∧ AC Tryz.prog 111 [Bx 3 0, I n] (srcH code s) (IL x) (srcH code s') := by
  obtain ⟨hA, hAl⟩ := dvF_ok hc hs n
  generalize hqA : itr (dvF code) n (s, []) = qA at hA hAl
  obtain ⟨s2, xs⟩ := qA
  simp only at hA hAl
  obtain ⟨y, s3, y1, y2, h3, q3, N3⟩ := next_ex hc hA 60
  obtain ⟨v, s4, hv, h4, V4⟩ := l01DrawValue_ex code hc s3 h3
  refine ⟨if y = 0 then xs ++ [v] else if y = 1 then [] else xs, if y = 0 then s4 else s3, ?_, by split <;> assumption, ?_⟩
  · (repeat' split) <;> (first | (simp; done) | (simp; omega) | omega)
  have hyl : (IR xs).length = n := by rw [IR_len, hAl]
  show AC _ _ _ (heapL [(⟨0, []⟩, ⟨0, []⟩, srcO code s)]) _ _
  refine AC.of_body 1 Tryz.func111 rfl (fun l h => by simp [heapL, upd] at h; simp [h]) (fun C hC => ?_)
  simp only [startFr, Tryz.ntmps111, List.length_cons, List.length_nil, Nat.reduceAdd, Nat.reduceSub, List.replicate_succ, List.replicate_zero, List.cons_append, List.nil_append]
  have hD : ∀ l, C.D0 l → l = ⟨0, []⟩ := fun l h => by have := (hC l).1 h; simp [heapL, upd] at this; exact this
  repeat' (first | ((first | apply Ba | (apply Bb; (· rfl); (· rfl)) | (apply Bc; (· exact nxE)) | (apply Bd; (· rfl); (· rfl); (· exact nxE))); (· first | exact Ok.pe)) | ((first | apply Ca | (apply Cb; (· exact nxE))); (· first | exact Ok.e0)) | refine Sx ?_ | (refine Sy (fun h => ?_) (fun h => ?_) <;> try (exfalso; omega; done)) | refine Sz (fun h => ?_) (fun h => ?_))
  refine AW.loop (X := {k : Nat // k ≤ n}) (fun k => ⟨[Bx 3 0, I ((n : Int) - (k.1 : Nat)), Oo, Oo, Oo, .own 1 ⟨1, []⟩ 0 (itr (dvF code) (k.1 : Nat) (s, [])).2.length, Oo, Oo, Oo, Oo, Oo, Oo, Oo, Oo, Oo, Oo, Oo, Oo, Oo, Oo, Oo, Oo, Oo, Oo, Oo, Oo, Oo, Oo, Oo, Oo, Oo, Oo, Oo, Oo, Oo, Oo, Oo], heapL [(⟨0, []⟩, ⟨0, []⟩, srcO code (itr (dvF code) k.1 (s, [])).1), (⟨1, []⟩, ⟨1, []⟩, IO (itr (dvF code) k.1 (s, [])).2)], 900⟩) (fun k => n - k.1) ⟨0, Nat.zero_le _⟩ ?_ (fun k => ?_)
  ·
    (apply Le.headZ [_, _] rfl)
    all_goals (try dsimp only [srcs])
    (case' hfr | hob => (repeat' (first | refine La ?_ ?_ | exact Lc | refine Lo ?_ | refine ⟨⟨_, rfl, ?_⟩, ?_⟩ | refine Lx ?_)))
    all_goals (first | (rfl) | exact Ld)
  obtain ⟨w, hw⟩ := k
  simp only
  by_cases hlt : w < n
  · obtain ⟨i1, i2⟩ := dvF_ok hc hs w
    have hst : itr (dvF code) (w + 1) (s, []) = dvF code (itr (dvF code) w (s, [])) := rfl
    generalize itr (dvF code) w (s, []) = q at i1 i2 hst ⊢
    obtain ⟨s5, ys⟩ := q
    simp only at i1 i2 ⊢
    obtain ⟨a, s6, a1, a2, h6, q6, N6⟩ := next_ex hc i1 31
    obtain ⟨b, s7, b1, b2, h7, q7, N7⟩ := next_ex hc h6 8
    have hst := hst.trans (show dvF code (s5, ys) = (s7, ys ++ [if b = 0 then -1000000000000000 else a - 15]) by unfold dvF; simp only [q6, q7])
    have hyl : (IR ys).length = ys.length := IR_len
    by_cases hb : b = 0
    · rw [if_pos hb] at hst
      have hix : 0 + (((ys.length + 1 : Nat) : Int) - 1).toNat = ys.length := by omega
      have hlr : (dobj 1 (IR ys ++ [[DI (a - 15)]])).rows[0 + (((ys.length + 1 : Nat) : Int) - 1).toNat]? = some [I (a - 15)] := by rw [hix]; simp [dobj]
      have hls : (dobj 1 (IR ys ++ [[DI (a - 15)]])).rows.set (0 + (((ys.length + 1 : Nat) : Int) - 1).toNat) ([I (a - 15)].set 0 (I (-1000000000000000))) = (dobj 1 (IR (ys ++ [-1000000000000000]))).rows := by rw [hix]; simp [dobj]
      repeat' (first | ((first | apply Ba | (apply Bb; (· rfl); (· rfl)) | (apply Bc; (· exact nxE)) | (apply Bd; (· rfl); (· rfl); (· exact nxE))); (· first | exact Nx N6 rfl rfl rfl rfl rfl | exact Nx N7 rfl rfl rfl rfl rfl | exact Ok.append1 (row := [DI (a - 15)]) rfl rfl (by decide) rfl rfl hyl rfl rfl rfl (by rfl) (by omega) (by omega) | exact Ok.storeC rfl rfl rfl rfl hlr (by simp) rfl rfl rfl hls | exact Ok.pe)) | ((first | apply Ca | (apply Cb; (· exact nxE))); (· first | exact Nx N6 rfl rfl rfl rfl rfl | exact Nx N7 rfl rfl rfl rfl rfl | exact Ok.append1 (row := [DI (a - 15)]) rfl rfl (by decide) rfl rfl hyl rfl rfl rfl (by rfl) (by omega) (by omega) | exact Ok.storeC rfl rfl rfl rfl hlr (by simp) rfl rfl rfl hls | exact Ok.e0)) | refine Sx ?_ | (refine Sy (fun h => ?_) (fun h => ?_) <;> try (exfalso; omega; done)) | refine Sz (fun h => ?_) (fun h => ?_))
      refine ⟨⟨w + 1, by omega⟩, ?_, by simp only; omega⟩
      simp only [hst]
      (apply Le.headZ [_, _] rfl)
      all_goals (try dsimp only [srcs])
      (case' hfr | hob => (repeat' (first | refine La ?_ ?_ | exact Lc | refine Lo ?_ | refine ⟨⟨_, rfl, ?_⟩, ?_⟩ | refine Lx ?_)))
      all_goals (first | ((simp; done)) | exact Ld)
    · rw [if_neg hb] at hst
      repeat' (first | ((first | apply Ba | (apply Bb; (· rfl); (· rfl)) | (apply Bc; (· exact nxE)) | (apply Bd; (· rfl); (· rfl); (· exact nxE))); (· first | exact Nx N6 rfl rfl rfl rfl rfl | exact Nx N7 rfl rfl rfl rfl rfl | exact Ok.append1 (row := [DI (a - 15)]) rfl rfl (by decide) rfl rfl hyl rfl rfl rfl (by rfl) (by omega) (by omega) | exact Ok.pe)) | ((first | apply Ca | (apply Cb; (· exact nxE))); (· first | exact Nx N6 rfl rfl rfl rfl rfl | exact Nx N7 rfl rfl rfl rfl rfl | exact Ok.append1 (row := [DI (a - 15)]) rfl rfl (by decide) rfl rfl hyl rfl rfl rfl (by rfl) (by omega) (by omega) | exact Ok.e0)) | refine Sx ?_ | (refine Sy (fun h => ?_) (fun h => ?_) <;> try (exfalso; omega; done)) | refine Sz (fun h => ?_) (fun h => ?_))
      refine ⟨⟨w + 1, by omega⟩, ?_, by simp only; omega⟩
      simp only [hst]
      (apply Le.headZ [_, _] rfl)
      all_goals (try dsimp only [srcs])
      (case' hfr | hob => (repeat' (first | refine La ?_ ?_ | exact Lc | refine Lo ?_ | refine ⟨⟨_, rfl, ?_⟩, ?_⟩ | refine Lx ?_)))
      all_goals (first | ((simp; done)) | exact Ld)
  obtain rfl : w = n := by omega
  rw [hqA]
  simp only
  have hyl2 : (IR xs).length = xs.length := IR_len
  by_cases c0 : y = 0
  · simp only [if_pos c0]
    repeat' (first | ((first | apply Ba | (apply Bb; (· rfl); (· rfl)) | (apply Bc; (· exact nxE)) | (apply Bd; (· rfl); (· rfl); (· exact nxE))); (· first | exact Nx N3 rfl rfl rfl rfl rfl | exact Zx (args := []) V4 rfl rfl rfl rfl .nil (fun _ => by simp [rn]) | exact Ok.append1 (row := [DI v]) rfl rfl (by decide) rfl rfl hyl2 rfl rfl rfl (by rfl) (by omega) (by omega) | exact Ok.pe)) | ((first | apply Ca | (apply Cb; (· exact nxE))); (· first | exact Nx N3 rfl rfl rfl rfl rfl | exact Zx (args := []) V4 rfl rfl rfl rfl .nil (fun _ => by simp [rn]) | exact Ok.append1 (row := [DI v]) rfl rfl (by decide) rfl rfl hyl2 rfl rfl rfl (by rfl) (by omega) (by omega) | exact Ok.e0)) | refine Sx ?_ | (refine Sy (fun h => ?_) (fun h => ?_) <;> try (exfalso; omega; done)) | refine Sz (fun h => ?_) (fun h => ?_))
    refine Ya ?_
    (apply Le.headZ (hs := [(⟨0, []⟩, ⟨0, []⟩, _)]) [⟨0, []⟩] rfl)
    all_goals (try dsimp only [srcs])
    (case' hfr | hob => (repeat' (first | refine La ?_ ?_ | refine ARs.agg ?_ | refine ARs.tup ?_ | (exact AR.whole (rows := IR (xs ++ [v])) (by simp; rfl) (by simp) (by simp)) | refine La ?_ ?_ | exact Lc | refine Lo ?_ | refine ⟨⟨_, rfl, ?_⟩, ?_⟩ | refine Lx ?_)))
    all_goals (first | exact Ld | exact trivial | (exact AR.whole (rows := IR (xs ++ [v])) (by simp; rfl) (by simp) (by simp)))
  · simp only [if_neg c0]
    by_cases c1 : y = 1
    · simp only [if_pos c1]
      repeat' (first | ((first | apply Ba | (apply Bb; (· rfl); (· rfl)) | (apply Bc; (· exact nxE)) | (apply Bd; (· rfl); (· rfl); (· exact nxE))); (· first | exact Nx N3 rfl rfl rfl rfl rfl | exact Ok.pe)) | ((first | apply Ca | (apply Cb; (· exact nxE))); (· first | exact Nx N3 rfl rfl rfl rfl rfl | exact Ok.e0)) | refine Sx ?_ | (refine Sy (fun h => ?_) (fun h => ?_) <;> try (exfalso; omega; done)) | refine Sz (fun h => ?_) (fun h => ?_))
      refine Ya ?_
      (apply Le.headZ (hs := [(⟨0, []⟩, ⟨0, []⟩, _)]) [⟨0, []⟩] rfl)
      all_goals (try dsimp only [srcs])
      (case' hfr | hob => (repeat' (first | refine La ?_ ?_ | exact Lc | refine Lo ?_ | refine ⟨⟨_, rfl, ?_⟩, ?_⟩ | refine Lx ?_)))
      all_goals (first | exact Ld | exact trivial | (rfl))
    · simp only [if_neg c1]
      repeat' (first | ((first | apply Ba | (apply Bb; (· rfl); (· rfl)) | (apply Bc; (· exact nxE)) | (apply Bd; (· rfl); (· rfl); (· exact nxE))); (· first | exact Nx N3 rfl rfl rfl rfl rfl | exact Ok.pe)) | ((first | apply Ca | (apply Cb; (· exact nxE))); (· first | exact Nx N3 rfl rfl rfl rfl rfl | exact Ok.e0)) | refine Sx ?_ | (refine Sy (fun h => ?_) (fun h => ?_) <;> try (exfalso; omega; done)) | refine Sz (fun h => ?_) (fun h => ?_))
      refine Ya ?_
      (apply Le.headZ (hs := [(⟨0, []⟩, ⟨0, []⟩, _)]) [⟨0, []⟩] rfl)
      all_goals (try dsimp only [srcs])
      (case' hfr | hob => (repeat' (first | refine La ?_ ?_ | refine ARs.agg ?_ | refine ARs.tup ?_ | (exact AR.whole rfl (by simp) (by simp)) | refine La ?_ ?_ | exact Lc | refine Lo ?_ | refine ⟨⟨_, rfl, ?_⟩, ?_⟩ | refine Lx ?_)))
      all_goals (first | exact Ld | exact trivial | (exact AR.whole rfl (by simp) (by simp)))
end Go.Proofs.YtikadoicplnkgaaGreat
end

section
namespace Go.Proofs.YtikadoicplnkgaaGreat
set_option linter.unusedSimpArgs false
set_option linter.unusedVariables false
open Go Go.RowKit
attribute [local irreducible] AL AD AW OpOk Le AC thenQ blockQ EndQ

theorem cm_ok {t : List (List Int)} (h : cmC t = 0) : isSq t = true ∧ hasK (entN t) t.length ∧ isRt (kmR (entN t) t.length) = true ∧ cmR t = kmR (entN t) t.length ∧ bmC t = 0 := by
  unfold cmC at h
  unfold cmR
  rcases bmC_cases t with ⟨e, hs⟩ | ⟨hs, hc, e⟩ | ⟨hs, hc, e⟩
  · rw [e, if_neg (by decide)] at h; exact absurd h (by decide)
  · rw [e, if_pos rfl] at h ⊢
    unfold rtC at h
    unfold rtR
    by_cases hi : isRt (kmR (entN t) t.length) = true
    · rw [if_pos hi]; exact ⟨hs, hc, hi, rfl, rfl⟩
    · rw [if_neg hi] at h; exact absurd h (by decide)
  · rw [e, if_neg (by decide)] at h; exact absurd h (by decide)
theorem cm_no {t : List (List Int)} (h : cmC t ≠ 0) : cmR t = (0, 0) := by
  unfold cmC at h
  unfold cmR
  rcases bmC_cases t with ⟨e, hs⟩ | ⟨hs, hc, e⟩ | ⟨hs, hc, e⟩
  · rw [e, if_neg (by decide)]
  · rw [e, if_pos rfl] at h ⊢
    unfold rtC at h
    unfold rtR
    by_cases hi : isRt (kmR (entN t) t.length) = true
    · rw [if_pos hi] at h; exact absurd rfl h
    · rw [if_neg hi]
  · rw [e, if_neg (by decide)]
end Go.Proofs.YtikadoicplnkgaaGreat
end

section
namespace Go.Proofs.YtikadoicplnkgaaGreat
set_option linter.unusedSimpArgs false
set_option linter.unusedVariables false
open Go Go.RowKit
attribute [local irreducible] AL AD AW OpOk Le AC thenQ blockQ EndQ

end Go.Proofs.YtikadoicplnkgaaGreat
end

section
namespace Go.Proofs.YtikadoicplnkgaaGreat
set_option linter.unusedSimpArgs false
set_option linter.unusedVariables false
open Go Go.RowKit
attribute [local irreducible] AL AD AW OpOk Le AC thenQ blockQ EndQ

/-- The least potential of a matrix without positive cycles. -/
noncomputable def poL (T : List (List Int)) (n : Nat) : List Int := rowF n fun i => apA (entN (tabF n n (starF (entN T) n))) (fun _ => 0) i n
theorem apA_geM {f : Nat → Nat → Int} {v : Nat → Int} {i j : Nat} : ∀ {k : Nat}, j < k → timesB (f i j) (v j) ≤ apA f v i k
  | k + 1, h => by
    simp only [apA]
    by_cases e : j = k
    · subst e; omega
    · have := apA_geM (f := f) (v := v) (i := i) (j := j) (k := k) (by omega); omega
theorem poL_ne {n : Nat} {T : List (List Int)} (hst : StarM T n) : ∀ a ∈ poL T n, a ≠ BOT := by
  intro a ha
  obtain ⟨i, hi, rfl⟩ := List.mem_map.1 ha
  rw [List.mem_range] at hi
  have := apA_geM (f := entN (tabF n n (starF (entN T) n))) (v := fun _ => 0) (i := i) (j := i) (k := n) hi
  rw [tabF_ent hi hi, star_dia0 hst.np hst.ok.some hst.ok.dia hi] at this
  unfold timesB BOT at this
  unfold BOT
  simp at this
  omega
theorem poL_ok {n : Nat} {T : List (List Int)} (hst : StarM T n) : ((poL T n).all fun a => isVal a && !decide (a = BOT)) = (poL T n).all isVal := by
  rw [Bool.eq_iff_iff]
  simp only [List.all_eq_true]
  refine ⟨fun h a ha => ?_, fun h a ha => ?_⟩
  · have := h a ha; simp at this; exact this.1
  · rw [h a ha, decide_eq_false (poL_ne hst a ha)]; rfl
theorem apOk_starM {n : Nat} {T : List (List Int)} (hst : StarM T n) : ApOk (entN (tabF n n (starF (entN T) n))) (fun _ => 0) n n := ⟨fun i j hi hj => by
  rw [tabF_ent hi hj, hst.star hi hj]
  rcases hst.cells (Nat.le_refl n) hi hj with h | h
  · exact .inl h
  · exact .inr (by omega), fun j _ => .inr (by omega)⟩
theorem zeroRowM {n : Nat} : IR (rowF n fun _ => 0) = List.replicate n [DI 0] := by simp [rowF, List.map_const']
set_option maxHeartbeats 2000000 in
theorem potentialOf_ac (t : List (List Int)) (n : Nat) (hM : MatOk t n) (p q : Int) (hp : -10000000 ≤ p ∧ p ≤ 10000000) (hq : 0 < q ∧ q ≤ 10) (hst : StarM (shT t n p q) n) : AC Tryz.prog 43 [TL t, .agg [I p, I q]] H0 (.tup [own1 1 (poL (shT t n p q) n).length, Bo true]) (hp1 (IO (poL (shT t n p q) n))) := by
  have hn := hM.le
  have hSh := (shifted_ac t n hM p q hp hq).frzT (by rw [TR_len]; exact shT_sq.l)
  have hSt := (starOf_ac (shT t n p q) n hst).frzT2 (by rw [TR_len, tabF_len])
  have hT : AC Tryz.prog 73 [TL (tabF n n (starF (entN (shT t n p q)) n)), .d (.sl 1 (List.replicate n [DI 0]))] H0 (own1 1 (poL (shT t n p q) n).length) (hp1 (IO (poL (shT t n p q) n))) := by
    rw [← zeroRowM, show (poL (shT t n p q) n).length = n from rowF_len]
    exact timesVector_ac (tabF n n (starF (entN (shT t n p q)) n)) n n (fun _ => 0) tabF_rc (by omega) (by omega) (apOk_starM hst)
  have htl : (mRows 1 (TR t)).length = n := by rw [mTR_len, hM.sq.l]
  generalize poL (shT t n p q) n = pt at *
  generalize starF (entN (shT t n p q)) n = s at *
  generalize shT t n p q = b at *
  clear hst
  refine AC.of_body 0 Tryz.func43 rfl (fun l h => absurd rfl h) (fun C hC => ?_)
  have hD : ∀ l, ¬ C.D0 l := fun l h => (hC l).1 h rfl
  simp only [startFr, Tryz.ntmps43, List.length_cons, List.length_nil, Nat.reduceAdd, Nat.reduceSub, List.replicate_succ, List.replicate_zero, List.cons_append, List.nil_append]
  repeat' (first | ((first | apply Ba | (apply Bb; (· rfl); (· rfl)) | (apply Bc; (· exact nxE)) | (apply Bd; (· rfl); (· rfl); (· exact nxE))); (· first | exact Ok.lenD rfl rfl htl | exact Kz rfl rfl (hSh) (Ad (Aa (Ad (Ad An)) An)) | exact Kz rfl rfl (hSt) (Ad An) | exact Eo rfl rfl (hT) (Sd (Sw Sn)) | exact Ok.pe)) | ((first | apply Ca | (apply Cb; (· exact nxE))); (· first | exact Eo rfl rfl (hT) (Sd (Sw Sn)) | exact Ok.e0)) | refine Sx ?_ | (refine Sy (fun h => ?_) (fun h => ?_) <;> try (exfalso; omega; done)) | refine Sz (fun h => ?_) (fun h => ?_))
  refine Yb ?_
  (apply Le.head [(⟨0, []⟩, _, _)])
  (case' hfr | hob => (repeat' (first | refine La ?_ ?_ | exact Lc | refine Lo ?_ | refine ⟨⟨_, rfl, ?_⟩, ?_⟩ | refine Lx ?_)))
  all_goals (first | exact Ld | (rfl))
set_option maxHeartbeats 2000000 in
theorem sPotentialOf_ac (t : List (List Int)) (n : Nat) (hs : isSq t = true) (hnt : t.length = n) (hM : MatOk t n) (p q : Int) (hrt : RtZ (p, q)) (hi : isRt (p, q) = true) (hp : -10000000 ≤ p ∧ p ≤ 10000000) (hq : 0 < q ∧ q ≤ 10) (hst : StarM (shT t n p q) n) (b : Bool) (hb : (poL (shT t n p q) n).all isVal = b) :
    AC Tryz.prog 48 [TL t, .agg [I p, I q]] H0 (.tup [IL (if b = true then poL (shT t n p q) n else []), I (if b = true then 0 else 3)]) H0 := by
  have hn := hM.le
  have hQ := l02Square_ac t (by omega) (fun r h => by rw [hM.sq.r r h]; omega)
  rw [hs] at hQ
  have hR := sIsRatioZ_ac (p, q) hrt
  rw [hi] at hR
  simp only at hR
  have hSh := (l04Shift_ac t n hM p q hp hq).frzT (by rw [TR_len]; exact shT_sq.l)
  have hSt := (l03Star_ac (shT t n p q) n hst).frzT2 (by rw [TR_len, tabF_len])
  have hpl : (poL (shT t n p q) n).length = n := rowF_len
  have hT : AC Tryz.prog 107 [TL (tabF n n (starF (entN (shT t n p q)) n)), .d (.sl 1 (List.replicate n [DI 0]))] H0 (own1 1 (poL (shT t n p q) n).length) (hp1 (IO (poL (shT t n p q) n))) := by
    rw [← zeroRowM, hpl]
    exact l02Apply_ac (tabF n n (starF (entN (shT t n p q)) n)) n n (fun _ => 0) tabF_rc (by omega) (by omega) (apOk_starM hst)
  have htl : (mRows 1 (TR t)).length = n := by rw [mTR_len, hM.sq.l]
  have hA := l01All_ac (poL (shT t n p q) n) (by omega)
  rw [poL_ok hst, hb] at hA
  have hpl2 : (IR (poL (shT t n p q) n)).length = n := by rw [IR_len, hpl]
  clear hb
  generalize poL (shT t n p q) n = pt at *
  generalize starF (entN (shT t n p q)) n = s at *
  generalize shT t n p q = sh at *
  clear hst
  cases b
  · rw [if_neg (by decide), if_neg (by decide)]
    refine AC.of_body 0 Tryz.func48 rfl (fun l h => absurd rfl h) (fun C hC => ?_)
    have hD : ∀ l, ¬ C.D0 l := fun l h => (hC l).1 h rfl
    simp only [startFr, Tryz.ntmps48, List.length_cons, List.length_nil, Nat.reduceAdd, Nat.reduceSub, List.replicate_succ, List.replicate_zero, List.cons_append, List.nil_append]
    repeat' (first | ((first | apply Ba | (apply Bb; (· rfl); (· rfl)) | (apply Bc; (· exact nxE)) | (apply Bd; (· rfl); (· rfl); (· exact nxE))); (· first | exact Ok.lenD rfl rfl htl | exact Kz rfl rfl (hQ) (Ad An) | exact Kz rfl rfl (hR) (Aa (Ad (Ad An)) An) | exact Kz rfl rfl (hSh) (Ad (Aa (Ad (Ad An)) An)) | exact Kz rfl rfl (hSt) (Ad An) | exact Ez rfl rfl (hA) (Sw (Sd Sn)) | exact Eo rfl rfl (hT) (Sd (Sw Sn)) | exact Ok.pe)) | ((first | apply Ca | (apply Cb; (· exact nxE))); (· first | exact Eo rfl rfl (hT) (Sd (Sw Sn)) | exact Ok.e0)) | refine Sx ?_ | (refine Sy (fun h => ?_) (fun h => ?_) <;> try (exfalso; omega; done)) | refine Sz (fun h => ?_) (fun h => ?_))
    refine Yb ?_
    (apply Le.headZ (hs := []) [] rfl)
    all_goals (try dsimp only [srcs])
    (case' hfr => (repeat' (first | refine La ?_ ?_ | exact Lc | refine Lo ?_ | refine ⟨⟨_, rfl, ?_⟩, ?_⟩ | refine Lx ?_)))
    all_goals (first | exact Ld | exact trivial | (rfl))
  · rw [if_pos rfl, if_pos rfl]
    refine AC.of_body 0 Tryz.func48 rfl (fun l h => absurd rfl h) (fun C hC => ?_)
    have hD : ∀ l, ¬ C.D0 l := fun l h => (hC l).1 h rfl
    simp only [startFr, Tryz.ntmps48, List.length_cons, List.length_nil, Nat.reduceAdd, Nat.reduceSub, List.replicate_succ, List.replicate_zero, List.cons_append, List.nil_append]
    repeat' (first | ((first | apply Ba | (apply Bb; (· rfl); (· rfl)) | (apply Bc; (· exact nxE)) | (apply Bd; (· rfl); (· rfl); (· exact nxE))); (· first | exact Ok.lenD rfl rfl htl | exact Kz rfl rfl (hQ) (Ad An) | exact Kz rfl rfl (hR) (Aa (Ad (Ad An)) An) | exact Kz rfl rfl (hSh) (Ad (Aa (Ad (Ad An)) An)) | exact Kz rfl rfl (hSt) (Ad An) | exact Ez rfl rfl (hA) (Sw (Sd Sn)) | exact Eo rfl rfl (hT) (Sd (Sw Sn)) | exact Ok.pe)) | ((first | apply Ca | (apply Cb; (· exact nxE))); (· first | exact Eo rfl rfl (hT) (Sd (Sw Sn)) | exact Ok.e0)) | refine Sx ?_ | (refine Sy (fun h => ?_) (fun h => ?_) <;> try (exfalso; omega; done)) | refine Sz (fun h => ?_) (fun h => ?_))
    refine Yb ?_
    (apply Le.headZ (hs := []) [] rfl)
    all_goals (try dsimp only [srcs])
    (case' hfr => (repeat' (first | refine La ?_ ?_ | exact Lc | refine Lo ?_ | refine ⟨⟨_, rfl, ?_⟩, ?_⟩ | refine Lx ?_)))
    all_goals (first | exact Ld | exact trivial | (rfl))
/-! ### The certificate -/
noncomputable def ctP (t : List (List Int)) : List Int := poL (shT t t.length (kmR (entN t) t.length).1 (kmR (entN t) t.length).2) t.length
noncomputable def cfC (t : List (List Int)) : Int := if cmC t = 0 then (if (ctP t).all isVal = true then 0 else 3) else cmC t
noncomputable def cfR (t : List (List Int)) : Int × Int := if cfC t = 0 then kmR (entN t) t.length else (0, 0)
noncomputable def cfL (t : List (List Int)) : List Int := if cfC t = 0 then cN (bmL t) else []
noncomputable def cfX (t : List (List Int)) : List Int := if cfC t = 0 then ctP t else []
set_option maxHeartbeats 4000000 in
theorem sCertifyMean_ac (t : List (List Int)) (ht : t.length ≤ 100000000) (hr : ∀ r ∈ t, r.length ≤ 100000000) : AC Tryz.prog 9 [TL t] H0 (.tup [.agg [I (cfR t).1, I (cfR t).2], IL (cfL t), IL (cfX t), I (cfC t)]) H0 := by
  have hCm := sCycleMean_ac t ht hr
  unfold cfX cfL cfR
  by_cases hz : cmC t = 0
  case neg =>
    have e : cfC t = cmC t := by unfold cfC; rw [if_neg hz]
    rw [e, if_neg hz, if_neg hz, if_neg hz]
    rw [cm_no hz] at hCm
    generalize cmC t = c at *
    refine AC.of_body 0 Tryz.func9 rfl (fun l h => absurd rfl h) (fun C hC => ?_)
    have hD : ∀ l, ¬ C.D0 l := fun l h => (hC l).1 h rfl
    simp only [startFr, Tryz.ntmps9, List.length_cons, List.length_nil, Nat.reduceAdd, Nat.reduceSub, List.replicate_succ, List.replicate_zero, List.cons_append, List.nil_append]
    repeat' (first | ((first | apply Ba | (apply Bb; (· rfl); (· rfl)) | (apply Bc; (· exact nxE)) | (apply Bd; (· rfl); (· rfl); (· exact nxE))); (· first | exact Kz rfl rfl (hCm) (Ad An) | exact Ok.pe)) | ((first | apply Ca | (apply Cb; (· exact nxE))); (· first | exact Ok.e0)) | refine Sx ?_ | (refine Sy (fun h => ?_) (fun h => ?_) <;> try (exfalso; omega; done)) | refine Sz (fun h => ?_) (fun h => ?_))
    refine Yd ?_
    (apply Le.headZ (hs := []) [] rfl)
    all_goals (try dsimp only [srcs])
    (case' hfr => (repeat' (first | refine La ?_ ?_ | exact Lc | refine Lo ?_ | refine ⟨⟨_, rfl, ?_⟩, ?_⟩ | refine Lx ?_)))
    all_goals (first | exact Ld | exact trivial | (rfl))
  obtain ⟨hs, hc, hi, hm, hbm⟩ := cm_ok hz
  have hMt := isSq_ok hs
  obtain ⟨h1, h2, h3, h4⟩ := kmR_ok hMt.b hMt.le hc
  have hB := l04Best_yes t t.length hMt hc
  have hbl : bmL t = bkF t t.length (kmR (entN t) t.length) (-1) := by unfold bmL; rw [if_pos hbm]
  rw [← hbl] at hB
  have hP := sPotentialOf_ac t t.length hs rfl hMt (kmR (entN t) t.length).1 (kmR (entN t) t.length).2 (kmR_rt hMt hc) hi h3 h4 (starM_k hMt hc) _ rfl
  have hct : poL (shT t t.length (kmR (entN t) t.length).1 (kmR (entN t) t.length).2) t.length = ctP t := rfl
  rw [hct] at hP
  have hec : cfC t = if (ctP t).all isVal = true then 0 else 3 := by unfold cfC; rw [if_pos hz]
  rw [hz, hm] at hCm
  rw [hec]
  clear h1 h2 h3 h4 hMt hm hec hct hbl hi
  generalize kmR (entN t) t.length = m at *
  generalize cN (bmL t) = c at *
  have k3 : ((3 : Int) = 0) = False := by simp
  have kt : (true = true) = True := by simp
  cases hall : (ctP t).all isVal
  · rw [hall] at hP
    simp only [Bool.false_eq_true, if_false, k3] at hP ⊢
    refine AC.of_body 0 Tryz.func9 rfl (fun l h => absurd rfl h) (fun C hC => ?_)
    have hD : ∀ l, ¬ C.D0 l := fun l h => (hC l).1 h rfl
    simp only [startFr, Tryz.ntmps9, List.length_cons, List.length_nil, Nat.reduceAdd, Nat.reduceSub, List.replicate_succ, List.replicate_zero, List.cons_append, List.nil_append]
    repeat' (first | ((first | apply Ba | (apply Bb; (· rfl); (· rfl)) | (apply Bc; (· exact nxE)) | (apply Bd; (· rfl); (· rfl); (· exact nxE))); (· first | exact Kz rfl rfl (hCm) (Ad An) | exact Kz rfl rfl (hP) (Ad (Aa (Ad (Ad An)) An)) | exact Ok.pe)) | ((first | apply Ca | (apply Cb; (· exact nxE))); (· first | exact Ok.e0)) | refine Sx ?_ | (refine Sy (fun h => ?_) (fun h => ?_) <;> try (exfalso; omega; done)) | refine Sz (fun h => ?_) (fun h => ?_))
    refine Yd ?_
    (apply Le.headZ (hs := []) [] rfl)
    all_goals (try dsimp only [srcs])
    (case' hfr => (repeat' (first | refine La ?_ ?_ | exact Lc | refine Lo ?_ | refine ⟨⟨_, rfl, ?_⟩, ?_⟩ | refine Lx ?_)))
    all_goals (first | exact Ld | exact trivial | (rfl))
  · rw [hall] at hP
    simp only [kt, if_true, eq_self] at hP ⊢
    generalize ctP t = x at *
    refine AC.of_body 0 Tryz.func9 rfl (fun l h => absurd rfl h) (fun C hC => ?_)
    have hD : ∀ l, ¬ C.D0 l := fun l h => (hC l).1 h rfl
    simp only [startFr, Tryz.ntmps9, List.length_cons, List.length_nil, Nat.reduceAdd, Nat.reduceSub, List.replicate_succ, List.replicate_zero, List.cons_append, List.nil_append]
    repeat' (first | ((first | apply Ba | (apply Bb; (· rfl); (· rfl)) | (apply Bc; (· exact nxE)) | (apply Bd; (· rfl); (· rfl); (· exact nxE))); (· first | exact Kz rfl rfl (hCm) (Ad An) | exact Kz rfl rfl (hP) (Ad (Aa (Ad (Ad An)) An)) | exact Kz rfl rfl (hB) (Ad An) | exact Ok.pe)) | ((first | apply Ca | (apply Cb; (· exact nxE))); (· first | exact Ok.e0)) | refine Sx ?_ | (refine Sy (fun h => ?_) (fun h => ?_) <;> try (exfalso; omega; done)) | refine Sz (fun h => ?_) (fun h => ?_))
    refine Yd ?_
    (apply Le.headZ (hs := []) [] rfl)
    all_goals (try dsimp only [srcs])
    (case' hfr => (repeat' (first | refine La ?_ ?_ | exact Lc | refine Lo ?_ | refine ⟨⟨_, rfl, ?_⟩, ?_⟩ | refine Lx ?_)))
    all_goals (first | exact Ld | exact trivial | (rfl))
set_option maxHeartbeats 4000000 in
theorem iCertifyMean_ac (t : List (List Int)) (ht : t.length ≤ 100000000) (hr : ∀ r ∈ t, r.length ≤ 100000000) : AC Tryz.prog 8 [TL t] H0 (.tup [.agg [I (cfR t).1, I (cfR t).2], own1 1 (cfL t).length, .own 1 ⟨1, []⟩ 0 (cfX t).length, I (cfC t)]) (hp2 (IO (cfL t)) (IO (cfX t))) := by
  have hQ := iIsSquare_ac t ht hr
  unfold cfX cfL cfR
  rcases bmC_cases t with ⟨e, hs⟩ | ⟨hs, hc, e⟩ | ⟨hs, hc, e⟩
  · have ec : cfC t = 1 := by
      have e2 : cmC t = 1 := by unfold cmC; rw [e, if_neg (by decide)]
      unfold cfC; rw [e2, if_neg (by decide)]
    rw [ec, if_neg (by decide), if_neg (by decide), if_neg (by decide)]
    rw [hs] at hQ
    refine AC.of_body 0 Tryz.func8 rfl (fun l h => absurd rfl h) (fun C hC => ?_)
    have hD : ∀ l, ¬ C.D0 l := fun l h => (hC l).1 h rfl
    simp only [startFr, Tryz.ntmps8, List.length_cons, List.length_nil, Nat.reduceAdd, Nat.reduceSub, List.replicate_succ, List.replicate_zero, List.cons_append, List.nil_append]
    repeat' (first | ((first | apply Ba | (apply Bb; (· rfl); (· rfl)) | (apply Bc; (· exact nxE)) | (apply Bd; (· rfl); (· rfl); (· exact nxE))); (· first | exact Kz rfl rfl (hQ) (Ad An) | exact Ok.pe)) | ((first | apply Ca | (apply Cb; (· exact nxE))); (· first | exact Ok.e0)) | refine Sx ?_ | (refine Sy (fun h => ?_) (fun h => ?_) <;> try (exfalso; omega; done)) | refine Sz (fun h => ?_) (fun h => ?_))
    exact end4nil2 (ds := [DI 0, DI 0]) (.inl rfl) rfl (by first | exact rT rfl | exact rCA rfl rfl rfl rfl (by simp) | exact rCC rfl rfl rfl rfl rfl) (by rfl) (rT rfl) (rT rfl) (rT rfl) hD
  · rw [hs] at hQ
    have hMt := isSq_ok hs
    have hCm := cycleMean_ac t t.length hMt
    rw [kmR_get hMt hc] at hCm
    simp only [Option.getD, Option.isSome] at hCm
    obtain ⟨h1, h2, h3, h4⟩ := kmR_ok hMt.b hMt.le hc
    have hB := bestCycle_ac t t.length hMt hc
    have hbl : bmL t = bkF t t.length (kmR (entN t) t.length) (-1) := by unfold bmL; rw [if_pos e]
    rw [← hbl] at hB
    have hP := potentialOf_ac t t.length hMt (kmR (entN t) t.length).1 (kmR (entN t) t.length).2 h3 h4 (starM_k hMt hc)
    have hct : poL (shT t t.length (kmR (entN t) t.length).1 (kmR (entN t) t.length).2) t.length = ctP t := rfl
    rw [hct] at hP
    have hcl : (ctP t).length = t.length := rowF_len
    have hA := areValues_ac (ctP t) (by omega)
    have hRt := iIsRatioZ_ac _ (kmR_rt hMt hc)
    have hec : cfC t = if isRt (kmR (entN t) t.length) = true then (if (ctP t).all isVal = true then 0 else 3) else 3 := by
      unfold cfC cmC rtC
      rw [e, if_pos rfl]
      by_cases hi : isRt (kmR (entN t) t.length) = true
      · rw [if_pos hi, if_pos rfl, if_pos hi]
      · rw [if_neg hi, if_neg (by decide), if_neg hi]
    rw [show (bmL t).length = (cN (bmL t)).length by simp] at hB
    rw [hec]
    clear h1 h2 h3 h4 hMt hec hct hbl
    generalize kmR (entN t) t.length = m at *
    generalize cN (bmL t) = c at *
    have k3 : ((3 : Int) = 0) = False := by simp
    have kt : (true = true) = True := by simp
    cases hi : isRt m
    · rw [hi] at hRt
      simp only [Bool.false_eq_true, if_false, k3]
      generalize ctP t = x at *
      refine AC.of_body 0 Tryz.func8 rfl (fun l h => absurd rfl h) (fun C hC => ?_)
      have hD : ∀ l, ¬ C.D0 l := fun l h => (hC l).1 h rfl
      simp only [startFr, Tryz.ntmps8, List.length_cons, List.length_nil, Nat.reduceAdd, Nat.reduceSub, List.replicate_succ, List.replicate_zero, List.cons_append, List.nil_append]
      repeat' (first | ((first | apply Ba | (apply Bb; (· rfl); (· rfl)) | (apply Bc; (· exact nxE)) | (apply Bd; (· rfl); (· rfl); (· exact nxE))); (· first | exact Kz rfl rfl (hQ) (Ad An) | exact Kz rfl rfl (hCm) (Ad An) | exact Kz rfl rfl (hRt) (Aa (Ad (Ad An)) An) | exact Eo rfl rfl (hP) (Sd (Sa (Sd (Sd Sn)) Sn)) | exact Ok.pe)) | ((first | apply Ca | (apply Cb; (· exact nxE))); (· first | exact Eo rfl rfl (hP) (Sd (Sa (Sd (Sd Sn)) Sn)) | exact Ok.e0)) | refine Sx ?_ | (refine Sy (fun h => ?_) (fun h => ?_) <;> try (exfalso; omega; done)) | refine Sz (fun h => ?_) (fun h => ?_))
      exact end4nil2 (ds := [DI 0, DI 0]) (.inl rfl) rfl (by first | exact rT rfl | exact rCA rfl rfl rfl rfl (by simp) | exact rCC rfl rfl rfl rfl rfl) (by rfl) (rT rfl) (rT rfl) (rT rfl) hD
    · rw [hi] at hRt
      cases hall : (ctP t).all isVal
      · rw [hall] at hA
        simp only [kt, if_true, Bool.false_eq_true, if_false, k3]
        generalize ctP t = x at *
        refine AC.of_body 0 Tryz.func8 rfl (fun l h => absurd rfl h) (fun C hC => ?_)
        have hD : ∀ l, ¬ C.D0 l := fun l h => (hC l).1 h rfl
        simp only [startFr, Tryz.ntmps8, List.length_cons, List.length_nil, Nat.reduceAdd, Nat.reduceSub, List.replicate_succ, List.replicate_zero, List.cons_append, List.nil_append]
        repeat' (first | ((first | apply Ba | (apply Bb; (· rfl); (· rfl)) | (apply Bc; (· exact nxE)) | (apply Bd; (· rfl); (· rfl); (· exact nxE))); (· first | exact Kz rfl rfl (hQ) (Ad An) | exact Kz rfl rfl (hCm) (Ad An) | exact Kz rfl rfl (hRt) (Aa (Ad (Ad An)) An) | exact Ez rfl rfl (hA) (Sw Sn) | exact Eo rfl rfl (hP) (Sd (Sa (Sd (Sd Sn)) Sn)) | exact Ok.pe)) | ((first | apply Ca | (apply Cb; (· exact nxE))); (· first | exact Eo rfl rfl (hP) (Sd (Sa (Sd (Sd Sn)) Sn)) | exact Ok.e0)) | refine Sx ?_ | (refine Sy (fun h => ?_) (fun h => ?_) <;> try (exfalso; omega; done)) | refine Sz (fun h => ?_) (fun h => ?_))
        exact end4nil2 (ds := [DI 0, DI 0]) (.inl rfl) rfl (by first | exact rT rfl | exact rCA rfl rfl rfl rfl (by simp) | exact rCC rfl rfl rfl rfl rfl) (by rfl) (rT rfl) (rT rfl) (rT rfl) hD
      · rw [hall] at hA
        simp only [kt, if_true, eq_self]
        generalize ctP t = x at *
        refine AC.of_body 0 Tryz.func8 rfl (fun l h => absurd rfl h) (fun C hC => ?_)
        have hD : ∀ l, ¬ C.D0 l := fun l h => (hC l).1 h rfl
        simp only [startFr, Tryz.ntmps8, List.length_cons, List.length_nil, Nat.reduceAdd, Nat.reduceSub, List.replicate_succ, List.replicate_zero, List.cons_append, List.nil_append]
        repeat' (first | ((first | apply Ba | (apply Bb; (· rfl); (· rfl)) | (apply Bc; (· exact nxE)) | (apply Bd; (· rfl); (· rfl); (· exact nxE))); (· first | exact Kz rfl rfl (hQ) (Ad An) | exact Kz rfl rfl (hCm) (Ad An) | exact Kz rfl rfl (hRt) (Aa (Ad (Ad An)) An) | exact Ez rfl rfl (hA) (Sw Sn) | exact Eo rfl rfl (hP) (Sd (Sa (Sd (Sd Sn)) Sn)) | exact Eo rfl rfl (hB) (Sd (Sa (Sd (Sd Sn)) Sn)) | exact Ok.pe)) | ((first | apply Ca | (apply Cb; (· exact nxE))); (· first | exact Eo rfl rfl (hP) (Sd (Sa (Sd (Sd Sn)) Sn)) | exact Eo rfl rfl (hB) (Sd (Sa (Sd (Sd Sn)) Sn)) | exact Ok.e0)) | refine Sx ?_ | (refine Sy (fun h => ?_) (fun h => ?_) <;> try (exfalso; omega; done)) | refine Sz (fun h => ?_) (fun h => ?_))
        refine Yd ?_
        (apply Le.head [(⟨0, []⟩, _, _), (⟨1, []⟩, _, _)])
        (case' hfr | hob => (repeat' (first | refine La ?_ ?_ | exact Lc | refine Lo ?_ | refine ⟨⟨_, rfl, ?_⟩, ?_⟩ | refine Lx ?_)))
        all_goals (first | exact Ld | (rfl))
  · have ec : cfC t = 4 := by
      have e2 : cmC t = 4 := by unfold cmC; rw [e, if_neg (by decide)]
      unfold cfC; rw [e2, if_neg (by decide)]
    rw [ec, if_neg (by decide), if_neg (by decide), if_neg (by decide)]
    rw [hs] at hQ
    have hMt := isSq_ok hs
    have hCm := cycleMean_ac t t.length hMt
    rw [karp_no hMt.b hMt.le hc] at hCm
    simp only [Option.getD, Option.isSome] at hCm
    refine AC.of_body 0 Tryz.func8 rfl (fun l h => absurd rfl h) (fun C hC => ?_)
    have hD : ∀ l, ¬ C.D0 l := fun l h => (hC l).1 h rfl
    simp only [startFr, Tryz.ntmps8, List.length_cons, List.length_nil, Nat.reduceAdd, Nat.reduceSub, List.replicate_succ, List.replicate_zero, List.cons_append, List.nil_append]
    repeat' (first | ((first | apply Ba | (apply Bb; (· rfl); (· rfl)) | (apply Bc; (· exact nxE)) | (apply Bd; (· rfl); (· rfl); (· exact nxE))); (· first | exact Kz rfl rfl (hQ) (Ad An) | exact Kz rfl rfl (hCm) (Ad An) | exact Ok.pe)) | ((first | apply Ca | (apply Cb; (· exact nxE))); (· first | exact Ok.e0)) | refine Sx ?_ | (refine Sy (fun h => ?_) (fun h => ?_) <;> try (exfalso; omega; done)) | refine Sz (fun h => ?_) (fun h => ?_))
    exact end4nil2 (ds := [DI 0, DI 0]) (.inl rfl) rfl (by first | exact rT rfl | exact rCA rfl rfl rfl rfl (by simp) | exact rCC rfl rfl rfl rfl rfl) (by rfl) (rT rfl) (rT rfl) (rT rfl) hD
theorem cfC_sq {t : List (List Int)} (h : cfC t = 0) : isSq t = true := by
  unfold cfC at h
  by_cases hz : cmC t = 0
  · exact (cm_ok hz).1
  · rw [if_neg hz] at h; exact absurd h hz
theorem cfX_len {t : List (List Int)} : (cfX t).length ≤ 1000 := by
  unfold cfX
  split
  · rename_i h
    have := (isSq_ok (cfC_sq h)).le
    have : (ctP t).length = t.length := rowF_len
    omega
  · simp
theorem cfL_len {t : List (List Int)} : (cfL t).length ≤ 1000 := by
  unfold cfL
  split
  · rename_i h
    have := (isSq_ok (cfC_sq h)).le
    rw [List.length_map]
    unfold bmL
    split
    · have := bkF_len (t := t) (n := t.length) (r := kmR (entN t) t.length) (over := -1)
      omega
    · simp
  · simp
end Go.Proofs.YtikadoicplnkgaaGreat
end
