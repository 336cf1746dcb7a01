/-
  Walks in the abstract reading, part 10.
-/
import Derived.Test.YtegfjedklebbfaaKU9
import Derived.Test.YtegfjedklebbfaaKA3
section
namespace Go.Proofs.Ytegfjedklebbfaa
set_option linter.unusedSimpArgs false
set_option linter.unusedVariables false
open Go Go.RowKit
attribute [local irreducible] AL AD AW OpOk Le AC thenQ blockQ EndQ

noncomputable def evQ (ev : Int) (xs : List Pl) (e : Int) : Int := codeI ev xs (wi e 0 (IntKind.i64.wrap (ev - 1)))
noncomputable def evC (ev : Int) (xs : List Pl) (e : Int) : Int := if evQ ev xs e = 0 then bcC ev (upL xs e.toNat) else evQ ev xs e
noncomputable def evR (ev : Int) (xs : List Pl) (e : Int) : Int × Int := if evQ ev xs e = 0 then ctR ev (upL xs e.toNat) else (0, 0)
theorem up_take {xs : List Pl} {P : Pl → Bool} {k : Nat} (h : k < xs.length) : (xs.take (k + 1)).filter P = if P (plA xs k) = true then (xs.take k).filter P ++ [plA xs k] else (xs.take k).filter P := by
  have e : plA xs k = xs[k] := by simp [plA, h]
  rw [List.take_succ_eq_append_getElem h, List.filter_append, e]
  by_cases hp : P xs[k] = true
  · rw [if_pos hp]; simp [hp]
  · rw [if_neg hp]; simp [hp]
theorem evQ_ok {ev : Int} {xs : List Pl} {e : Int} (h : evQ ev xs e = 0) : ∃ n : Nat, ev = n ∧ 1 ≤ n ∧ n ≤ 10 ∧ xs.length ≤ 30 ∧ (∀ p ∈ xs, okPl n p) ∧ isEG ev xs = true ∧ liveI ev xs = 0 ∧ wi e 0 (IntKind.i64.wrap (ev - 1)) = true ∧ ∃ i : Nat, e = i ∧ i < n := by
  obtain ⟨c1, c2⟩ := codeI_ok h
  obtain ⟨n, rfl, g1, g2, g3, g4, g5⟩ := live_ok c1
  have c3 := c2
  rw [wrapE g1 g2, wi_iff] at c3
  exact ⟨n, rfl, g1, g2, g3, g4, liveI_eg c1, c1, c2, e.toNat, by omega, by omega⟩
set_option maxHeartbeats 4000000 in
theorem sEventTime_ac (ev : Int) (xs : List Pl) (e : Int) (hx : xs.length ≤ 100000000) : AC Try.prog 84 [grD ev xs, I e] H0 (.tup [.agg [I (evR ev xs e).1, I (evR ev xs e).2], I (evC ev xs e)]) H0 := by
  have hI := l01In_ac e 0 (IntKind.i64.wrap (ev - 1))
  have hq := l13Code_ac ev xs (wi e 0 (IntKind.i64.wrap (ev - 1))) hx
  unfold evR evC
  by_cases hc : evQ ev xs e = 0
  case neg =>
    rw [if_neg hc, if_neg hc]
    unfold evQ at hc ⊢
    generalize codeI ev xs (wi e 0 (IntKind.i64.wrap (ev - 1))) = Q at *
    generalize wi e 0 (IntKind.i64.wrap (ev - 1)) = vb at *
    refine AC.of_body 0 Try.func84 rfl (fun l h => absurd rfl h) (fun C hC => ?_)
    have hD : ∀ l, ¬ C.D0 l := fun l h => (hC l).1 h rfl
    simp only [startFr, Try.ntmps84, List.length_cons, List.length_nil, Nat.reduceAdd, Nat.reduceSub, List.replicate_succ, List.replicate_zero, List.cons_append, List.nil_append]
    repeat' (first | ((first | apply Ba | (apply Bb; (· rfl); (· rfl)) | (apply Bc; (· exact nxE)) | (apply Bd; (· rfl); (· rfl); (· exact nxE))); (· first | exact Kz rfl rfl (hI) (Ad (Ad (Ad An))) | exact Kz rfl rfl (hq) (Aa (Ad (Ad An)) (Ad An)) | exact Ok.pe)) | ((first | apply Ca | (apply Cb; (· exact nxE))); (· first | exact Ok.e0)) | refine Sx ?_ | (refine Sy (fun h => ?_) (fun h => ?_) <;> try (exfalso; omega; done)) | refine Sz (fun h => ?_) (fun h => ?_))
    refine Yb ?_
    (apply Le.headZ (hs := []) [] rfl)
    all_goals (try dsimp only [srcs])
    (case' hfr => (repeat' (first | refine La ?_ ?_ | exact Lc | refine Lo ?_ | refine ⟨⟨_, rfl, ?_⟩, ?_⟩ | refine Lx ?_)))
    all_goals (first | exact Ld | exact trivial | (rfl))
  rw [if_pos hc, if_pos hc]
  obtain ⟨n, rfl, g1, g2, g3, g4, g5, g6, g7, i, rfl, g8⟩ := evQ_ok hc
  rw [Int.toNat_natCast]
  rw [show codeI n xs (wi i 0 (IntKind.i64.wrap ((n : Int) - 1))) = 0 from hc] at hq
  rw [g7] at hq hI
  rw [wrapE g1 g2] at hI
  have hT := (l12Tokens_ac n xs g2 (by omega) g4).frzT (by rw [TR_len]; exact (tk_ok g4).sq.l)
  have hR := (l05Reach_ac (wmT n xs (1, 0)) n (tk_ok g4).sq (by omega)).frzT btF_len
  have hCt := sCycleTime_ac n (upL xs i) (by have := List.length_filter_le (upB xs i) xs; unfold upL; omega)
  have hbt : (mRows 1 (btF n n (rchF (entN (wmT n xs (1, 0))) n))).length = n := by simp [btF_len]
  generalize bcC n (upL xs i) = c at *
  generalize ctR n (upL xs i) = r at *
  obtain ⟨r1, r2⟩ := r
  simp only at hCt ⊢
  unfold upL at hCt
  refine AC.of_body 0 Try.func84 rfl (fun l h => absurd rfl h) (fun C hC => ?_)
  have hD : ∀ l, ¬ C.D0 l := fun l h => (hC l).1 h rfl
  simp only [startFr, Try.ntmps84, List.length_cons, List.length_nil, Nat.reduceAdd, Nat.reduceSub, List.replicate_succ, List.replicate_zero, List.cons_append, List.nil_append]
  repeat' (first | ((first | apply Ba | (apply Bb; (· rfl); (· rfl)) | (apply Bc; (· exact nxE)) | (apply Bd; (· rfl); (· rfl); (· exact nxE))); (· first | exact Kz rfl rfl (hI) (Ad (Ad (Ad An))) | exact Kz rfl rfl (hq) (Aa (Ad (Ad An)) (Ad An)) | exact Kz rfl rfl (hT) (Aa (Ad (Ad An)) An) | exact Kz rfl rfl (hR) (Ad An) | exact Ok.pe)) | ((first | apply Ca | (apply Cb; (· exact nxE))); (· first | exact Ok.e0)) | refine Sx ?_ | (refine Sy (fun h => ?_) (fun h => ?_) <;> try (exfalso; omega; done)) | refine Sz (fun h => ?_) (fun h => ?_))
  refine AW.loop (X := {k : Nat // k ≤ xs.length}) (fun k => ⟨[Oo, I i, Bx 2 0, Oo, Bx 2 1, Oo, Oo, .d (.sl 1 (mRows 1 (btF n n (rchF (entN (wmT n xs (1, 0))) n)))), Bx 2 2, I (k.1 : Nat), Oo, Oo, Oo, Oo, Oo, Oo, Oo, Oo, Oo, Oo, Oo, Oo, Oo, Oo, Oo, Oo, Oo, Oo, Oo, Oo, Oo, Oo, Oo, Oo, Oo, Oo, Oo, Oo, Oo, Oo, Oo, Oo, Oo, Oo, Oo, Oo, Oo, Oo, Oo, Oo, Oo, Oo, Oo, Oo, Oo, Oo, Oo, Oo, Oo, Oo, Oo], heapL [(⟨0, []⟩, ⟨0, []⟩, ⟨2, [[I n, PL xs]]⟩), (⟨1, []⟩, ⟨1, []⟩, ⟨2, [[I 0, I 0]]⟩), (⟨2, []⟩, ⟨2, []⟩, ⟨2, [[I n, .own 4 ⟨3, []⟩ 0 ((xs.take k.1).filter (upB xs i)).length]]⟩), (⟨3, []⟩, ⟨3, []⟩, dobj 4 (((xs.take k.1).filter (upB xs i)).map Pl.row))], 900⟩) (fun k => xs.length - k.1) ⟨0, Nat.zero_le _⟩ ?_ (fun k => ?_)
  ·
    (apply Le.headZ [_, _, _, _] rfl)
    all_goals (try dsimp only [srcs])
    (case' hfr | hob => (repeat' (first | refine La ?_ ?_ | exact Lc | refine Lo ?_ | refine ⟨⟨_, rfl, ?_⟩, ?_⟩ | refine Lx ?_)))
    all_goals (first | (rfl) | exact Ld)
  obtain ⟨k, hk⟩ := k
  simp only
  by_cases hlt : k < xs.length
  · have hrow := pl_row (n := 0) hlt
    have hst := up_take (P := upB xs i) hlt
    obtain ⟨_, ⟨g9, g10⟩, _⟩ := okPl_at g4 k hlt
    have hrch := rch_td g4 g2 (show (plA xs k).t.toNat < n by omega) g8
    rw [show (((plA xs k).t.toNat : Nat) : Int) = (plA xs k).t by omega] at hrch
    rw [show upB xs i (plA xs k) = rchF (entN (wmT n xs (1, 0))) n (plA xs k).t.toNat i from hrch.symm] at hst
    have hfl := List.length_filter_le (upB xs i) (xs.take k)
    have htk : (xs.take k).length ≤ 30 := by rw [List.length_take]; omega
    generalize plA xs k = p at *
    obtain ⟨pf, pt, pd, pk⟩ := p
    obtain ⟨t, rfl⟩ : ∃ t : Nat, pt = t := ⟨pt.toNat, by simp at g9; omega⟩
    simp only [Int.toNat_natCast] at hrow hst g10
    have hb1 := btM_get (n := n) (F := rchF (entN (wmT n xs (1, 0))) n) (show t < n by omega)
    have hb2 : (brF n (rchF (entN (wmT n xs (1, 0))) n t))[((i : Nat) : Int).toNat]? = some [DB (rchF (entN (wmT n xs (1, 0))) n t i)] := brF_get g8
    have hb3 : (brF n (rchF (entN (wmT n xs (1, 0))) n t)).length = n := brF_len
    obtain ⟨b, hbv⟩ : ∃ b, rchF (entN (wmT n xs (1, 0))) n t i = b := ⟨_, rfl⟩
    simp only [hbv] at hb2 hst
    generalize (xs.take k).filter (upB xs i) = L at *
    repeat' (first | ((first | apply Ba | (apply Bb; (· rfl); (· rfl)) | (apply Bc; (· exact nxE)) | (apply Bd; (· rfl); (· rfl); (· exact nxE))); (· first | exact Ok.append1 (row := [DI pf, DI t, DI pd, DI pk]) rfl rfl (by decide) rfl rfl (List.length_map _) rfl rfl rfl (by rfl) (by omega) (by omega) | exact Ok.pe)) | ((first | apply Ca | (apply Cb; (· exact nxE))); (· first | exact Ok.append1 (row := [DI pf, DI t, DI pd, DI pk]) rfl rfl (by decide) rfl rfl (List.length_map _) rfl rfl rfl (by rfl) (by omega) (by omega) | exact Ok.e0)) | refine Sx ?_ | (refine Sy (fun h => ?_) (fun h => ?_) <;> try (exfalso; omega; done)) | refine Sz (fun h => ?_) (fun h => ?_))
    · rw [if_pos (by assumption)] at hst
      refine ⟨⟨k + 1, by omega⟩, ?_, by simp only; omega⟩
      simp only [hst]
      (apply Le.headZ [_, _, _, _] rfl)
      all_goals (try dsimp only [srcs])
      (case' hfr | hob => (repeat' (first | refine La ?_ ?_ | exact Lc | refine Lo ?_ | refine ⟨⟨_, rfl, ?_⟩, ?_⟩ | refine Lx ?_)))
      all_goals (first | ((first | rfl | (simp [Pl.row]; done))) | exact Ld)
    · rw [if_neg (by simp_all)] at hst
      refine ⟨⟨k + 1, by omega⟩, ?_, by simp only; omega⟩
      simp only [hst]
      (apply Le.headZ [_, _, _, _] rfl)
      all_goals (try dsimp only [srcs])
      (case' hfr | hob => (repeat' (first | refine La ?_ ?_ | exact Lc | refine Lo ?_ | refine ⟨⟨_, rfl, ?_⟩, ?_⟩ | refine Lx ?_)))
      all_goals (first | (rfl) | exact Ld)
  ·
    obtain rfl : k = xs.length := by omega
    rw [List.take_length]
    repeat' (first | ((first | apply Ba | (apply Bb; (· rfl); (· rfl)) | (apply Bc; (· exact nxE)) | (apply Bd; (· rfl); (· rfl); (· exact nxE))); (· first | exact Ez rfl rfl (hCt) (Sa (Sd (Sw Sn)) Sn) | exact Ok.pe)) | ((first | apply Ca | (apply Cb; (· exact nxE))); (· first | exact Ok.e0)) | refine Sx ?_ | (refine Sy (fun h => ?_) (fun h => ?_) <;> try (exfalso; omega; done)) | refine Sz (fun h => ?_) (fun h => ?_))
    refine Yb ?_
    (apply Le.headZ (hs := []) [] rfl)
    all_goals (try dsimp only [srcs])
    (case' hfr => (repeat' (first | refine La ?_ ?_ | exact Lc | refine Lo ?_ | refine ⟨⟨_, rfl, ?_⟩, ?_⟩ | refine Lx ?_)))
    all_goals (first | exact Ld | exact trivial | (rfl))
set_option maxHeartbeats 4000000 in
theorem iEventTime_ac (ev : Int) (xs : List Pl) (e : Int) (hx : xs.length ≤ 100000000) : AC Try.prog 83 [grD ev xs, I e] H0 (.tup [.agg [I (evR ev xs e).1, I (evR ev xs e).2], I (evC ev xs e)]) H0 := by
  have hE := checkEvent_ac ev xs e hx
  unfold evR evC
  cases hg : isEG ev xs
  · have he : eventC ev xs e = 1 := by unfold eventC; rw [hg]; rfl
    have hq : evQ ev xs e = 1 := by unfold evQ codeI liveI; simp [hg]
    rw [he] at hE
    rw [hq, if_neg (by decide), if_neg (by decide)]
    refine AC.of_body 0 Try.func83 rfl (fun l h => absurd rfl h) (fun C hC => ?_)
    have hD : ∀ l, ¬ C.D0 l := fun l h => (hC l).1 h rfl
    simp only [startFr, Try.ntmps83, List.length_cons, List.length_nil, Nat.reduceAdd, Nat.reduceSub, List.replicate_succ, List.replicate_zero, List.cons_append, List.nil_append]
    repeat' (first | ((first | apply Ba | (apply Bb; (· rfl); (· rfl)) | (apply Bc; (· exact nxE)) | (apply Bd; (· rfl); (· rfl); (· exact nxE))); (· first | exact Kz rfl rfl (hE) (Aa (Ad (Ad An)) (Ad An)) | exact Ok.pe)) | ((first | apply Ca | (apply Cb; (· exact nxE))); (· first | exact Ok.e0)) | refine Sx ?_ | (refine Sy (fun h => ?_) (fun h => ?_) <;> try (exfalso; omega; done)) | refine Sz (fun h => ?_) (fun h => ?_))
    refine Yb ?_
    (apply Le.headZ (hs := []) [] rfl)
    all_goals (try dsimp only [srcs])
    (case' hfr => (repeat' (first | refine La ?_ ?_ | exact Lc | refine Lo ?_ | refine ⟨⟨_, rfl, ?_⟩, ?_⟩ | refine Lx ?_)))
    all_goals (first | exact Ld | exact trivial | (rfl))
  have hl1 : liveI ev xs ≠ 1 := by unfold liveI; rw [if_pos hg]; split <;> decide
  cases hw : wi e 0 (IntKind.i64.wrap (ev - 1))
  · have he : eventC ev xs e = 2 := by unfold eventC; rw [if_pos hg, hw]; rfl
    have hq : evQ ev xs e = 2 := by unfold evQ codeI; rw [if_pos ⟨hl1, hw⟩]
    rw [he] at hE
    rw [hq, if_neg (by decide), if_neg (by decide)]
    refine AC.of_body 0 Try.func83 rfl (fun l h => absurd rfl h) (fun C hC => ?_)
    have hD : ∀ l, ¬ C.D0 l := fun l h => (hC l).1 h rfl
    simp only [startFr, Try.ntmps83, List.length_cons, List.length_nil, Nat.reduceAdd, Nat.reduceSub, List.replicate_succ, List.replicate_zero, List.cons_append, List.nil_append]
    repeat' (first | ((first | apply Ba | (apply Bb; (· rfl); (· rfl)) | (apply Bc; (· exact nxE)) | (apply Bd; (· rfl); (· rfl); (· exact nxE))); (· first | exact Kz rfl rfl (hE) (Aa (Ad (Ad An)) (Ad An)) | exact Ok.pe)) | ((first | apply Ca | (apply Cb; (· exact nxE))); (· first | exact Ok.e0)) | refine Sx ?_ | (refine Sy (fun h => ?_) (fun h => ?_) <;> try (exfalso; omega; done)) | refine Sz (fun h => ?_) (fun h => ?_))
    refine Yb ?_
    (apply Le.headZ (hs := []) [] rfl)
    all_goals (try dsimp only [srcs])
    (case' hfr => (repeat' (first | refine La ?_ ?_ | exact Lc | refine Lo ?_ | refine ⟨⟨_, rfl, ?_⟩, ?_⟩ | refine Lx ?_)))
    all_goals (first | exact Ld | exact trivial | (rfl))
  have he : eventC ev xs e = 0 := by unfold eventC; rw [if_pos hg, if_pos hw]
  rw [he] at hE
  have hq : evQ ev xs e = liveI ev xs := by unfold evQ codeI; rw [if_neg (by rw [hw]; simp)]
  obtain ⟨n, rfl, g1, g2, g3, g4⟩ := isEG_ok hg
  have hL := isLive_ac n xs g2 hx g4
  cases hlv : liveB n xs
  · have hli : liveI n xs = 5 := by unfold liveI; rw [if_pos hg, hlv]; rfl
    rw [hlv] at hL
    rw [hq, hli, if_neg (by decide), if_neg (by decide)]
    refine AC.of_body 0 Try.func83 rfl (fun l h => absurd rfl h) (fun C hC => ?_)
    have hD : ∀ l, ¬ C.D0 l := fun l h => (hC l).1 h rfl
    simp only [startFr, Try.ntmps83, List.length_cons, List.length_nil, Nat.reduceAdd, Nat.reduceSub, List.replicate_succ, List.replicate_zero, List.cons_append, List.nil_append]
    repeat' (first | ((first | apply Ba | (apply Bb; (· rfl); (· rfl)) | (apply Bc; (· exact nxE)) | (apply Bd; (· rfl); (· rfl); (· exact nxE))); (· first | exact Kz rfl rfl (hE) (Aa (Ad (Ad An)) (Ad An)) | exact Kz rfl rfl (hL) (Aa (Ad (Ad An)) An) | exact Ok.pe)) | ((first | apply Ca | (apply Cb; (· exact nxE))); (· first | exact Ok.e0)) | refine Sx ?_ | (refine Sy (fun h => ?_) (fun h => ?_) <;> try (exfalso; omega; done)) | refine Sz (fun h => ?_) (fun h => ?_))
    refine Yb ?_
    (apply Le.headZ (hs := []) [] rfl)
    all_goals (try dsimp only [srcs])
    (case' hfr => (repeat' (first | refine La ?_ ?_ | exact Lc | refine Lo ?_ | refine ⟨⟨_, rfl, ?_⟩, ?_⟩ | refine Lx ?_)))
    all_goals (first | exact Ld | exact trivial | (rfl))
  have hli : liveI n xs = 0 := by unfold liveI; rw [if_pos hg, hlv]; rfl
  rw [hlv] at hL
  rw [if_pos (hq.trans hli), if_pos (hq.trans hli)]
  obtain ⟨_, _, _, _, _, _, _, _, _, i, rfl, g8⟩ := evQ_ok (hq.trans hli)
  rename_i n' hn' _ _ _ _ _ _ _
  obtain rfl : n = n' := by omega
  rw [Int.toNat_natCast]
  have hfl := List.length_filter_le (upB xs i) xs
  have hCt := cycleTime_ac n (upL xs i) (up_eg hg)
  generalize bcC n (upL xs i) = c at *
  generalize ctR n (upL xs i) = r at *
  obtain ⟨r1, r2⟩ := r
  simp only at hCt ⊢
  unfold upL at hCt
  refine AC.of_body 0 Try.func83 rfl (fun l h => absurd rfl h) (fun C hC => ?_)
  have hD : ∀ l, ¬ C.D0 l := fun l h => (hC l).1 h rfl
  simp only [startFr, Try.ntmps83, List.length_cons, List.length_nil, Nat.reduceAdd, Nat.reduceSub, List.replicate_succ, List.replicate_zero, List.cons_append, List.nil_append]
  repeat' (first | ((first | apply Ba | (apply Bb; (· rfl); (· rfl)) | (apply Bc; (· exact nxE)) | (apply Bd; (· rfl); (· rfl); (· exact nxE))); (· first | exact Kz rfl rfl (hE) (Aa (Ad (Ad An)) (Ad An)) | exact Kz rfl rfl (hL) (Aa (Ad (Ad An)) An) | exact Ok.pe)) | ((first | apply Ca | (apply Cb; (· exact nxE))); (· first | exact Ok.e0)) | refine Sx ?_ | (refine Sy (fun h => ?_) (fun h => ?_) <;> try (exfalso; omega; done)) | refine Sz (fun h => ?_) (fun h => ?_))
  refine AW.loop (X := {k : Nat // k ≤ xs.length}) (fun k => ⟨[Oo, I i, Bx 2 0, Oo, Bx 2 1, Oo, Oo, Bx 2 2, Oo, Oo, Oo, Oo, Oo, Oo, Oo, Oo, Oo, Oo, Oo, Oo, Oo, Oo, Oo, Oo, Oo, PL xs, I xs.length, I (k.1 : Nat), Oo, Oo, Oo, Oo, Oo, Oo, Oo, Oo, Oo, Oo, Oo, Oo, Oo, Oo, Oo, Oo, Oo, Oo, Oo, Oo, Oo, Oo], heapL [(⟨0, []⟩, ⟨0, []⟩, ⟨2, [[I n, PL xs]]⟩), (⟨1, []⟩, ⟨1, []⟩, ⟨2, [[I 0, I 0]]⟩), (⟨2, []⟩, ⟨2, []⟩, ⟨2, [[I n, .own 4 ⟨3, []⟩ 0 ((xs.take k.1).filter (upB xs i)).length]]⟩), (⟨3, []⟩, ⟨3, []⟩, dobj 4 (((xs.take k.1).filter (upB xs i)).map Pl.row))], 900⟩) (fun k => xs.length - k.1) ⟨0, Nat.zero_le _⟩ ?_ (fun k => ?_)
  ·
    refine (Le.nilB (l := ⟨15, []⟩) (cs := [I n, .d (.v (.slice none 0 0))]) (cs' := [I n, .own 4 ⟨21, []⟩ 0 0]) 4 rfl rfl (fun j c c' h1 h2 => by rcases j with _ | _ | j <;> simp_all)).trans ?_
    (apply Le.headZ [_, _, _, _] rfl)
    all_goals (try dsimp only [srcs])
    (case' hfr | hob => (repeat' (first | refine La ?_ ?_ | exact Lc | refine Lo ?_ | refine ⟨⟨_, rfl, ?_⟩, ?_⟩ | refine Lx ?_)))
    all_goals (first | (rfl) | exact Ld)
  obtain ⟨k, hk⟩ := k
  simp only
  by_cases hlt : k < xs.length
  · have hrow := pl_row (n := 0) hlt
    have hst := up_take (P := upB xs i) hlt
    obtain ⟨_, ⟨g9, g10⟩, _⟩ := okPl_at g4 k hlt
    obtain ⟨t, ht⟩ : ∃ t : Nat, (plA xs k).t = t := ⟨(plA xs k).t.toNat, by omega⟩
    have hTd := tokenDistances_ac n xs t (by omega) g2 hx g4
    have hub : upB xs i (plA xs k) = decide (0 ≤ tdF xs t i) := by unfold upB; rw [ht]
    have hcell := rowI_at (n := n) (g := tdF xs t) g8
    have hfl2 := List.length_filter_le (upB xs i) (xs.take k)
    have htk : (xs.take k).length ≤ 30 := by rw [List.length_take]; omega
    rw [hub] at hst
    generalize plA xs k = p at *
    obtain ⟨pf, pt, pd, pk⟩ := p
    simp only at ht hrow
    subst ht
    generalize (xs.take k).filter (upB xs i) = L at *
    repeat' (first | ((first | apply Ba | (apply Bb; (· rfl); (· rfl)) | (apply Bc; (· exact nxE)) | (apply Bd; (· rfl); (· rfl); (· exact nxE))); (· first | exact Ok.ld1 rfl rfl rfl hcell | exact Eo rfl rfl (hTd) (Sa (Sd (Sd Sn)) (Sd Sn)) | exact Ok.append1 (row := [DI pf, DI t, DI pd, DI pk]) rfl rfl (by decide) rfl rfl (List.length_map _) rfl rfl rfl (by rfl) (by omega) (by omega) | exact Ok.pe)) | ((first | apply Ca | (apply Cb; (· exact nxE))); (· first | exact Eo rfl rfl (hTd) (Sa (Sd (Sd Sn)) (Sd Sn)) | exact Ok.append1 (row := [DI pf, DI t, DI pd, DI pk]) rfl rfl (by decide) rfl rfl (List.length_map _) rfl rfl rfl (by rfl) (by omega) (by omega) | exact Ok.e0)) | refine Sx ?_ | (refine Sy (fun h => ?_) (fun h => ?_) <;> try (exfalso; omega; done)) | refine Sz (fun h => ?_) (fun h => ?_))
    · rw [if_pos (by simpa using h)] at hst
      refine ⟨⟨k + 1, by omega⟩, ?_, by simp only; omega⟩
      simp only [hst]
      (apply Le.headZ [_, _, _, _] rfl)
      all_goals (try dsimp only [srcs])
      (case' hfr | hob => (repeat' (first | refine La ?_ ?_ | exact Lc | refine Lo ?_ | refine ⟨⟨_, rfl, ?_⟩, ?_⟩ | refine Lx ?_)))
      all_goals (first | ((first | rfl | (simp [Pl.row]; done))) | exact Ld)
    · rw [if_neg (by simpa using h)] at hst
      refine ⟨⟨k + 1, by omega⟩, ?_, by simp only; omega⟩
      simp only [hst]
      (apply Le.headZ [_, _, _, _] rfl)
      all_goals (try dsimp only [srcs])
      (case' hfr | hob => (repeat' (first | refine La ?_ ?_ | exact Lc | refine Lo ?_ | refine ⟨⟨_, rfl, ?_⟩, ?_⟩ | refine Lx ?_)))
      all_goals (first | (rfl) | exact Ld)
  ·
    obtain rfl : k = xs.length := by omega
    rw [List.take_length]
    repeat' (first | ((first | apply Ba | (apply Bb; (· rfl); (· rfl)) | (apply Bc; (· exact nxE)) | (apply Bd; (· rfl); (· rfl); (· exact nxE))); (· first | exact Ez rfl rfl (hCt) (Sa (Sd (Sw Sn)) Sn) | exact Ok.pe)) | ((first | apply Ca | (apply Cb; (· exact nxE))); (· first | exact Ok.e0)) | refine Sx ?_ | (refine Sy (fun h => ?_) (fun h => ?_) <;> try (exfalso; omega; done)) | refine Sz (fun h => ?_) (fun h => ?_))
    refine Yb ?_
    (apply Le.headZ (hs := []) [] rfl)
    all_goals (try dsimp only [srcs])
    (case' hfr => (repeat' (first | refine La ?_ ?_ | exact Lc | refine Lo ?_ | refine ⟨⟨_, rfl, ?_⟩, ?_⟩ | refine Lx ?_)))
    all_goals (first | exact Ld | exact trivial | (rfl))
end Go.Proofs.Ytegfjedklebbfaa
end

section
namespace Go.Proofs.Ytegfjedklebbfaa
set_option linter.unusedSimpArgs false
set_option linter.unusedVariables false
open Go Go.RowKit
attribute [local irreducible] AL AD AW OpOk Le AC thenQ blockQ EndQ

/-- A row of truth values. -/
def boR (n : Nat) (g : Nat → Bool) : List (List D) := (List.range n).map fun e => [D.v (.bool (g e))]
theorem boR_len {n : Nat} {g : Nat → Bool} : (boR n g).length = n := by simp [boR]
theorem boR_get {n e : Nat} {g : Nat → Bool} (h : e < n) : (boR n g)[e]? = some [D.v (.bool (g e))] := by simp [boR, h]
theorem boR_congr {n : Nat} {f g : Nat → Bool} (h : ∀ j, j < n → f j = g j) : boR n f = boR n g := List.map_congr_left fun j hj => by rw [h j (List.mem_range.1 hj)]
theorem boR_set {n j : Nat} {g : Nat → Bool} {v : Bool} : (boR n g).set j [D.v (.bool v)] = boR n (fun b => if b = j then v else g b) := by
  unfold boR
  apply List.ext_getElem?
  intro i
  rw [List.getElem?_set]
  by_cases hi : i < n
  · by_cases e : j = i
    · subst e; simp [hi]
    · simp [hi, e, Ne.symm e]
  · by_cases e : j = i
    · subst e; simp [hi]
    · simp [hi, e]
theorem boR_0 {n : Nat} : dobj 1 (List.replicate n [D.v (.bool false)]) = dobj 1 (boR n fun _ => false) := by
  unfold boR; simp [List.map_const']
theorem tryAll_no {α : Type} {F : Nat → List α} {j m : Nat} (h : j < m) (h0 : F j = []) : tryAll F (List.range' j (m - j)) = tryAll F (List.range' (j + 1) (m - (j + 1))) := by
  rw [range'_cons h, tryAll, if_neg (by rw [h0]; simp)]
theorem tryAll_yes {α : Type} {F : Nat → List α} {j m : Nat} (h : j < m) (h0 : F j ≠ []) : tryAll F (List.range' j (m - j)) = F j := by
  rw [range'_cons h, tryAll, if_pos h0]
abbrev sdD (ev : Int) (xs : List Pl) (cr : Nat → Bool) : List D := [DI ev, .sl 4 (xs.map Pl.row), .sl 1 (boR xs.length cr)]
abbrev seenV (xs : List Pl) (l : List Nat) : Nat → Bool := fun e => visB xs l (e : Int)
abbrev goH (ev : Int) (n : Nat) (xs : List Pl) (cr : Nat → Bool) (l : List Nat) : Heap :=
  upd (upd (upd H0 ⟨2, []⟩ (some (dobj 1 (boR n (seenV xs l))))) ⟨1, []⟩ (some (IO (cN l)))) ⟨0, []⟩ (some ⟨5, [(sdD ev xs cr).map .d ++ [.own 1 ⟨1, []⟩ 0 l.length, .own 1 ⟨2, []⟩ 0 n]]⟩)
abbrev goHF (ev : Int) (n : Nat) (xs : List Pl) (cr : Nat → Bool) (l : List Nat) : Heap :=
  upd (upd (upd H0 ⟨2, []⟩ (some (dobj 1 (boR n (seenV xs l))))) ⟨3, []⟩ (some (IO (cN l)))) ⟨0, []⟩ (some ⟨5, [(sdD ev xs cr).map .d ++ [.own 1 ⟨3, []⟩ 0 l.length, .own 1 ⟨2, []⟩ 0 n]]⟩)
abbrev goHT (ev : Int) (xs : List Pl) (cr : Nat → Bool) (l : List Nat) : Heap :=
  upd (upd (upd H0 ⟨2, []⟩ none) ⟨3, []⟩ (some (IO (cN l)))) ⟨0, []⟩ (some ⟨5, [(sdD ev xs cr).map .d ++ [.own 1 ⟨3, []⟩ 0 l.length, .dead]]⟩)
theorem goHT_eq {ev : Int} {xs : List Pl} {cr : Nat → Bool} {l : List Nat} : goHT ev xs cr l = heapL [(⟨0, []⟩, ⟨0, []⟩, ⟨5, [[I ev, PL xs, .d (.sl 1 (boR xs.length cr)), .own 1 ⟨3, []⟩ 0 l.length, .dead]]⟩), (⟨3, []⟩, ⟨3, []⟩, IO (cN l))] := by
  have e : upd H0 ⟨2, []⟩ none = H0 := by funext l; simp [upd]
  unfold goHT; rw [e]; rfl
theorem visB_snoc {xs : List Pl} {l : List Nat} {i : Nat} {e : Int} : visB xs (l ++ [i]) e = (visB xs l e || (decide ((plA xs i).f = e) || decide ((plA xs i).t = e))) := by
  simp [visB]
theorem visB_last {xs : List Pl} {l : List Nat} (h : l ≠ []) : visB xs l (lastT xs l) = true := by
  unfold visB
  rw [List.any_eq_true]
  refine ⟨lsN l, ?_, by simp [lastT]⟩
  unfold lsN
  rw [List.getLastD_eq_getLast?, List.getLast?_eq_some_getLast h]
  exact List.getLast_mem _
set_option maxHeartbeats 8000000 in
theorem goOn_ac (n : Nat) (xs : List Pl) (cr : Nat → Bool) (hn : n ≤ 10) (hx : xs.length ≤ 1000) (hv : ∀ p ∈ xs, okPl n p) : ∀ (k : Nat) (l : List Nat), PathC xs l → lastT xs l ≠ firstF xs l → k + l.length = n + 1 →
    AC Try.prog 244 [Bx 5 0, I (firstF xs l), I (lastT xs l)] (goH n n xs cr l) (Bo (decide (goC xs cr k l ≠ []))) (if goC xs cr k l = [] then goHF n n xs cr l else goHT n xs cr (goC xs cr k l)) := by
  intro m
  induction m with
  | zero =>
    intro l hp _ hk
    have := hp.len (n := n) hv
    omega
  | succ m ih =>
    intro l hp hne hk
    have hln := hp.len (n := n) hv
    have hvl := visB_last (xs := xs) hp.ne
    obtain ⟨G, hG⟩ : ∃ G, goC xs cr (m + 1) l = G := ⟨_, rfl⟩
    rw [hG]
    unfold goC at hG
    generalize hF : (fun i => if cr i = false ∨ skipC xs l i then [] else if (plA xs i).t = firstF xs l then l ++ [i] else goC xs cr m (l ++ [i])) = F at hG
    have hrg : List.range' 0 xs.length = List.range' 0 (xs.length - 0) := by simp
    rw [hrg] at hG
    generalize hfi : firstF xs l = fi at *
    generalize hla : lastT xs l = la at *
    refine AC.of_body 3 Try.func244 rfl (fun l h => by simp [upd] at h; (repeat' split at h) <;> simp_all) (fun C hC => ?_)
    simp only [startFr, Try.ntmps244, List.length_cons, List.length_nil, Nat.reduceAdd, Nat.reduceSub, List.replicate_succ, List.replicate_zero, List.cons_append, List.nil_append]
    have hD : ∀ l, C.D0 l → l = ⟨0, []⟩ ∨ l = ⟨1, []⟩ ∨ l = ⟨2, []⟩ := fun l h => by have := (hC l).1 h; simp [upd] at this; (repeat' split at this) <;> simp_all
    repeat' (first | ((first | apply Ba | (apply Bb; (· rfl); (· rfl)) | (apply Bc; (· exact nxE)) | (apply Bd; (· rfl); (· rfl); (· exact nxE))); (· first | exact OpOk.nilCheck rfl rfl | exact Ok.pe)) | ((first | apply Ca | (apply Cb; (· exact nxE))); (· first | exact Ok.e0)) | refine Sx ?_ | (refine Sy (fun h => ?_) (fun h => ?_) <;> try (exfalso; omega; done)) | refine Sz (fun h => ?_) (fun h => ?_))
    refine AW.loop (X := {k : Nat // k ≤ xs.length ∧ G = tryAll F (List.range' k (xs.length - k))}) (fun k => ⟨[Bx 5 0, I fi, I la, Oo, Oo, Oo, Oo, Oo, Oo, Oo, Oo, Oo, Oo, PL xs, I xs.length, I (k.1 : Nat), Oo, Oo, Oo, Oo, Oo, Oo, Oo, Oo, Oo, Oo, Oo, Oo, Oo, Oo, Oo, Oo, Oo, Oo, Oo, Oo, Oo, Oo, Oo, Oo, Oo, Oo, Oo, Oo, Oo, Oo, Oo, Oo, Oo, Oo, Oo, Oo, Oo, Oo, Oo, Oo, Oo, Oo, Oo, Oo, Oo, Oo, Oo, Oo, Oo, Oo, Oo, Oo, Oo, Oo, Oo, Oo, Oo, Oo, Oo, Oo, Oo, Oo, Oo, Oo, Oo, Oo, Oo, Oo, Oo, Oo, Oo, Oo, Oo, Oo, Oo, Oo, Oo, Oo, Oo, Oo, Oo, Oo, Oo, Oo, Oo, Oo, Oo, Oo], heapL [(⟨0, []⟩, ⟨0, []⟩, ⟨5, [[I n, PL xs, .d (.sl 1 (boR xs.length cr)), .own 1 ⟨3, []⟩ 0 l.length, .own 1 ⟨2, []⟩ 0 n]]⟩), (⟨3, []⟩, ⟨3, []⟩, IO (cN l)), (⟨2, []⟩, ⟨2, []⟩, dobj 1 (boR n (seenV xs l)))], 900⟩) (fun k => xs.length - k.1) ⟨0, Nat.zero_le _, hG.symm⟩ ?_ (fun k => ?_)
    ·
      (apply Le.headZ [_, _, _] rfl)
      all_goals (try dsimp only [srcs])
      (case' hfr | hob => (repeat' (first | refine La ?_ ?_ | exact Lc | refine Lo ?_ | refine ⟨⟨_, rfl, ?_⟩, ?_⟩ | refine Lx ?_)))
      all_goals (first | (rfl) | exact Ld)
    obtain ⟨j, hj, hinv⟩ := k
    simp only
    have hpl : (dobj 1 (IR (cN l))).rows.length = l.length := by simp [dobj]
    by_cases hlt : j < xs.length
    case neg =>
      obtain rfl : j = xs.length := by omega
      rw [Nat.sub_self] at hinv
      have hG0 : G = [] := by rw [hinv]; rfl
      rw [hG0]
      rw [if_pos rfl, decide_eq_false (by simp)]
      repeat' (first | ((first | apply Ba | (apply Bb; (· rfl); (· rfl)) | (apply Bc; (· exact nxE)) | (apply Bd; (· rfl); (· rfl); (· exact nxE))); (· first | exact OpOk.nilCheck rfl rfl | exact Ok.pe)) | ((first | apply Ca | (apply Cb; (· exact nxE))); (· first | exact Ok.e0)) | refine Sx ?_ | (refine Sy (fun h => ?_) (fun h => ?_) <;> try (exfalso; omega; done)) | refine Sz (fun h => ?_) (fun h => ?_))
      (refine end1p (by first | exact .inl rfl | exact .inr rfl) rfl (by first | exact rT rfl | exact rCA rfl rfl rfl rfl (by simp) | exact rCC rfl rfl rfl rfl rfl) ?_ (Le.head ([(⟨0, []⟩, ⟨0, []⟩, ⟨5, [[I n, PL xs, .d (.sl 1 (boR xs.length cr)), .own 1 ⟨3, []⟩ 0 l.length, .own 1 ⟨2, []⟩ 0 n]]⟩), (⟨3, []⟩, ⟨3, []⟩, IO (cN l)), (⟨2, []⟩, ⟨2, []⟩, dobj 1 (boR n (seenV xs l)))]) (by first | exact fun l h => absurd h (hD l) | (intro l h; rcases hD l h with rfl; simp [tauL]) | (intro l h; rcases hD l h with rfl | rfl <;> simp [tauL]; done) | (intro l h; rcases hD l h with rfl | rfl | rfl <;> simp [tauL])) ?_ ?_ (by simp) (by simp) (by simp [AllP]) (n' := 1000)); (· rfl)) <;> (repeat' (first | exact trivial | exact ARs.nil | refine ARs.cons ?_ ?_ | exact AR.dead _ | exact AR.dd _ | exact AR.i (by (try dsimp only); omega) | exact AR.ptr _ _ _ _ (by simp [heapL, upd]) | exact AR.own _ _ _ _ (by simp [heapL, upd]) | refine AR.ownE _ _ _ ?_ (by simp [heapL, upd]) | refine ⟨⟨_, rfl, ?_⟩, ?_⟩ | exact ObA.data | refine ObA.box ?_ | refine ObA.frE ?_ | refine ObA.dataE ?_ | refine ARs.agg ?_ | refine ARs.tup ?_ | exact AR.clo' ARs.nil ARs.nil | exact AR.clo' ARs.nil (hca _ _)))
    have hrow := pl_row (n := 0) hlt
    have hcr := boR_get (g := cr) hlt
    obtain ⟨⟨g1, g2⟩, ⟨g3, g4⟩, _⟩ := okPl_at hv j hlt
    have hFj : F j = if cr j = false ∨ skipC xs l j then [] else if (plA xs j).t = fi then l ++ [j] else goC xs cr m (l ++ [j]) := by rw [← hF]
    have hsk : skipC xs l j ↔ ((plA xs j).f ≠ la ∨ (plA xs j).t < fi ∨ ((plA xs j).t ≠ fi ∧ visB xs l (plA xs j).t = true)) := by unfold skipC; rw [hfi, hla]
    have hsn : PathC xs (l ++ [j]) ∨ skipC xs l j := by
      by_cases h : skipC xs l j
      · exact .inr h
      · exact .inl (hp.snoc hlt (by rw [hla, hfi]; exact hne) h)
    have hvs : ∀ e, visB xs (l ++ [j]) e = (visB xs l e || (decide ((plA xs j).f = e) || decide ((plA xs j).t = e))) := fun e => visB_snoc
    have hih := fun h1 h2 h3 => ih (l ++ [j]) h1 h2 h3
    rw [firstF_snoc hp.ne, lastT_snoc, hfi] at hih
    generalize plA xs j = p at *
    obtain ⟨pf, pt, pd, pk⟩ := p
    obtain ⟨a, rfl⟩ : ∃ f : Nat, pf = f := ⟨pf.toNat, by simp at g1; omega⟩
    obtain ⟨t, rfl⟩ : ∃ t : Nat, pt = t := ⟨pt.toNat, by simp at g3; omega⟩
    simp only at hrow g2 g4 hFj hsk hvs hih
    have hseen := boR_get (g := seenV xs l) (show t < n by omega)
    have hskipEnd : F j = [] → G = tryAll F (List.range' (j + 1) (xs.length - (j + 1))) := fun h => by rw [hinv, tryAll_no hlt h]
    by_cases hskip : cr j = false ∨ skipC xs l j
    · have hnx := hskipEnd (by rw [hFj, if_pos hskip])
      rcases Bool.eq_false_or_eq_true (cr j) with hc1 | hc1
      · have h2 := hsk.1 (hskip.resolve_left (by rw [hc1]; decide))
        rw [hc1] at hcr
        rcases Bool.eq_false_or_eq_true (visB xs l (t : Int)) with hv1 | hv1
        · rw [show seenV xs l t = true from hv1] at hseen
          have h3 : (a : Int) ≠ la ∨ (t : Int) < fi ∨ (t : Int) ≠ fi := by rcases h2 with h | h | h; exact .inl h; exact .inr (.inl h); exact .inr (.inr h.1)
          clear h2
          repeat' (first | ((first | apply Ba | (apply Bb; (· rfl); (· rfl)) | (apply Bc; (· exact nxE)) | (apply Bd; (· rfl); (· rfl); (· exact nxE))); (· first | exact Ok.ld1 rfl rfl rfl hseen | exact OpOk.nilCheck rfl rfl | exact Ok.pe)) | ((first | apply Ca | (apply Cb; (· exact nxE))); (· first | exact Ok.e0)) | refine Sx ?_ | (refine Sy (fun h => ?_) (fun h => ?_) <;> try (exfalso; omega; done)) | refine Sz (fun h => ?_) (fun h => ?_))
          all_goals
            refine ⟨⟨j + 1, by omega, hnx⟩, ?_, by simp only; omega⟩
            (apply Le.headZ [_, _, _] rfl)
            all_goals (try dsimp only [srcs])
            (case' hfr | hob => (repeat' (first | refine La ?_ ?_ | exact Lc | refine Lo ?_ | refine ⟨⟨_, rfl, ?_⟩, ?_⟩ | refine Lx ?_)))
            all_goals (first | (rfl) | exact Ld)
        · rw [show seenV xs l t = false from hv1] at hseen
          have h3 : (a : Int) ≠ la ∨ (t : Int) < fi := by rcases h2 with h | h | h; exact .inl h; exact .inr h; rw [hv1] at h; cases h.2
          clear h2
          repeat' (first | ((first | apply Ba | (apply Bb; (· rfl); (· rfl)) | (apply Bc; (· exact nxE)) | (apply Bd; (· rfl); (· rfl); (· exact nxE))); (· first | exact Ok.ld1 rfl rfl rfl hseen | exact OpOk.nilCheck rfl rfl | exact Ok.pe)) | ((first | apply Ca | (apply Cb; (· exact nxE))); (· first | exact Ok.e0)) | refine Sx ?_ | (refine Sy (fun h => ?_) (fun h => ?_) <;> try (exfalso; omega; done)) | refine Sz (fun h => ?_) (fun h => ?_))
          all_goals
            refine ⟨⟨j + 1, by omega, hnx⟩, ?_, by simp only; omega⟩
            (apply Le.headZ [_, _, _] rfl)
            all_goals (try dsimp only [srcs])
            (case' hfr | hob => (repeat' (first | refine La ?_ ?_ | exact Lc | refine Lo ?_ | refine ⟨⟨_, rfl, ?_⟩, ?_⟩ | refine Lx ?_)))
            all_goals (first | (rfl) | exact Ld)
      · rw [hc1] at hcr
        repeat' (first | ((first | apply Ba | (apply Bb; (· rfl); (· rfl)) | (apply Bc; (· exact nxE)) | (apply Bd; (· rfl); (· rfl); (· exact nxE))); (· first | exact OpOk.nilCheck rfl rfl | exact Ok.pe)) | ((first | apply Ca | (apply Cb; (· exact nxE))); (· first | exact Ok.e0)) | refine Sx ?_ | (refine Sy (fun h => ?_) (fun h => ?_) <;> try (exfalso; omega; done)) | refine Sz (fun h => ?_) (fun h => ?_))
        refine ⟨⟨j + 1, by omega, hnx⟩, ?_, by simp only; omega⟩
        (apply Le.headZ [_, _, _] rfl)
        all_goals (try dsimp only [srcs])
        (case' hfr | hob => (repeat' (first | refine La ?_ ?_ | exact Lc | refine Lo ?_ | refine ⟨⟨_, rfl, ?_⟩, ?_⟩ | refine Lx ?_)))
        all_goals (first | (rfl) | exact Ld)
    · have hc1 : cr j = true := by
        rcases Bool.eq_false_or_eq_true (cr j) with h | h
        · exact h
        · exact absurd (.inl h) hskip
      have hns : ¬ skipC xs l j := fun h => hskip (.inr h)
      rw [hc1] at hcr
      rw [if_neg hskip] at hFj
      have hp2 := hsn.resolve_right hns
      have hal : (a : Int) = la := Classical.byContradiction fun h => hns (hsk.2 (.inl h))
      have htf : ¬ (t : Int) < fi := fun h => hns (hsk.2 (.inr (.inl h)))
      have hapl : (IR (cN l)).length = l.length := by simp
      by_cases hcl : (t : Int) = fi
      · rw [if_pos hcl] at hFj
        have hG1 : G = l ++ [j] := by rw [hinv, tryAll_yes hlt (by rw [hFj]; simp), hFj]
        rw [hG1, if_neg (by simp), decide_eq_true (by simp), goHT_eq, show (l ++ [j]).length = l.length + 1 by simp, show IO (cN (l ++ [j])) = dobj 1 (IR (cN l) ++ [[DI (j : Nat)]]) by rw [← cN_snoc]]
        repeat' (first | ((first | apply Ba | (apply Bb; (· rfl); (· rfl)) | (apply Bc; (· exact nxE)) | (apply Bd; (· rfl); (· rfl); (· exact nxE))); (· first | exact OpOk.nilCheck rfl rfl | exact Ok.append1 (row := [DI (j : Nat)]) rfl rfl (by decide) rfl rfl hapl rfl rfl rfl (by rfl) (by omega) (by omega) | exact Ok.pe)) | ((first | apply Ca | (apply Cb; (· exact nxE))); (· first | exact Ok.append1 (row := [DI (j : Nat)]) rfl rfl (by decide) rfl rfl hapl rfl rfl rfl (by rfl) (by omega) (by omega) | exact Ok.e0)) | refine Sx ?_ | (refine Sy (fun h => ?_) (fun h => ?_) <;> try (exfalso; omega; done)) | refine Sz (fun h => ?_) (fun h => ?_))
        (refine end1p (by first | exact .inl rfl | exact .inr rfl) rfl (by first | exact rT rfl | exact rCA rfl rfl rfl rfl (by simp) | exact rCC rfl rfl rfl rfl rfl) ?_ (Le.head ([(⟨0, []⟩, ⟨0, []⟩, ⟨5, [[I n, PL xs, .d (.sl 1 (boR xs.length cr)), .own 1 ⟨3, []⟩ 0 (l.length + 1), .dead]]⟩), (⟨3, []⟩, ⟨950, []⟩, dobj 1 (IR (cN l) ++ [[DI (j : Nat)]]))]) (by first | exact fun l h => absurd h (hD l) | (intro l h; rcases hD l h with rfl; simp [tauL]) | (intro l h; rcases hD l h with rfl | rfl <;> simp [tauL]; done) | (intro l h; rcases hD l h with rfl | rfl | rfl <;> simp [tauL])) ?_ ?_ (by simp) (by simp) (by simp [AllP]) (n' := 1000)); (· rfl)) <;> (repeat' (first | exact trivial | exact ARs.nil | refine ARs.cons ?_ ?_ | exact AR.dead _ | exact AR.dd _ | exact AR.i (by (try dsimp only); omega) | exact AR.ptr _ _ _ _ (by simp [heapL, upd]) | exact AR.own _ _ _ _ (by simp [heapL, upd]) | refine AR.ownE _ _ _ ?_ (by simp [heapL, upd]) | refine ⟨⟨_, rfl, ?_⟩, ?_⟩ | exact ObA.data | refine ObA.box ?_ | refine ObA.frE ?_ | refine ObA.dataE ?_ | refine ARs.agg ?_ | refine ARs.tup ?_ | exact AR.clo' ARs.nil ARs.nil | exact AR.clo' ARs.nil (hca _ _)))
      · rw [if_neg hcl] at hFj
        have hvis : visB xs l (t : Int) = false := by
          rcases Bool.eq_false_or_eq_true (visB xs l (t : Int)) with h | h
          · exact absurd (hsk.2 (.inr (.inr ⟨hcl, h⟩))) hns
          · exact h
        rw [show seenV xs l t = false from hvis] at hseen
        have hIH := hih hp2 hcl (by simp; omega)
        have hva : visB xs l (a : Int) = true := by rw [hal]; exact hvl
        have hset1 : (boR n (seenV xs l)).set t [D.v (.bool true)] = boR n (seenV xs (l ++ [j])) := by
          rw [boR_set]
          refine boR_congr fun e _ => ?_
          simp only [seenV, hvs]
          by_cases e1 : e = t
          · subst e1; simp
          · rw [if_neg e1]
            by_cases e2 : a = e
            · subst e2; rw [hva]; rfl
            · rw [decide_eq_false (by omega), decide_eq_false (by omega)]; simp
        have hget2 := boR_get (g := seenV xs (l ++ [j])) (show t < n by omega)
        have hset2 : (boR n (seenV xs (l ++ [j]))).set t [D.v (.bool false)] = boR n (seenV xs l) := by
          rw [boR_set]
          refine boR_congr fun e _ => ?_
          simp only [seenV, hvs]
          by_cases e1 : e = t
          · subst e1; rw [if_pos rfl, hvis]
          · rw [if_neg e1]
            by_cases e2 : a = e
            · subst e2; rw [hva]; rfl
            · rw [decide_eq_false (by omega), decide_eq_false (by omega)]; simp
        have hll : (l ++ [j]).length = l.length + 1 := by simp
        by_cases hg : goC xs cr m (l ++ [j]) = []
        · have hnx := hskipEnd (by rw [hFj, hg])
          rw [if_pos hg, hg, decide_eq_false (by simp)] at hIH
          unfold goH goHF IO at hIH
          rw [cN_snoc, hll] at hIH
          generalize seenV xs (l ++ [j]) = sv at *
          repeat' (first | ((first | apply Ba | (apply Bb; (· rfl); (· rfl)) | (apply Bc; (· exact nxE)) | (apply Bd; (· rfl); (· rfl); (· exact nxE))); (· first | exact Ok.ld1 rfl rfl rfl hseen | exact Ok.sliceToO rfl rfl rfl (by omega) rfl (by omega) | exact OpOk.nilCheck rfl rfl | exact Ok.append1 (row := [DI (j : Nat)]) rfl rfl (by decide) rfl rfl hapl rfl rfl rfl (by rfl) (by omega) (by omega) | exact Ok.st1 rfl rfl rfl (by rw [boR_len]; omega) (by rw [hseen]; rfl) rfl rfl hset1 | exact Ok.st1 rfl rfl rfl (by rw [boR_len]; omega) (by rw [hget2]; rfl) rfl rfl hset2 | exact OpOk.callB3 (b := ⟨0, []⟩) (p := ⟨950, []⟩) (q := ⟨2, []⟩) (x' := .own 1 ⟨2, []⟩ 0 n) rfl rfl hIH rfl rfl rfl (by decide) (by decide) (by decide) rfl (fun g => congrArg some (rnO_dobj _ _ _)) (by simp [Go.Proofs.Ytegfjedklebbfaa.rn, emb, thr]) (.cons (AR.ptr _ _ _ _ (by simp)) (.cons (.dd _) (.cons (.dd _) .nil))) | exact Ok.storeC rfl rfl rfl rfl rfl (by simp; done) (by conv => lhs; whnf) (by rfl) (by rfl) rfl | exact Ok.pe)) | ((first | apply Ca | (apply Cb; (· exact nxE))); (· first | exact Ok.append1 (row := [DI (j : Nat)]) rfl rfl (by decide) rfl rfl hapl rfl rfl rfl (by rfl) (by omega) (by omega) | exact Ok.st1 rfl rfl rfl (by rw [boR_len]; omega) (by rw [hseen]; rfl) rfl rfl hset1 | exact Ok.st1 rfl rfl rfl (by rw [boR_len]; omega) (by rw [hget2]; rfl) rfl rfl hset2 | exact OpOk.callB3 (b := ⟨0, []⟩) (p := ⟨950, []⟩) (q := ⟨2, []⟩) (x' := .own 1 ⟨2, []⟩ 0 n) rfl rfl hIH rfl rfl rfl (by decide) (by decide) (by decide) rfl (fun g => congrArg some (rnO_dobj _ _ _)) (by simp [Go.Proofs.Ytegfjedklebbfaa.rn, emb, thr]) (.cons (AR.ptr _ _ _ _ (by simp)) (.cons (.dd _) (.cons (.dd _) .nil))) | exact Ok.storeC rfl rfl rfl rfl rfl (by simp; done) (by conv => lhs; whnf) (by rfl) (by rfl) rfl | exact Ok.e0)) | refine Sx ?_ | (refine Sy (fun h => ?_) (fun h => ?_) <;> try (exfalso; omega; done)) | refine Sz (fun h => ?_) (fun h => ?_))
          refine ⟨⟨j + 1, by omega, hnx⟩, ?_, by simp only; omega⟩
          refine (Le.takeL ⟨970, [3]⟩ l.length rfl).trans ?_
          (apply Le.headZ [_, _, _] rfl)
          all_goals (try dsimp only [srcs])
          (case' hfr | hob => (repeat' (first | refine La ?_ ?_ | exact Lc | refine Lo ?_ | refine ⟨⟨_, rfl, ?_⟩, ?_⟩ | refine Lx ?_)))
          all_goals (first | ((first | rfl | (simp [dobj]; done))) | exact Ld)
        · have hG1 : G = goC xs cr m (l ++ [j]) := by rw [hinv, tryAll_yes hlt (by rw [hFj]; exact hg), hFj]
          rw [if_neg hg, decide_eq_true hg] at hIH
          rw [hG1, if_neg hg, decide_eq_true hg, goHT_eq]
          generalize goC xs cr m (l ++ [j]) = c at *
          unfold goH goHT IO at hIH
          rw [cN_snoc, hll] at hIH
          generalize seenV xs (l ++ [j]) = sv at *
          repeat' (first | ((first | apply Ba | (apply Bb; (· rfl); (· rfl)) | (apply Bc; (· exact nxE)) | (apply Bd; (· rfl); (· rfl); (· exact nxE))); (· first | exact Ok.ld1 rfl rfl rfl hseen | exact OpOk.nilCheck rfl rfl | exact Ok.append1 (row := [DI (j : Nat)]) rfl rfl (by decide) rfl rfl hapl rfl rfl rfl (by rfl) (by omega) (by omega) | exact Ok.st1 rfl rfl rfl (by rw [boR_len]; omega) (by rw [hseen]; rfl) rfl rfl hset1 | exact OpOk.callB3 (b := ⟨0, []⟩) (p := ⟨950, []⟩) (q := ⟨2, []⟩) (x' := .dead) rfl rfl hIH rfl rfl rfl (by decide) (by decide) (by decide) rfl (fun _ => rfl) (by simp [Go.Proofs.Ytegfjedklebbfaa.rn]) (.cons (AR.ptr _ _ _ _ (by simp)) (.cons (.dd _) (.cons (.dd _) .nil))) | exact Ok.pe)) | ((first | apply Ca | (apply Cb; (· exact nxE))); (· first | exact Ok.append1 (row := [DI (j : Nat)]) rfl rfl (by decide) rfl rfl hapl rfl rfl rfl (by rfl) (by omega) (by omega) | exact Ok.st1 rfl rfl rfl (by rw [boR_len]; omega) (by rw [hseen]; rfl) rfl rfl hset1 | exact OpOk.callB3 (b := ⟨0, []⟩) (p := ⟨950, []⟩) (q := ⟨2, []⟩) (x' := .dead) rfl rfl hIH rfl rfl rfl (by decide) (by decide) (by decide) rfl (fun _ => rfl) (by simp [Go.Proofs.Ytegfjedklebbfaa.rn]) (.cons (AR.ptr _ _ _ _ (by simp)) (.cons (.dd _) (.cons (.dd _) .nil))) | exact Ok.e0)) | refine Sx ?_ | (refine Sy (fun h => ?_) (fun h => ?_) <;> try (exfalso; omega; done)) | refine Sz (fun h => ?_) (fun h => ?_))
          (refine end1p (by first | exact .inl rfl | exact .inr rfl) rfl (by first | exact rT rfl | exact rCA rfl rfl rfl rfl (by simp) | exact rCC rfl rfl rfl rfl rfl) ?_ (Le.head ([(⟨0, []⟩, ⟨0, []⟩, ⟨5, [[I n, PL xs, .d (.sl 1 (boR xs.length cr)), .own 1 ⟨3, []⟩ 0 c.length, .dead]]⟩), (⟨3, []⟩, ⟨970, [3]⟩, IO (cN c))]) (by first | exact fun l h => absurd h (hD l) | (intro l h; rcases hD l h with rfl; simp [tauL]) | (intro l h; rcases hD l h with rfl | rfl <;> simp [tauL]; done) | (intro l h; rcases hD l h with rfl | rfl | rfl <;> simp [tauL])) ?_ ?_ (by simp) (by simp) (by simp [AllP]) (n' := 1000)); (· rfl)) <;> (repeat' (first | exact trivial | exact ARs.nil | refine ARs.cons ?_ ?_ | exact AR.dead _ | exact AR.dd _ | exact AR.i (by (try dsimp only); omega) | exact AR.ptr _ _ _ _ (by simp [heapL, upd]) | exact AR.own _ _ _ _ (by simp [heapL, upd]) | refine AR.ownE _ _ _ ?_ (by simp [heapL, upd]) | refine ⟨⟨_, rfl, ?_⟩, ?_⟩ | exact ObA.data | refine ObA.box ?_ | refine ObA.frE ?_ | refine ObA.dataE ?_ | refine ARs.agg ?_ | refine ARs.tup ?_ | exact AR.clo' ARs.nil ARs.nil | exact AR.clo' ARs.nil (hca _ _)))
end Go.Proofs.Ytegfjedklebbfaa
end

section
namespace Go.Proofs.Ytegfjedklebbfaa
set_option linter.unusedSimpArgs false
set_option linter.unusedVariables false
open Go Go.RowKit
attribute [local irreducible] AL AD AW OpOk Le AC thenQ blockQ EndQ

abbrev mixB (g : Nat → Bool) (K : Nat) : Nat → Bool := fun b => if b < K then g b else false
theorem mixB_0 {g : Nat → Bool} {n : Nat} : dobj 1 (List.replicate n [D.v (.bool false)]) = dobj 1 (boR n (mixB g 0)) := by
  rw [boR_0]; congr 1
theorem mixB_set {g : Nat → Bool} {n K : Nat} {v : Bool} (h : g K = v) : (boR n (mixB g K)).set K [D.v (.bool v)] = boR n (mixB g (K + 1)) := by
  rw [boR_set]
  refine boR_congr fun b _ => ?_
  by_cases e : b = K
  · subst e; simp [h]
  · simp only [if_neg e, mixB]
    by_cases e2 : b < K
    · rw [if_pos e2, if_pos (by omega)]
    · rw [if_neg e2, if_neg (by omega)]
theorem mixB_all {g : Nat → Bool} {n : Nat} : boR n (mixB g n) = boR n g := boR_congr fun b hb => by simp [hb]
set_option maxHeartbeats 8000000 in
theorem bestCircuit_ac (n : Nat) (xs : List Pl) (u1 u2 : Int) (h0 : 0 < n) (hn : n ≤ 10) (hx : xs.length ≤ 30) (hv : ∀ p ∈ xs, okPl n p) (h1 : 0 ≤ u1 ∧ u1 ≤ 100000) (h2 : 0 < u2 ∧ u2 ≤ 50) (hst : StarM (wmT n xs (u1, u2)) n) (cr : Nat → Bool) (hcr : cr = crB xs (u1, u2) (starF (entN (wmT n xs (u1, u2))) n)) (hB : bestC xs cr n ≠ []) :
    AC Try.prog 181 [grD n xs, .agg [I u1, I u2]] H0 (own1 1 (bestC xs cr n).length) (hp1 (IO (cN (bestC xs cr n)))) := by
  have hW := (weightMatrix_ac n xs u1 u2 (by omega) (by omega) hv h1 ⟨by omega, h2.2⟩).frzT (by rw [TR_len]; exact hst.rc.l)
  have hS := (starOf_ac (wmT n xs (u1, u2)) n hst).frzT2 (by rw [TR_len, tabF_len])
  have hsb := fun {i j} => hst.starB (i := i) (j := j)
  have hpw := plW_le hv h1 (show 0 ≤ u2 ∧ u2 ≤ 50 by omega)
  have hgo := fun l h1 h2 h3 => goOn_ac n xs cr hn (by omega) hv n l h1 h2 h3
  have hci : ∀ i, cr i = (!decide (starF (entN (wmT n xs (u1, u2))) n (plA xs i).f.toNat (plA xs i).t.toNat = BOT) && decide (pw u1 u2 (plA xs i) + starF (entN (wmT n xs (u1, u2))) n (plA xs i).f.toNat (plA xs i).t.toNat = 0)) := fun i => by rw [hcr]; rfl
  have hWl : (mRows 1 (TR (wmT n xs (u1, u2)))).length = n := by rw [mTR_len]; exact hst.rc.l
  generalize starF (entN (wmT n xs (u1, u2))) n = s at *
  generalize wmT n xs (u1, u2) = wm at *
  clear hcr hst
  obtain ⟨B, hBe⟩ : ∃ B, bestC xs cr n = B := ⟨_, rfl⟩
  rw [hBe] at hB ⊢
  unfold bestC at hBe
  generalize hF : (fun i => if cr i = false then [] else if (plA xs i).t = (plA xs i).f then [i] else if (plA xs i).t < (plA xs i).f then [] else goC xs cr n [i]) = F at hBe
  rw [show List.range' 0 xs.length = List.range' 0 (xs.length - 0) by simp] at hBe
  have hPW := fun i hi => placeWeight_ac (plA xs i) u1 u2 (by have := hpw i hi; omega) (by have := hpw i hi; omega)
  have hz := mixB_0 (n := xs.length) (g := cr)
  refine AC.of_body 0 Try.func181 rfl (fun l h => absurd rfl h) (fun C hC => ?_)
  have hD : ∀ l, ¬ C.D0 l := fun l h => (hC l).1 h rfl
  simp only [startFr, Try.ntmps181, List.length_cons, List.length_nil, Nat.reduceAdd, Nat.reduceSub, List.replicate_succ, List.replicate_zero, List.cons_append, List.nil_append]
  repeat' (first | ((first | apply Ba | (apply Bb; (· rfl); (· rfl)) | (apply Bc; (· exact nxE)) | (apply Bd; (· rfl); (· rfl); (· exact nxE))); (· first | exact Kz rfl rfl (hW) (Aa (Ad (Ad An)) (Aa (Ad (Ad An)) An)) | exact Kz rfl rfl (hS) (Ad An) | exact OpOk.nilCheck rfl rfl | exact Ok.pe)) | ((first | apply Ca | (apply Cb; (· exact nxE))); (· first | exact Ok.e0)) | refine Sx ?_ | (refine Sy (fun h => ?_) (fun h => ?_) <;> try (exfalso; omega; done)) | refine Sz (fun h => ?_) (fun h => ?_))
  refine AW.loop (X := {k : Nat // k ≤ xs.length}) (fun k => ⟨[Oo, Oo, Bx 2 0, Bx 2 1, Oo, TL (tabF n n s), Oo, .own 1 ⟨2, []⟩ 0 xs.length, Oo, Oo, Oo, Oo, Oo, Oo, Oo, Oo, Oo, Oo, Oo, Oo, Oo, Oo, Oo, Oo, Oo, Oo, PL xs, I xs.length, I (k.1 : Nat), Oo, Oo, Oo, Oo, Oo, Oo, Oo, Oo, Oo, Oo, Oo, Oo, Oo, Oo, Oo, Oo, Oo, Oo, Oo, Oo, Oo, Oo, Oo, Oo, Oo, Oo, Oo, Oo, Oo, Oo, Oo, Oo, Oo, Oo, Oo, Oo, Oo, Oo, Oo, Oo, Oo, Oo, Oo, Oo, Oo, Oo, Oo, Oo, Oo, Oo, Oo, Oo, Oo, Oo, Oo, Oo, Oo, Oo, Oo, Oo, Oo, Oo, Oo, Oo, Oo, Oo, Oo, Oo, Oo, Oo, Oo, Oo, Oo, Oo, Oo, Oo, Oo, Oo], heapL [(⟨0, []⟩, ⟨0, []⟩, ⟨2, [[I n, PL xs]]⟩), (⟨1, []⟩, ⟨1, []⟩, ⟨2, [[I u1, I u2]]⟩), (⟨2, []⟩, ⟨2, []⟩, dobj 1 (boR xs.length (mixB cr k.1)))], 900⟩) (fun k => xs.length - k.1) ⟨0, Nat.zero_le _⟩ ?_ (fun k => ?_)
  ·
    (apply Le.headZ [_, _, _] rfl)
    all_goals (try dsimp only [srcs])
    (case' hfr | hob => (repeat' (first | refine La ?_ ?_ | exact Lc | refine Lo ?_ | refine ⟨⟨_, rfl, ?_⟩, ?_⟩ | refine Lx ?_)))
    all_goals (first | ((first | exact hz | (rw [hz]; done))) | exact Ld)
  obtain ⟨k, hk⟩ := k
  simp only
  by_cases hlt : k < xs.length
  · have hrow := pl_row (n := 0) hlt
    have hpwk := hpw k hlt
    have hPW := hPW k hlt
    have hck := hci k
    obtain ⟨⟨g1, g2⟩, ⟨g3, g4⟩, ⟨g5, g6⟩, _⟩ := okPl_at hv k hlt
    have hpwb : -1000000 ≤ pw u1 u2 (plA xs k) ∧ pw u1 u2 (plA xs k) ≤ 1000000 := by unfold pw; omega
    clear hF
    generalize hw : pw u1 u2 (plA xs k) = w at *
    generalize plA xs k = p at *
    obtain ⟨pf, pt, pd, pk⟩ := p
    obtain ⟨a, rfl⟩ : ∃ f : Nat, pf = f := ⟨pf.toNat, by simp at g1; omega⟩
    obtain ⟨t, rfl⟩ : ∃ t : Nat, pt = t := ⟨pt.toNat, by simp at g3; omega⟩
    simp only [Int.toNat_natCast] at hrow g2 g4 g5 g6 hpwk hck
    obtain ⟨rr, hr1, hr2, hr3⟩ := (tabF_rc (m := n) (n := n) (f := s)).get (show a < n by omega) (show t < n by omega)
    rw [tabF_ent (by omega) (by omega)] at hr2
    have hr1' := TR_get hr1
    have hrf := IR_get hr2
    have hrl : (IR rr).length = n := by rw [IR_len, hr3]
    have hb := hsb (i := a) (j := t) (by omega) (by omega)
    have hc0 := boR_get (g := mixB cr k) hlt
    by_cases hbot : s a t = BOT
    · rw [decide_eq_true hbot] at hck
      have hset := mixB_set (n := xs.length) (K := k) (g := cr) (v := false) hck
      rw [hbot] at hrf
      unfold BOT at hrf
      repeat' (first | ((first | apply Ba | (apply Bb; (· rfl); (· rfl)) | (apply Bc; (· exact nxE)) | (apply Bd; (· rfl); (· rfl); (· exact nxE))); (· first | exact OpOk.nilCheck rfl rfl | exact Ok.st1 rfl rfl rfl (by rw [boR_len]; omega) (by rw [hc0]; rfl) rfl rfl hset | exact Ok.pe)) | ((first | apply Ca | (apply Cb; (· exact nxE))); (· first | exact Ok.st1 rfl rfl rfl (by rw [boR_len]; omega) (by rw [hc0]; rfl) rfl rfl hset | exact Ok.e0)) | refine Sx ?_ | (refine Sy (fun h => ?_) (fun h => ?_) <;> try (exfalso; omega; done)) | refine Sz (fun h => ?_) (fun h => ?_))
      refine ⟨⟨k + 1, by omega⟩, ?_, by simp only; omega⟩
      (apply Le.headZ [_, _, _] rfl)
      all_goals (try dsimp only [srcs])
      (case' hfr | hob => (repeat' (first | refine La ?_ ?_ | exact Lc | refine Lo ?_ | refine ⟨⟨_, rfl, ?_⟩, ?_⟩ | refine Lx ?_)))
      all_goals (first | (rfl) | exact Ld)
    · rw [decide_eq_false hbot] at hck
      simp only [Bool.not_false, Bool.true_and] at hck
      have hb2 := hb.resolve_left hbot
      have hset := mixB_set (n := xs.length) (K := k) (g := cr) hck
      unfold BOT at hbot
      repeat' (first | ((first | apply Ba | (apply Bb; (· rfl); (· rfl)) | (apply Bc; (· exact nxE)) | (apply Bd; (· rfl); (· rfl); (· exact nxE))); (· first | exact Kz rfl rfl (hPW) (Aa (Ad (Ad (Ad (Ad An)))) (Aa (Ad (Ad An)) An)) | exact OpOk.nilCheck rfl rfl | exact Ok.st1 rfl rfl rfl (by rw [boR_len]; omega) (by rw [hc0]; rfl) rfl rfl hset | exact Ok.pe)) | ((first | apply Ca | (apply Cb; (· exact nxE))); (· first | exact Ok.st1 rfl rfl rfl (by rw [boR_len]; omega) (by rw [hc0]; rfl) rfl rfl hset | exact Ok.e0)) | refine Sx ?_ | (refine Sy (fun h => ?_) (fun h => ?_) <;> try (exfalso; omega; done)) | refine Sz (fun h => ?_) (fun h => ?_))
      all_goals
        refine ⟨⟨k + 1, by omega⟩, ?_, by simp only; omega⟩
        (apply Le.headZ [_, _, _] rfl)
        all_goals (try dsimp only [srcs])
        (case' hfr | hob => (repeat' (first | refine La ?_ ?_ | exact Lc | refine Lo ?_ | refine ⟨⟨_, rfl, ?_⟩, ?_⟩ | refine Lx ?_)))
        all_goals (first | (rfl) | exact Ld)
  obtain rfl : k = xs.length := by omega
  rw [mixB_all]
  clear hW hS hsb hci hPW hz hlt hk
  have hbl : (boR xs.length cr).length = xs.length := boR_len
  repeat' (first | ((first | apply Ba | (apply Bb; (· rfl); (· rfl)) | (apply Bc; (· exact nxE)) | (apply Bd; (· rfl); (· rfl); (· exact nxE))); (· first | exact OpOk.nilCheck rfl rfl | exact Ok.pe)) | ((first | apply Ca | (apply Cb; (· exact nxE))); (· first | exact Ok.e0)) | refine Sx ?_ | (refine Sy (fun h => ?_) (fun h => ?_) <;> try (exfalso; omega; done)) | refine Sz (fun h => ?_) (fun h => ?_))
  refine AW.loop (X := {k : Nat // k ≤ xs.length ∧ B = tryAll F (List.range' k (xs.length - k))}) (fun k => ⟨[Oo, Oo, Bx 2 0, Oo, Oo, Oo, Oo, .d (.sl 1 (boR xs.length cr)), Oo, Oo, Oo, Oo, Oo, Oo, Oo, Oo, Oo, Oo, Oo, Oo, Oo, Oo, Oo, Oo, Oo, Oo, Oo, Oo, Oo, Oo, Oo, Oo, Oo, Oo, Oo, Oo, Oo, Oo, Oo, Oo, Oo, Oo, Oo, Oo, Oo, Oo, Oo, Oo, Oo, Oo, Oo, Oo, Oo, Oo, Oo, Oo, Oo, PL xs, I xs.length, I (k.1 : Nat), Oo, Oo, Oo, Oo, Oo, Oo, Oo, Oo, Oo, Oo, Oo, Oo, Oo, Oo, Oo, Oo, Oo, Oo, Oo, Oo, Oo, Oo, Oo, Oo, Oo, Oo, Oo, Oo, Oo, Oo, Oo, Oo, Oo, Oo, Oo, Oo, Oo, Oo, Oo, Oo, Oo, Oo, Oo, Oo, Oo, Oo, Oo], heapL [(⟨0, []⟩, ⟨0, []⟩, ⟨2, [[I n, PL xs]]⟩)], 900⟩) (fun k => xs.length - k.1) ⟨0, Nat.zero_le _, hBe.symm⟩ ?_ (fun k => ?_)
  ·
    (apply Le.headZ [_] rfl)
    all_goals (try dsimp only [srcs])
    (case' hfr | hob => (repeat' (first | refine La ?_ ?_ | exact Lc | refine Lo ?_ | refine ⟨⟨_, rfl, ?_⟩, ?_⟩ | refine Lx ?_)))
    all_goals (first | (rfl) | exact Ld)
  obtain ⟨k, hk, hinv⟩ := k
  simp only
  by_cases hlt : k < xs.length
  case neg =>
    obtain rfl : k = xs.length := by omega
    rw [Nat.sub_self] at hinv
    exact absurd hinv hB
  have hrow := pl_row (n := 0) hlt
  have hcr := boR_get (g := cr) hlt
  obtain ⟨⟨g1, g2⟩, ⟨g3, g4⟩, _⟩ := okPl_at hv k hlt
  have hFk : F k = if cr k = false then [] else if (plA xs k).t = (plA xs k).f then [k] else if (plA xs k).t < (plA xs k).f then [] else goC xs cr n [k] := by rw [← hF]
  have hvis : ∀ e, visB xs [k] e = (decide ((plA xs k).f = e) || decide ((plA xs k).t = e)) := fun e => by simp [visB]
  have hp1 : ¬ (plA xs k).t < (plA xs k).f → PathC xs [k] := fun h => PathC.one hlt h
  have hgo := fun h1 h2 h3 => hgo [k] h1 h2 h3
  rw [show firstF xs [k] = (plA xs k).f from rfl, show lastT xs [k] = (plA xs k).t from rfl] at hgo
  generalize plA xs k = p at *
  obtain ⟨pf, pt, pd, pk⟩ := p
  obtain ⟨a, rfl⟩ : ∃ f : Nat, pf = f := ⟨pf.toNat, by simp at g1; omega⟩
  obtain ⟨t, rfl⟩ : ∃ t : Nat, pt = t := ⟨pt.toNat, by simp at g3; omega⟩
  simp only at hrow g2 g4 hFk hvis hp1 hgo
  rcases Bool.eq_false_or_eq_true (cr k) with hc1 | hc1
  case inr =>
    rw [hc1] at hcr
    rw [if_pos hc1] at hFk
    rw [tryAll_no hlt hFk] at hinv
    repeat' (first | ((first | apply Ba | (apply Bb; (· rfl); (· rfl)) | (apply Bc; (· exact nxE)) | (apply Bd; (· rfl); (· rfl); (· exact nxE))); (· first | exact OpOk.nilCheck rfl rfl | exact Ok.pe)) | ((first | apply Ca | (apply Cb; (· exact nxE))); (· first | exact Ok.e0)) | refine Sx ?_ | (refine Sy (fun h => ?_) (fun h => ?_) <;> try (exfalso; omega; done)) | refine Sz (fun h => ?_) (fun h => ?_))
    refine ⟨⟨k + 1, by omega, hinv⟩, ?_, by simp only; omega⟩
    (apply Le.headZ [_] rfl)
    all_goals (try dsimp only [srcs])
    (case' hfr | hob => (repeat' (first | refine La ?_ ?_ | exact Lc | refine Lo ?_ | refine ⟨⟨_, rfl, ?_⟩, ?_⟩ | refine Lx ?_)))
    all_goals (first | (rfl) | exact Ld)
  rw [hc1] at hcr
  rw [if_neg (by rw [hc1]; decide)] at hFk
  by_cases he : (t : Int) = (a : Int)
  · rw [if_pos he] at hFk
    have hB1 : B = [k] := by rw [hinv, tryAll_yes hlt (by rw [hFk]; simp), hFk]
    rw [hB1]
    repeat' (first | ((first | apply Ba | (apply Bb; (· rfl); (· rfl)) | (apply Bc; (· exact nxE)) | (apply Bd; (· rfl); (· rfl); (· exact nxE))); (· first | exact OpOk.nilCheck rfl rfl | exact Ok.pe)) | ((first | apply Ca | (apply Cb; (· exact nxE))); (· first | exact Ok.e0)) | refine Sx ?_ | (refine Sy (fun h => ?_) (fun h => ?_) <;> try (exfalso; omega; done)) | refine Sz (fun h => ?_) (fun h => ?_))
    refine Ya ?_
    (apply Le.head [(⟨0, []⟩, _, _)])
    (case' hfr | hob => (repeat' (first | refine La ?_ ?_ | exact Lc | refine Lo ?_ | refine ⟨⟨_, rfl, ?_⟩, ?_⟩ | refine Lx ?_)))
    all_goals (first | exact Ld | (rfl))
  rw [if_neg he] at hFk
  by_cases hlt2 : (t : Int) < (a : Int)
  · rw [if_pos hlt2] at hFk
    rw [tryAll_no hlt hFk] at hinv
    repeat' (first | ((first | apply Ba | (apply Bb; (· rfl); (· rfl)) | (apply Bc; (· exact nxE)) | (apply Bd; (· rfl); (· rfl); (· exact nxE))); (· first | exact OpOk.nilCheck rfl rfl | exact Ok.pe)) | ((first | apply Ca | (apply Cb; (· exact nxE))); (· first | exact Ok.e0)) | refine Sx ?_ | (refine Sy (fun h => ?_) (fun h => ?_) <;> try (exfalso; omega; done)) | refine Sz (fun h => ?_) (fun h => ?_))
    refine ⟨⟨k + 1, by omega, hinv⟩, ?_, by simp only; omega⟩
    (apply Le.headZ [_] rfl)
    all_goals (try dsimp only [srcs])
    (case' hfr | hob => (repeat' (first | refine La ?_ ?_ | exact Lc | refine Lo ?_ | refine ⟨⟨_, rfl, ?_⟩, ?_⟩ | refine Lx ?_)))
    all_goals (first | (rfl) | exact Ld)
  rw [if_neg hlt2] at hFk
  have hG := hgo (hp1 hlt2) he (by simp)
  have hrep : List.replicate n [D.v (.bool false)] = boR n fun _ => false := by simp [boR, List.map_const']
  have hset1 : (List.replicate n [D.v (.bool false)]).set a [D.v (.bool true)] = boR n (fun e => if e = a then true else false) := by rw [hrep, boR_set]
  have hget1 : (List.replicate n [D.v (.bool false)])[a]? = some [D.v (.bool false)] := by rw [hrep]; exact boR_get (show a < n by omega)
  have hget2 := boR_get (g := fun e => if e = a then true else false) (show t < n by omega)
  have hset2 : (boR n fun e => if e = a then true else false).set t [D.v (.bool true)] = boR n (seenV xs [k]) := by
    rw [boR_set]
    refine boR_congr fun e _ => ?_
    simp only [seenV, hvis]
    by_cases e1 : e = t
    · subst e1; simp
    · rw [if_neg e1]
      by_cases e2 : e = a
      · subst e2; simp
      · rw [if_neg e2, decide_eq_false (by omega), decide_eq_false (by omega)]; rfl
  by_cases hg : goC xs cr n [k] = []
  · rw [if_pos hg, hg, decide_eq_false (by simp)] at hG
    rw [hg] at hFk
    rw [tryAll_no hlt hFk] at hinv
    unfold goH goHF IO at hG
    generalize seenV xs [k] = sv at *
    repeat' (first | ((first | apply Ba | (apply Bb; (· rfl); (· rfl)) | (apply Bc; (· exact nxE)) | (apply Bd; (· rfl); (· rfl); (· exact nxE))); (· first | exact Ok.ld1 rfl rfl rfl hget1 | exact OpOk.nilCheck rfl rfl | exact Ok.st1 rfl rfl rfl (by rw [List.length_replicate]; omega) (congrArg (Option.map List.length) hget1) rfl rfl hset1 | exact Ok.st1 rfl rfl rfl (by rw [boR_len]; omega) (by rw [hget2]; rfl) rfl rfl hset2 | exact OpOk.callB3 (b := ⟨930, []⟩) (p := ⟨925, []⟩) (q := ⟨928, []⟩) (x' := .own 1 ⟨928, []⟩ 0 n) rfl rfl hG rfl rfl rfl (by decide) (by decide) (by decide) rfl (fun g => congrArg some (rnO_dobj _ _ _)) (by simp [Go.Proofs.Ytegfjedklebbfaa.rn, emb, thr]) (.cons (AR.ptr _ _ _ _ (by simp)) (.cons (.dd _) (.cons (.dd _) .nil))) | exact Ok.pe)) | ((first | apply Ca | (apply Cb; (· exact nxE))); (· first | exact Ok.st1 rfl rfl rfl (by rw [List.length_replicate]; omega) (congrArg (Option.map List.length) hget1) rfl rfl hset1 | exact Ok.st1 rfl rfl rfl (by rw [boR_len]; omega) (by rw [hget2]; rfl) rfl rfl hset2 | exact OpOk.callB3 (b := ⟨930, []⟩) (p := ⟨925, []⟩) (q := ⟨928, []⟩) (x' := .own 1 ⟨928, []⟩ 0 n) rfl rfl hG rfl rfl rfl (by decide) (by decide) (by decide) rfl (fun g => congrArg some (rnO_dobj _ _ _)) (by simp [Go.Proofs.Ytegfjedklebbfaa.rn, emb, thr]) (.cons (AR.ptr _ _ _ _ (by simp)) (.cons (.dd _) (.cons (.dd _) .nil))) | exact Ok.e0)) | refine Sx ?_ | (refine Sy (fun h => ?_) (fun h => ?_) <;> try (exfalso; omega; done)) | refine Sz (fun h => ?_) (fun h => ?_))
    refine ⟨⟨k + 1, by omega, hinv⟩, ?_, by simp only; omega⟩
    (apply Le.headZ [_] rfl)
    all_goals (try dsimp only [srcs])
    (case' hfr | hob => (repeat' (first | refine La ?_ ?_ | exact Lc | refine Lo ?_ | refine ⟨⟨_, rfl, ?_⟩, ?_⟩ | refine Lx ?_)))
    all_goals (first | (rfl) | exact Ld)
  · have hB1 : B = goC xs cr n [k] := by rw [hinv, tryAll_yes hlt (by rw [hFk]; exact hg), hFk]
    rw [if_neg hg, decide_eq_true hg] at hG
    rw [hB1]
    generalize goC xs cr n [k] = c at *
    unfold goH goHT IO at hG
    generalize seenV xs [k] = sv at *
    repeat' (first | ((first | apply Ba | (apply Bb; (· rfl); (· rfl)) | (apply Bc; (· exact nxE)) | (apply Bd; (· rfl); (· rfl); (· exact nxE))); (· first | exact Ok.ld1 rfl rfl rfl hget1 | exact OpOk.nilCheck rfl rfl | exact Ok.st1 rfl rfl rfl (by rw [List.length_replicate]; omega) (congrArg (Option.map List.length) hget1) rfl rfl hset1 | exact Ok.st1 rfl rfl rfl (by rw [boR_len]; omega) (by rw [hget2]; rfl) rfl rfl hset2 | exact OpOk.callB3 (b := ⟨930, []⟩) (p := ⟨925, []⟩) (q := ⟨928, []⟩) (x' := .dead) rfl rfl hG rfl rfl rfl (by decide) (by decide) (by decide) rfl (fun _ => rfl) (by simp [Go.Proofs.Ytegfjedklebbfaa.rn, emb, thr]) (.cons (AR.ptr _ _ _ _ (by simp)) (.cons (.dd _) (.cons (.dd _) .nil))) | exact Ok.pe)) | ((first | apply Ca | (apply Cb; (· exact nxE))); (· first | exact Ok.st1 rfl rfl rfl (by rw [List.length_replicate]; omega) (congrArg (Option.map List.length) hget1) rfl rfl hset1 | exact Ok.st1 rfl rfl rfl (by rw [boR_len]; omega) (by rw [hget2]; rfl) rfl rfl hset2 | exact OpOk.callB3 (b := ⟨930, []⟩) (p := ⟨925, []⟩) (q := ⟨928, []⟩) (x' := .dead) rfl rfl hG rfl rfl rfl (by decide) (by decide) (by decide) rfl (fun _ => rfl) (by simp [Go.Proofs.Ytegfjedklebbfaa.rn, emb, thr]) (.cons (AR.ptr _ _ _ _ (by simp)) (.cons (.dd _) (.cons (.dd _) .nil))) | exact Ok.e0)) | refine Sx ?_ | (refine Sy (fun h => ?_) (fun h => ?_) <;> try (exfalso; omega; done)) | refine Sz (fun h => ?_) (fun h => ?_))
    refine Ya ?_
    (apply Le.head [(⟨0, []⟩, _, _)])
    (case' hfr | hob => (repeat' (first | refine La ?_ ?_ | exact Lc | refine Lo ?_ | refine ⟨⟨_, rfl, ?_⟩, ?_⟩ | refine Lx ?_)))
    all_goals (first | exact Ld | (rfl))
theorem crOk_max {n : Nat} {xs : List Pl} {r : Int × Int} (hn : n ≤ 10) (h0 : 0 < n) (hv : ∀ p ∈ xs, okPl n p) (hr : MaxR xs r) (h1 : 0 ≤ r.1 ∧ r.1 ≤ 100000) (h2 : 0 ≤ r.2 ∧ r.2 ≤ 50) : CrOk xs n r (starF (entN (wmT n xs r)) n) := by
  have hb := wm_bnd hv h1 h2
  have hw : WmOk n xs r (wmT n xs r) := wm_ok (M := 500000) (by decide) xs (fun p hp => ⟨hv p hp, (hb p hp).1⟩)
  have hst := starM_wm hn h0 hv hr h1 h2
  exact ⟨hv, hr, hw, hst.np, hst.ok⟩
set_option maxHeartbeats 2000000 in
theorem iBestCircuit_ac (ev : Int) (xs : List Pl) (hx : xs.length ≤ 100000000) : AC Try.prog 85 [grD ev xs] H0 (.tup [own1 1 (bcL ev xs).length, I (bcC ev xs)]) (hp1 (IO (cN (bcL ev xs)))) := by
  have hE := iIsEventGraph_ac ev xs hx
  unfold bcL
  cases hg : isEG ev xs
  · rw [(bc_no hg).1, if_neg (by decide)]
    rw [hg] at hE
    refine AC.of_body 0 Try.func85 rfl (fun l h => absurd rfl h) (fun C hC => ?_)
    have hD : ∀ l, ¬ C.D0 l := fun l h => (hC l).1 h rfl
    simp only [startFr, Try.ntmps85, List.length_cons, List.length_nil, Nat.reduceAdd, Nat.reduceSub, List.replicate_succ, List.replicate_zero, List.cons_append, List.nil_append]
    repeat' (first | ((first | apply Ba | (apply Bb; (· rfl); (· rfl)) | (apply Bc; (· exact nxE)) | (apply Bd; (· rfl); (· rfl); (· exact nxE))); (· first | exact Kz rfl rfl (hE) (Aa (Ad (Ad An)) An) | exact OpOk.nilCheck rfl rfl | exact Ok.pe)) | ((first | apply Ca | (apply Cb; (· exact nxE))); (· first | exact Ok.e0)) | refine Sx ?_ | (refine Sy (fun h => ?_) (fun h => ?_) <;> try (exfalso; omega; done)) | refine Sz (fun h => ?_) (fun h => ?_))
    exact end2nil (.inl rfl) rfl (rT rfl) (rT rfl) hD
  · rw [hg] at hE
    obtain ⟨n, rfl, _⟩ := isEG_ok hg
    have hT := cycleTime_ac n xs hg
    by_cases hc : bcC n xs = 0
    · rw [if_pos hc]
      rw [hc] at hT ⊢
      obtain ⟨n', hev, h1, h2, h3, h4, h5, h6, h8, h9, h10, h11⟩ := bc_star hc
      obtain rfl : n = n' := by omega
      rw [h8] at hT
      have hmx := h5.isMax h2 h6
      obtain ⟨c, e1, e2, _⟩ := h5.best h2 h6
      rw [Int.toNat_natCast]
      have hcr := crOk_max h2 h1 h4 hmx h9 ⟨by omega, h10.2⟩
      have hbe := hcr.best h1
      have hne : bestC xs (crB xs (maxR xs) (starF (entN (wmT n xs (maxR xs))) n)) n ≠ [] := by rw [← hbe, e1]; exact e2.ne
      rw [hbe]
      have hbl : (bestC xs (crB xs (maxR xs) (starF (entN (wmT n xs (maxR xs))) n)) n).length ≤ n := by
        rw [← hbe, e1]; exact e2.len fun i hi => (okPl_at h4 i hi).1
      have hB := bestCircuit_ac n xs (maxR xs).1 (maxR xs).2 h1 h2 h3 h4 h9 h10 h11 _ rfl hne
      generalize bestC xs (crB xs (maxR xs) (starF (entN (wmT n xs (maxR xs))) n)) n = b at *
      generalize maxR xs = r at *
      have hB' : AC Try.prog 181 [grD n xs, .agg [I r.1, I r.2]] H0 (own1 1 b.length) (hp1 (IO (cN b))) := hB
      refine AC.of_body 0 Try.func85 rfl (fun l h => absurd rfl h) (fun C hC => ?_)
      have hD : ∀ l, ¬ C.D0 l := fun l h => (hC l).1 h rfl
      simp only [startFr, Try.ntmps85, List.length_cons, List.length_nil, Nat.reduceAdd, Nat.reduceSub, List.replicate_succ, List.replicate_zero, List.cons_append, List.nil_append]
      repeat' (first | ((first | apply Ba | (apply Bb; (· rfl); (· rfl)) | (apply Bc; (· exact nxE)) | (apply Bd; (· rfl); (· rfl); (· exact nxE))); (· first | exact Kz rfl rfl (hE) (Aa (Ad (Ad An)) An) | exact Kz rfl rfl (hT) (Aa (Ad (Ad An)) An) | exact OpOk.nilCheck rfl rfl | exact Eo rfl rfl (hB') (Sa (Sd (Sd Sn)) (Sa (Sd (Sd Sn)) Sn)) | exact Ok.pe)) | ((first | apply Ca | (apply Cb; (· exact nxE))); (· first | exact Eo rfl rfl (hB') (Sa (Sd (Sd Sn)) (Sa (Sd (Sd Sn)) Sn)) | exact Ok.e0)) | refine Sx ?_ | (refine Sy (fun h => ?_) (fun h => ?_) <;> try (exfalso; omega; done)) | refine Sz (fun h => ?_) (fun h => ?_))
      refine Yb ?_
      (apply Le.head [(⟨0, []⟩, _, _)])
      (case' hfr | hob => (repeat' (first | refine La ?_ ?_ | exact Lc | refine Lo ?_ | refine ⟨⟨_, rfl, ?_⟩, ?_⟩ | refine Lx ?_)))
      all_goals (first | exact Ld | (rfl))
    · rw [if_neg hc]
      generalize ctR n xs = r at *
      generalize bcC n xs = bc at *
      refine AC.of_body 0 Try.func85 rfl (fun l h => absurd rfl h) (fun C hC => ?_)
      have hD : ∀ l, ¬ C.D0 l := fun l h => (hC l).1 h rfl
      simp only [startFr, Try.ntmps85, List.length_cons, List.length_nil, Nat.reduceAdd, Nat.reduceSub, List.replicate_succ, List.replicate_zero, List.cons_append, List.nil_append]
      repeat' (first | ((first | apply Ba | (apply Bb; (· rfl); (· rfl)) | (apply Bc; (· exact nxE)) | (apply Bd; (· rfl); (· rfl); (· exact nxE))); (· first | exact Kz rfl rfl (hE) (Aa (Ad (Ad An)) An) | exact Kz rfl rfl (hT) (Aa (Ad (Ad An)) An) | exact OpOk.nilCheck rfl rfl | exact Ok.pe)) | ((first | apply Ca | (apply Cb; (· exact nxE))); (· first | exact Ok.e0)) | refine Sx ?_ | (refine Sy (fun h => ?_) (fun h => ?_) <;> try (exfalso; omega; done)) | refine Sz (fun h => ?_) (fun h => ?_))
      exact end2nil (.inl rfl) rfl (rT rfl) (rT rfl) hD
end Go.Proofs.Ytegfjedklebbfaa
end
