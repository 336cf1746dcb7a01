/-
  Walks in the abstract reading, part 9.
-/
import Derived.Test.YtikadoicplnkgaaGreatKeU7
import Derived.Test.YtikadoicplnkgaaGreatKeU5
import Derived.Test.YtikadoicplnkgaaGreatKeU8
import Derived.Test.YtikadoicplnkgaaGreatKeU3
section
namespace Go.Proofs.YtikadoicplnkgaaGreat
set_option linter.unusedSimpArgs false
set_option linter.unusedVariables false
open Go Go.RowKit
attribute [local irreducible] AL AD AW OpOk Le AC thenQ blockQ EndQ

def badM (n : Int) (r : List Int) : Bool := !(decide ((r.length : Int) = n)) || !(r.all isVal)
def colN (t : List (List Int)) : Nat := (t.headD []).length
def isMat (t : List (List Int)) : Bool := decide (1 ≤ t.length ∧ t.length ≤ 10 ∧ 1 ≤ colN t ∧ colN t ≤ 10) && !(t.any (badM (colN t)))
def isSq (t : List (List Int)) : Bool := isMat t && decide ((t.length : Int) = colN t)
theorem isVal_iff {a : Int} : isVal a = true ↔ a = BOT ∨ (-1000000 ≤ a ∧ a ≤ 1000000) := by
  unfold isVal
  rw [Bool.or_eq_true, decide_eq_true_eq, wi_iff]
theorem isSq_ok {t : List (List Int)} (h : isSq t = true) : MatOk t t.length := by
  unfold isSq isMat at h
  rw [Bool.and_eq_true, Bool.and_eq_true, decide_eq_true_eq, decide_eq_true_eq, Bool.not_eq_true', List.any_eq_false] at h
  obtain ⟨⟨⟨h1, h2, h3, h4⟩, h5⟩, h6⟩ := h
  have hrow : ∀ r ∈ t, r.length = t.length ∧ ∀ x ∈ r, isVal x = true := fun r hr => by
    have := h5 r hr
    unfold badM at this
    simp only [Bool.not_eq_true, Bool.or_eq_false_iff, Bool.not_eq_false', decide_eq_true_eq, List.all_eq_true] at this
    exact ⟨by omega, this.2⟩
  refine ⟨⟨rfl, fun r hr => (hrow r hr).1⟩, h1, h2, fun u v hne => ?_⟩
  unfold entN at hne ⊢
  by_cases hv : v < t.length
  · rw [List.getElem?_eq_getElem hv, Option.getD_some] at hne ⊢
    by_cases hu : u < t[v].length
    · rw [List.getElem?_eq_getElem hu, Option.getD_some] at hne ⊢
      have := isVal_iff.1 ((hrow _ (List.getElem_mem hv)).2 _ (List.getElem_mem hu))
      exact this.resolve_left hne
    · rw [show t[v][u]? = none from List.getElem?_eq_none (by omega)]; simp
  · rw [show t[v]? = none from List.getElem?_eq_none (by omega)]; simp
abbrev hs1 (x : D) : HL := [(⟨0, []⟩, ⟨0, []⟩, ⟨1, [[.d x]]⟩)]
theorem hs1_ok {x : D} : HOk (hs1 x) := by
  intro p hp r hr c hc
  simp at hp; subst hp; simp at hr; subst hr; simp at hc; subst hc; exact .d _
theorem isMatFn_ac (t : List (List Int)) (r0 r : List Int) (h0 : t[0]? = some r0) (hr : r.length ≤ 100000000) : AC Tryz.prog 142 [IL r, Bx 1 0] (heapL (hs1 (TD t))) (Bo (badM r0.length r)) (heapL (hs1 (TD t))) := by
  have hRr : (mRows 1 (TR t))[(0 : Int).toNat]? = some [.sl 1 (IR r0)] := TR_get h0
  have hA := areValues_ac r hr
  refine AC.of_body 1 Tryz.func142 rfl (fun l h => by simp [heapL, upd] at h; simp [h]) (fun C hC => ?_)
  simp only [startFr, Tryz.ntmps142, List.length_cons, List.length_nil, Nat.reduceAdd, Nat.reduceSub, List.replicate_succ, List.replicate_zero, List.cons_append, List.nil_append]
  have hD : ∀ l, C.D0 l → l = ⟨0, []⟩ := fun l h => by have := (hC l).1 h; simp [heapL, upd] at this; exact this
  repeat' (first | ((first | apply Ba | (apply Bb; (· rfl); (· rfl)) | (apply Bc; (· exact nxE)) | (apply Bd; (· rfl); (· rfl); (· exact nxE))); (· first | exact Kz rfl rfl (hA) (Ad An) | exact Ok.pe)) | ((first | apply Ca | (apply Cb; (· exact nxE))); (· first | exact Ok.e0)) | refine Sx ?_ | (refine Sy (fun h => ?_) (fun h => ?_) <;> try (exfalso; omega; done)) | refine Sz (fun h => ?_) (fun h => ?_))
  all_goals
    (refine end1p (by first | exact .inl rfl | exact .inr rfl) rfl (by first | exact rT rfl | exact rCA rfl rfl rfl rfl (by simp) | exact rCC rfl rfl rfl rfl rfl) ?_ (Le.head ([(⟨0, []⟩, ⟨0, []⟩, ⟨1, [[TL t]]⟩)]) (by first | exact fun l h => absurd h (hD l) | (intro l h; rcases hD l h with rfl; simp [tauL]) | (intro l h; rcases hD l h with rfl | rfl <;> simp [tauL]; done) | (intro l h; rcases hD l h with rfl | rfl | rfl <;> simp [tauL])) ?_ ?_ (by simp) (by simp) (by simp [AllP]) (n' := 1000)); (· (unfold badM; simp_all; done))) <;> (repeat' (first | exact trivial | exact ARs.nil | refine ARs.cons ?_ ?_ | exact AR.dead _ | exact AR.dd _ | exact AR.i (by (try dsimp only); omega) | exact AR.ptr _ _ _ _ (by simp [heapL, upd]) | exact AR.own _ _ _ _ (by simp [heapL, upd]) | refine AR.ownE _ _ _ ?_ (by simp [heapL, upd]) | refine ⟨⟨_, rfl, ?_⟩, ?_⟩ | exact ObA.data | refine ObA.box ?_ | refine ObA.frE ?_ | refine ObA.dataE ?_ | refine ARs.agg ?_ | refine ARs.tup ?_ | exact AR.clo' ARs.nil ARs.nil | exact AR.clo' ARs.nil (hca _ _)))
set_option maxHeartbeats 1000000 in
theorem iIsMatrix_ac (t : List (List Int)) (ht : t.length ≤ 100000000) (hr : ∀ r ∈ t, r.length ≤ 100000000) : AC Tryz.prog 94 [TL t] H0 (Bo (isMat t)) H0 := by
  by_cases g1 : 1 ≤ t.length ∧ t.length ≤ 10
  case neg =>
    have hW := within_ac t.length 1 10
    rw [show wi (t.length : Int) 1 10 = false by rw [Bool.eq_false_iff]; intro h; rw [wi_iff] at h; omega] at hW
    have hI : isMat t = false := by unfold isMat; rw [decide_eq_false (by omega)]; rfl
    rw [hI]
    refine AC.of_body 0 Tryz.func94 rfl (fun l h => absurd rfl h) (fun C hC => ?_)
    have hD : ∀ l, ¬ C.D0 l := fun l h => (hC l).1 h rfl
    simp only [startFr, Tryz.ntmps94, List.length_cons, List.length_nil, Nat.reduceAdd, Nat.reduceSub, List.replicate_succ, List.replicate_zero, List.cons_append, List.nil_append]
    repeat' (first | ((first | apply Ba | (apply Bb; (· rfl); (· rfl)) | (apply Bc; (· exact nxE)) | (apply Bd; (· rfl); (· rfl); (· exact nxE))); (· first | exact Kz rfl rfl (hW) (Ad (Ad (Ad An))) | exact Ok.pe)) | ((first | apply Ca | (apply Cb; (· exact nxE))); (· first | exact Ok.e0)) | refine Sx ?_ | (refine Sy (fun h => ?_) (fun h => ?_) <;> try (exfalso; omega; done)) | refine Sz (fun h => ?_) (fun h => ?_))
    refine Ya ?_
    (apply Le.headZ (hs := []) [] rfl)
    all_goals (try dsimp only [srcs])
    (case' hfr => (repeat' (first | refine La ?_ ?_ | exact Lc | refine Lo ?_ | refine ⟨⟨_, rfl, ?_⟩, ?_⟩ | refine Lx ?_)))
    all_goals (first | exact Ld | exact trivial | (rfl))
  obtain ⟨r0, h0⟩ : ∃ r0, t[0]? = some r0 := ⟨t[0]'(by omega), List.getElem?_eq_getElem (by omega)⟩
  have hcol : colN t = r0.length := by
    unfold colN
    cases t with
    | nil => simp at h0
    | cons a q => simp at h0; subst h0; rfl
  have hRr : (mRows 1 (TR t))[(0 : Int).toNat]? = some [.sl 1 (IR r0)] := TR_get h0
  have hW := within_ac t.length 1 10
  rw [show wi (t.length : Int) 1 10 = true from wi_iff.2 (by omega)] at hW
  have hV := within_ac r0.length 1 10
  by_cases g2 : 1 ≤ r0.length ∧ r0.length ≤ 10
  case neg =>
    rw [show wi (r0.length : Int) 1 10 = false by rw [Bool.eq_false_iff]; intro h; rw [wi_iff] at h; omega] at hV
    have hI : isMat t = false := by unfold isMat; rw [hcol, decide_eq_false (by omega)]; rfl
    rw [hI]
    refine AC.of_body 0 Tryz.func94 rfl (fun l h => absurd rfl h) (fun C hC => ?_)
    have hD : ∀ l, ¬ C.D0 l := fun l h => (hC l).1 h rfl
    simp only [startFr, Tryz.ntmps94, List.length_cons, List.length_nil, Nat.reduceAdd, Nat.reduceSub, List.replicate_succ, List.replicate_zero, List.cons_append, List.nil_append]
    repeat' (first | ((first | apply Ba | (apply Bb; (· rfl); (· rfl)) | (apply Bc; (· exact nxE)) | (apply Bd; (· rfl); (· rfl); (· exact nxE))); (· first | exact Kz rfl rfl (hV) (Ad (Ad (Ad An))) | exact Kz rfl rfl (hW) (Ad (Ad (Ad An))) | exact Ok.pe)) | ((first | apply Ca | (apply Cb; (· exact nxE))); (· first | exact Ok.e0)) | refine Sx ?_ | (refine Sy (fun h => ?_) (fun h => ?_) <;> try (exfalso; omega; done)) | refine Sz (fun h => ?_) (fun h => ?_))
    refine Ya ?_
    (apply Le.headZ (hs := []) [] rfl)
    all_goals (try dsimp only [srcs])
    (case' hfr => (repeat' (first | refine La ?_ ?_ | exact Lc | refine Lo ?_ | refine ⟨⟨_, rfl, ?_⟩, ?_⟩ | refine Lx ?_)))
    all_goals (first | exact Ld | exact trivial | (rfl))
  rw [show wi (r0.length : Int) 1 10 = true from wi_iff.2 (by omega)] at hV
  have hc := containsFuncT_ac t ht 142 [Bx 1 0] (hs1 (TD t)) (by simp) (by simp) hs1_ok
    (by intro c hc; simp at hc; subst hc; exact .ptr _ _ _ _ (by simp)) 1 (by simp) (badM r0.length) (fun r h => isMatFn_ac t r0 r h0 (hr r h))
  have hI : isMat t = !(t.any (badM r0.length)) := by unfold isMat; rw [hcol, decide_eq_true (by omega), Bool.true_and]
  rw [hI]
  refine AC.of_body 0 Tryz.func94 rfl (fun l h => absurd rfl h) (fun C hC => ?_)
  have hD : ∀ l, ¬ C.D0 l := fun l h => (hC l).1 h rfl
  simp only [startFr, Tryz.ntmps94, List.length_cons, List.length_nil, Nat.reduceAdd, Nat.reduceSub, List.replicate_succ, List.replicate_zero, List.cons_append, List.nil_append]
  repeat' (first | ((first | apply Ba | (apply Bb; (· rfl); (· rfl)) | (apply Bc; (· exact nxE)) | (apply Bd; (· rfl); (· rfl); (· exact nxE))); (· first | exact Kz rfl rfl (hV) (Ad (Ad (Ad An))) | exact Kz rfl rfl (hW) (Ad (Ad (Ad An))) | exact OpOk.callS _ rfl rfl hc (by simp [heapL, upd, upds, W.app]) hs1_ok (.d _) (.cons (.dd _) (.cons (AR.clo' .nil (.cons (AR.ptr _ _ _ _ (by simp)) .nil)) .nil)) | exact Ok.pe)) | ((first | apply Ca | (apply Cb; (· exact nxE))); (· first | exact Ok.e0)) | refine Sx ?_ | (refine Sy (fun h => ?_) (fun h => ?_) <;> try (exfalso; omega; done)) | refine Sz (fun h => ?_) (fun h => ?_))
  refine Ya ?_
  (apply Le.headZ (hs := []) [] rfl)
  all_goals (try dsimp only [srcs])
  (case' hfr => (repeat' (first | refine La ?_ ?_ | exact Lc | refine Lo ?_ | refine ⟨⟨_, rfl, ?_⟩, ?_⟩ | refine Lx ?_)))
  all_goals (first | exact Ld | exact trivial | (rfl))
theorem isMat_row {t : List (List Int)} (h : isMat t = true) : ∃ r0, t[0]? = some r0 ∧ colN t = r0.length := by
  cases t with
  | nil => simp [isMat] at h
  | cons a q => exact ⟨a, rfl, rfl⟩
theorem iIsSquare_ac (t : List (List Int)) (ht : t.length ≤ 100000000) (hr : ∀ r ∈ t, r.length ≤ 100000000) : AC Tryz.prog 41 [TL t] H0 (Bo (isSq t)) H0 := by
  have hM := iIsMatrix_ac t ht hr
  unfold isSq
  cases hm : isMat t
  · rw [hm] at hM
    refine AC.of_body 0 Tryz.func41 rfl (fun l h => absurd rfl h) (fun C hC => ?_)
    have hD : ∀ l, ¬ C.D0 l := fun l h => (hC l).1 h rfl
    simp only [startFr, Tryz.ntmps41, List.length_cons, List.length_nil, Nat.reduceAdd, Nat.reduceSub, List.replicate_succ, List.replicate_zero, List.cons_append, List.nil_append]
    repeat' (first | ((first | apply Ba | (apply Bb; (· rfl); (· rfl)) | (apply Bc; (· exact nxE)) | (apply Bd; (· rfl); (· rfl); (· exact nxE))); (· first | exact Kz rfl rfl (hM) (Ad An) | exact Ok.pe)) | ((first | apply Ca | (apply Cb; (· exact nxE))); (· first | exact Ok.e0)) | refine Sx ?_ | (refine Sy (fun h => ?_) (fun h => ?_) <;> try (exfalso; omega; done)) | refine Sz (fun h => ?_) (fun h => ?_))
    refine Ya ?_
    (apply Le.headZ (hs := []) [] rfl)
    all_goals (try dsimp only [srcs])
    (case' hfr => (repeat' (first | refine La ?_ ?_ | exact Lc | refine Lo ?_ | refine ⟨⟨_, rfl, ?_⟩, ?_⟩ | refine Lx ?_)))
    all_goals (first | exact Ld | exact trivial | (rfl))
  · rw [hm] at hM
    obtain ⟨r0, h0, hcol⟩ := isMat_row hm
    have hRr : (mRows 1 (TR t))[(0 : Int).toNat]? = some [.sl 1 (IR r0)] := TR_get h0
    rw [hcol]
    refine AC.of_body 0 Tryz.func41 rfl (fun l h => absurd rfl h) (fun C hC => ?_)
    have hD : ∀ l, ¬ C.D0 l := fun l h => (hC l).1 h rfl
    simp only [startFr, Tryz.ntmps41, List.length_cons, List.length_nil, Nat.reduceAdd, Nat.reduceSub, List.replicate_succ, List.replicate_zero, List.cons_append, List.nil_append]
    repeat' (first | ((first | apply Ba | (apply Bb; (· rfl); (· rfl)) | (apply Bc; (· exact nxE)) | (apply Bd; (· rfl); (· rfl); (· exact nxE))); (· first | exact Kz rfl rfl (hM) (Ad An) | exact Ok.pe)) | ((first | apply Ca | (apply Cb; (· exact nxE))); (· first | exact Ok.e0)) | refine Sx ?_ | (refine Sy (fun h => ?_) (fun h => ?_) <;> try (exfalso; omega; done)) | refine Sz (fun h => ?_) (fun h => ?_))
    all_goals
      refine Ya ?_
      (apply Le.headZ (hs := []) [] rfl)
      all_goals (try dsimp only [srcs])
      (case' hfr => (repeat' (first | refine La ?_ ?_ | exact Lc | refine Lo ?_ | refine ⟨⟨_, rfl, ?_⟩, ?_⟩ | refine Lx ?_)))
      all_goals (first | exact Ld | exact trivial | (rfl))
theorem l01AllF_ac (xs : List Int) (hn : xs.length ≤ 100000000) : AC Tryz.prog 108 [IL xs, Bo false] H0 (Bo (xs.all isVal)) H0 := by
  refine AC.of_body 0 Tryz.func108 rfl (fun l h => absurd rfl h) (fun C hC => ?_)
  have hD : ∀ l, ¬ C.D0 l := fun l h => (hC l).1 h rfl
  simp only [startFr, Tryz.ntmps108, List.length_cons, List.length_nil, Nat.reduceAdd, Nat.reduceSub, List.replicate_succ, List.replicate_zero, List.cons_append, List.nil_append]
  repeat' (first | ((first | apply Ba | (apply Bb; (· rfl); (· rfl)) | (apply Bc; (· exact nxE)) | (apply Bd; (· rfl); (· rfl); (· exact nxE))); (· first | exact Ok.pe)) | ((first | apply Ca | (apply Cb; (· exact nxE))); (· first | exact Ok.e0)) | refine Sx ?_ | (refine Sy (fun h => ?_) (fun h => ?_) <;> try (exfalso; omega; done)) | refine Sz (fun h => ?_) (fun h => ?_))
  refine AW.loop (X := {k : Nat // k ≤ xs.length ∧ xs.all isVal = (xs.drop k).all isVal}) (fun k => ⟨[IL xs, Bo false, Oo, Oo, Oo, I (k.1 : Nat), Oo, Oo, Oo, Oo, Oo, Oo, Oo, Oo, Oo, Oo, Oo, Oo, Oo, Oo, Oo, Oo, Oo, Oo, Oo, Oo, Oo, Oo], heapL [], 900⟩) (fun k => xs.length - k.1) ⟨0, Nat.zero_le _, by simp⟩ ?_ (fun k => ?_)
  ·
    (apply Le.headZ [] rfl)
    all_goals (try dsimp only [srcs])
    (case' hfr | hob => (repeat' (first | refine La ?_ ?_ | exact Lc | refine Lo ?_ | refine ⟨⟨_, rfl, ?_⟩, ?_⟩ | refine Lx ?_)))
    all_goals (first | (rfl) | exact Ld)
  obtain ⟨k, hk, hall⟩ := k
  simp only
  by_cases hlt : k < xs.length
  · obtain ⟨x, hx⟩ : ∃ x, xs[k]? = some x := ⟨xs[k], by simp⟩
    have hrow := IR_get hx
    have hV := sIsValue_ac x
    have hno := fun h => all_no (f := isVal) hx h
    have hyes := fun h => all_step (f := isVal) hx hall h
    cases hvx : isVal x
    · rw [hvx] at hV
      rw [hno hvx]
      repeat' (first | ((first | apply Ba | (apply Bb; (· rfl); (· rfl)) | (apply Bc; (· exact nxE)) | (apply Bd; (· rfl); (· rfl); (· exact nxE))); (· first | exact Kz rfl rfl (hV) (Ad An) | exact Ok.pe)) | ((first | apply Ca | (apply Cb; (· exact nxE))); (· first | exact Ok.e0)) | refine Sx ?_ | (refine Sy (fun h => ?_) (fun h => ?_) <;> try (exfalso; omega; done)) | refine Sz (fun h => ?_) (fun h => ?_))
      refine Ya ?_
      (apply Le.headZ (hs := []) [] rfl)
      all_goals (try dsimp only [srcs])
      (case' hfr => (repeat' (first | refine La ?_ ?_ | exact Lc | refine Lo ?_ | refine ⟨⟨_, rfl, ?_⟩, ?_⟩ | refine Lx ?_)))
      all_goals (first | exact Ld | exact trivial | (rfl))
    · rw [hvx] at hV
      have hy := hyes hvx
      repeat' (first | ((first | apply Ba | (apply Bb; (· rfl); (· rfl)) | (apply Bc; (· exact nxE)) | (apply Bd; (· rfl); (· rfl); (· exact nxE))); (· first | exact Kz rfl rfl (hV) (Ad An) | exact Ok.pe)) | ((first | apply Ca | (apply Cb; (· exact nxE))); (· first | exact Ok.e0)) | refine Sx ?_ | (refine Sy (fun h => ?_) (fun h => ?_) <;> try (exfalso; omega; done)) | refine Sz (fun h => ?_) (fun h => ?_))
      refine ⟨⟨k + 1, by omega, hy⟩, ?_, by simp only; omega⟩
      (apply Le.headZ [] rfl)
      all_goals (try dsimp only [srcs])
      (case' hfr | hob => (repeat' (first | refine La ?_ ?_ | exact Lc | refine Lo ?_ | refine ⟨⟨_, rfl, ?_⟩, ?_⟩ | refine Lx ?_)))
      all_goals (first | (rfl) | exact Ld)
  · have hk' : k = xs.length := by omega
    rw [hk', List.drop_length] at hall
    rw [hall, List.all_nil]
    repeat' (first | ((first | apply Ba | (apply Bb; (· rfl); (· rfl)) | (apply Bc; (· exact nxE)) | (apply Bd; (· rfl); (· rfl); (· exact nxE))); (· first | exact Ok.pe)) | ((first | apply Ca | (apply Cb; (· exact nxE))); (· first | exact Ok.e0)) | refine Sx ?_ | (refine Sy (fun h => ?_) (fun h => ?_) <;> try (exfalso; omega; done)) | refine Sz (fun h => ?_) (fun h => ?_))
    refine Ya ?_
    (apply Le.headZ (hs := []) [] rfl)
    all_goals (try dsimp only [srcs])
    (case' hfr => (repeat' (first | refine La ?_ ?_ | exact Lc | refine Lo ?_ | refine ⟨⟨_, rfl, ?_⟩, ?_⟩ | refine Lx ?_)))
    all_goals (first | exact Ld | exact trivial | (rfl))
def isVec (r : List Int) : Bool := wi (r.length : Int) 1 10 && r.all isVal
theorem l02Vector_ac (r : List Int) (hr : r.length ≤ 100000000) : AC Tryz.prog 63 [IL r] H0 (Bo (isVec r)) H0 := by
  have hI := l01In_ac r.length 1 10
  have hA := l01AllF_ac r hr
  unfold isVec
  cases hw : wi (r.length : Int) 1 10
  · rw [hw] at hI
    refine AC.of_body 0 Tryz.func63 rfl (fun l h => absurd rfl h) (fun C hC => ?_)
    have hD : ∀ l, ¬ C.D0 l := fun l h => (hC l).1 h rfl
    simp only [startFr, Tryz.ntmps63, List.length_cons, List.length_nil, Nat.reduceAdd, Nat.reduceSub, List.replicate_succ, List.replicate_zero, List.cons_append, List.nil_append]
    repeat' (first | ((first | apply Ba | (apply Bb; (· rfl); (· rfl)) | (apply Bc; (· exact nxE)) | (apply Bd; (· rfl); (· rfl); (· exact nxE))); (· first | exact Kz rfl rfl (hI) (Ad (Ad (Ad An))) | exact Kz rfl rfl (hA) (Ad (Ad An)) | exact Ok.pe)) | ((first | apply Ca | (apply Cb; (· exact nxE))); (· first | exact Ok.e0)) | refine Sx ?_ | (refine Sy (fun h => ?_) (fun h => ?_) <;> try (exfalso; omega; done)) | refine Sz (fun h => ?_) (fun h => ?_))
    refine Ya ?_
    (apply Le.headZ (hs := []) [] rfl)
    all_goals (try dsimp only [srcs])
    (case' hfr => (repeat' (first | refine La ?_ ?_ | exact Lc | refine Lo ?_ | refine ⟨⟨_, rfl, ?_⟩, ?_⟩ | refine Lx ?_)))
    all_goals (first | exact Ld | exact trivial | (rfl))
  · rw [hw] at hI
    refine AC.of_body 0 Tryz.func63 rfl (fun l h => absurd rfl h) (fun C hC => ?_)
    have hD : ∀ l, ¬ C.D0 l := fun l h => (hC l).1 h rfl
    simp only [startFr, Tryz.ntmps63, List.length_cons, List.length_nil, Nat.reduceAdd, Nat.reduceSub, List.replicate_succ, List.replicate_zero, List.cons_append, List.nil_append]
    repeat' (first | ((first | apply Ba | (apply Bb; (· rfl); (· rfl)) | (apply Bc; (· exact nxE)) | (apply Bd; (· rfl); (· rfl); (· exact nxE))); (· first | exact Kz rfl rfl (hI) (Ad (Ad (Ad An))) | exact Kz rfl rfl (hA) (Ad (Ad An)) | exact Ok.pe)) | ((first | apply Ca | (apply Cb; (· exact nxE))); (· first | exact Ok.e0)) | refine Sx ?_ | (refine Sy (fun h => ?_) (fun h => ?_) <;> try (exfalso; omega; done)) | refine Sz (fun h => ?_) (fun h => ?_))
    refine Ya ?_
    (apply Le.headZ (hs := []) [] rfl)
    all_goals (try dsimp only [srcs])
    (case' hfr => (repeat' (first | refine La ?_ ?_ | exact Lc | refine Lo ?_ | refine ⟨⟨_, rfl, ?_⟩, ?_⟩ | refine Lx ?_)))
    all_goals (first | exact Ld | exact trivial | (rfl))
def okM (n : Nat) (r : List Int) : Bool := isVec r && decide ((r.length : Int) = n)
theorem isMat_all {t : List (List Int)} : isMat t = (decide (1 ≤ t.length ∧ t.length ≤ 10) && t.all (okM (colN t))) := by
  cases t with
  | nil => rfl
  | cons a q =>
    have hcol : colN (a :: q) = a.length := rfl
    rw [Bool.eq_iff_iff]
    unfold isMat
    rw [hcol]
    simp only [Bool.and_eq_true, decide_eq_true_eq, Bool.not_eq_true', List.any_eq_false, List.all_eq_true]
    constructor
    · rintro ⟨⟨h1, h2, h3, h4⟩, h5⟩
      refine ⟨⟨h1, h2⟩, fun r hr => ?_⟩
      have := h5 r hr
      unfold badM at this
      simp only [Bool.not_eq_true, Bool.or_eq_false_iff, Bool.not_eq_false', decide_eq_true_eq] at this
      unfold okM isVec
      rw [this.2, decide_eq_true this.1, Bool.and_true, Bool.and_true]
      exact wi_iff.2 (by omega)
    · rintro ⟨⟨h1, h2⟩, h5⟩
      have ha := h5 a (by simp)
      unfold okM isVec at ha
      simp only [Bool.and_eq_true, wi_iff] at ha
      refine ⟨⟨h1, h2, by omega, by omega⟩, fun r hr => ?_⟩
      have := h5 r hr
      unfold okM isVec at this
      simp only [Bool.and_eq_true, decide_eq_true_eq] at this
      unfold badM
      rw [this.1.2, decide_eq_true this.2]
      simp
set_option maxHeartbeats 1000000 in
theorem sIsMatrix_ac (t : List (List Int)) (ht : t.length ≤ 100000000) (hr : ∀ r ∈ t, r.length ≤ 100000000) : AC Tryz.prog 112 [TL t] H0 (Bo (isMat t)) H0 := by
  by_cases g1 : 1 ≤ t.length ∧ t.length ≤ 10
  case neg =>
    have hI : isMat t = false := by unfold isMat; rw [decide_eq_false (by omega)]; rfl
    rw [hI]
    refine AC.of_body 0 Tryz.func112 rfl (fun l h => absurd rfl h) (fun C hC => ?_)
    have hD : ∀ l, ¬ C.D0 l := fun l h => (hC l).1 h rfl
    simp only [startFr, Tryz.ntmps112, List.length_cons, List.length_nil, Nat.reduceAdd, Nat.reduceSub, List.replicate_succ, List.replicate_zero, List.cons_append, List.nil_append]
    repeat' (first | ((first | apply Ba | (apply Bb; (· rfl); (· rfl)) | (apply Bc; (· exact nxE)) | (apply Bd; (· rfl); (· rfl); (· exact nxE))); (· first | exact Ok.pe)) | ((first | apply Ca | (apply Cb; (· exact nxE))); (· first | exact Ok.e0)) | refine Sx ?_ | (refine Sy (fun h => ?_) (fun h => ?_) <;> try (exfalso; omega; done)) | refine Sz (fun h => ?_) (fun h => ?_))
    all_goals
      refine Ya ?_
      (apply Le.headZ (hs := []) [] rfl)
      all_goals (try dsimp only [srcs])
      (case' hfr => (repeat' (first | refine La ?_ ?_ | exact Lc | refine Lo ?_ | refine ⟨⟨_, rfl, ?_⟩, ?_⟩ | refine Lx ?_)))
      all_goals (first | exact Ld | exact trivial | (rfl))
  obtain ⟨r0, h0⟩ : ∃ r0, t[0]? = some r0 := ⟨t[0]'(by omega), List.getElem?_eq_getElem (by omega)⟩
  have hcol : colN t = r0.length := by
    unfold colN
    cases t with
    | nil => simp at h0
    | cons a q => simp at h0; subst h0; rfl
  have hRr : (mRows 1 (TR t))[(0 : Int).toNat]? = some [.sl 1 (IR r0)] := TR_get h0
  have hI : isMat t = t.all (okM r0.length) := by rw [isMat_all, hcol, decide_eq_true g1, Bool.true_and]
  rw [hI]
  refine AC.of_body 0 Tryz.func112 rfl (fun l h => absurd rfl h) (fun C hC => ?_)
  have hD : ∀ l, ¬ C.D0 l := fun l h => (hC l).1 h rfl
  simp only [startFr, Tryz.ntmps112, List.length_cons, List.length_nil, Nat.reduceAdd, Nat.reduceSub, List.replicate_succ, List.replicate_zero, List.cons_append, List.nil_append]
  repeat' (first | ((first | apply Ba | (apply Bb; (· rfl); (· rfl)) | (apply Bc; (· exact nxE)) | (apply Bd; (· rfl); (· rfl); (· exact nxE))); (· first | exact Ok.pe)) | ((first | apply Ca | (apply Cb; (· exact nxE))); (· first | exact Ok.e0)) | refine Sx ?_ | (refine Sy (fun h => ?_) (fun h => ?_) <;> try (exfalso; omega; done)) | refine Sz (fun h => ?_) (fun h => ?_))
  refine AW.loop (X := {k : Nat // k ≤ t.length ∧ t.all (okM r0.length) = (t.drop k).all (okM r0.length)}) (fun k => ⟨[TL t, Oo, Oo, I (k.1 : Nat), Oo, Oo, Oo, Oo, Oo, Oo, Oo, Oo, Oo, Oo, Oo, Oo, Oo, Oo, Oo, Oo, Oo, Oo, Oo, Oo, Oo, Oo, Oo, Oo, Oo, Oo, Oo, Oo, Oo, Oo, Oo, Oo], heapL [], 900⟩) (fun k => t.length - k.1) ⟨0, Nat.zero_le _, by simp⟩ ?_ (fun k => ?_)
  ·
    (apply Le.headZ [] rfl)
    all_goals (try dsimp only [srcs])
    (case' hfr | hob => (repeat' (first | refine La ?_ ?_ | exact Lc | refine Lo ?_ | refine ⟨⟨_, rfl, ?_⟩, ?_⟩ | refine Lx ?_)))
    all_goals (first | (rfl) | exact Ld)
  obtain ⟨k, hk, hall⟩ := k
  simp only
  by_cases hlt : k < t.length
  · obtain ⟨r, hx⟩ : ∃ r, t[k]? = some r := ⟨t[k], by simp⟩
    have hrow := TR_get hx
    have hV := l02Vector_ac r (hr r (List.mem_of_getElem? hx))
    have hno := fun h => all_no (f := okM r0.length) hx h
    have hyes := fun h => all_step (f := okM r0.length) hx hall h
    cases hvx : isVec r
    · rw [hvx] at hV
      rw [hno (by unfold okM; rw [hvx]; rfl)]
      repeat' (first | ((first | apply Ba | (apply Bb; (· rfl); (· rfl)) | (apply Bc; (· exact nxE)) | (apply Bd; (· rfl); (· rfl); (· exact nxE))); (· first | exact Kz rfl rfl (hV) (Ad An) | exact Ok.pe)) | ((first | apply Ca | (apply Cb; (· exact nxE))); (· first | exact Ok.e0)) | refine Sx ?_ | (refine Sy (fun h => ?_) (fun h => ?_) <;> try (exfalso; omega; done)) | refine Sz (fun h => ?_) (fun h => ?_))
      refine Ya ?_
      (apply Le.headZ (hs := []) [] rfl)
      all_goals (try dsimp only [srcs])
      (case' hfr => (repeat' (first | refine La ?_ ?_ | exact Lc | refine Lo ?_ | refine ⟨⟨_, rfl, ?_⟩, ?_⟩ | refine Lx ?_)))
      all_goals (first | exact Ld | exact trivial | (rfl))
    · rw [hvx] at hV
      by_cases hb : r.length = r0.length
      · have hy := hyes (by unfold okM; rw [hvx, decide_eq_true (by omega)]; rfl)
        repeat' (first | ((first | apply Ba | (apply Bb; (· rfl); (· rfl)) | (apply Bc; (· exact nxE)) | (apply Bd; (· rfl); (· rfl); (· exact nxE))); (· first | exact Kz rfl rfl (hV) (Ad An) | exact Ok.pe)) | ((first | apply Ca | (apply Cb; (· exact nxE))); (· first | exact Ok.e0)) | refine Sx ?_ | (refine Sy (fun h => ?_) (fun h => ?_) <;> try (exfalso; omega; done)) | refine Sz (fun h => ?_) (fun h => ?_))
        refine ⟨⟨k + 1, by omega, hy⟩, ?_, by simp only; omega⟩
        (apply Le.headZ [] rfl)
        all_goals (try dsimp only [srcs])
        (case' hfr | hob => (repeat' (first | refine La ?_ ?_ | exact Lc | refine Lo ?_ | refine ⟨⟨_, rfl, ?_⟩, ?_⟩ | refine Lx ?_)))
        all_goals (first | (rfl) | exact Ld)
      · rw [hno (by unfold okM; rw [hvx, decide_eq_false (by omega)]; rfl)]
        repeat' (first | ((first | apply Ba | (apply Bb; (· rfl); (· rfl)) | (apply Bc; (· exact nxE)) | (apply Bd; (· rfl); (· rfl); (· exact nxE))); (· first | exact Kz rfl rfl (hV) (Ad An) | exact Ok.pe)) | ((first | apply Ca | (apply Cb; (· exact nxE))); (· first | exact Ok.e0)) | refine Sx ?_ | (refine Sy (fun h => ?_) (fun h => ?_) <;> try (exfalso; omega; done)) | refine Sz (fun h => ?_) (fun h => ?_))
        refine Ya ?_
        (apply Le.headZ (hs := []) [] rfl)
        all_goals (try dsimp only [srcs])
        (case' hfr => (repeat' (first | refine La ?_ ?_ | exact Lc | refine Lo ?_ | refine ⟨⟨_, rfl, ?_⟩, ?_⟩ | refine Lx ?_)))
        all_goals (first | exact Ld | exact trivial | (rfl))
  · have hk' : k = t.length := by omega
    rw [hk', List.drop_length] at hall
    rw [hall, List.all_nil]
    repeat' (first | ((first | apply Ba | (apply Bb; (· rfl); (· rfl)) | (apply Bc; (· exact nxE)) | (apply Bd; (· rfl); (· rfl); (· exact nxE))); (· first | exact Ok.pe)) | ((first | apply Ca | (apply Cb; (· exact nxE))); (· first | exact Ok.e0)) | refine Sx ?_ | (refine Sy (fun h => ?_) (fun h => ?_) <;> try (exfalso; omega; done)) | refine Sz (fun h => ?_) (fun h => ?_))
    refine Ya ?_
    (apply Le.headZ (hs := []) [] rfl)
    all_goals (try dsimp only [srcs])
    (case' hfr => (repeat' (first | refine La ?_ ?_ | exact Lc | refine Lo ?_ | refine ⟨⟨_, rfl, ?_⟩, ?_⟩ | refine Lx ?_)))
    all_goals (first | exact Ld | exact trivial | (rfl))
theorem l02Square_ac (t : List (List Int)) (ht : t.length ≤ 100000000) (hr : ∀ r ∈ t, r.length ≤ 100000000) : AC Tryz.prog 53 [TL t] H0 (Bo (isSq t)) H0 := by
  have hM := sIsMatrix_ac t ht hr
  unfold isSq
  cases hm : isMat t
  · rw [hm] at hM
    refine AC.of_body 0 Tryz.func53 rfl (fun l h => absurd rfl h) (fun C hC => ?_)
    have hD : ∀ l, ¬ C.D0 l := fun l h => (hC l).1 h rfl
    simp only [startFr, Tryz.ntmps53, List.length_cons, List.length_nil, Nat.reduceAdd, Nat.reduceSub, List.replicate_succ, List.replicate_zero, List.cons_append, List.nil_append]
    repeat' (first | ((first | apply Ba | (apply Bb; (· rfl); (· rfl)) | (apply Bc; (· exact nxE)) | (apply Bd; (· rfl); (· rfl); (· exact nxE))); (· first | exact Kz rfl rfl (hM) (Ad An) | exact Ok.pe)) | ((first | apply Ca | (apply Cb; (· exact nxE))); (· first | exact Ok.e0)) | refine Sx ?_ | (refine Sy (fun h => ?_) (fun h => ?_) <;> try (exfalso; omega; done)) | refine Sz (fun h => ?_) (fun h => ?_))
    refine Ya ?_
    (apply Le.headZ (hs := []) [] rfl)
    all_goals (try dsimp only [srcs])
    (case' hfr => (repeat' (first | refine La ?_ ?_ | exact Lc | refine Lo ?_ | refine ⟨⟨_, rfl, ?_⟩, ?_⟩ | refine Lx ?_)))
    all_goals (first | exact Ld | exact trivial | (rfl))
  · rw [hm] at hM
    obtain ⟨r0, h0, hcol⟩ := isMat_row hm
    have hRr : (mRows 1 (TR t))[(0 : Int).toNat]? = some [.sl 1 (IR r0)] := TR_get h0
    rw [hcol]
    refine AC.of_body 0 Tryz.func53 rfl (fun l h => absurd rfl h) (fun C hC => ?_)
    have hD : ∀ l, ¬ C.D0 l := fun l h => (hC l).1 h rfl
    simp only [startFr, Tryz.ntmps53, List.length_cons, List.length_nil, Nat.reduceAdd, Nat.reduceSub, List.replicate_succ, List.replicate_zero, List.cons_append, List.nil_append]
    repeat' (first | ((first | apply Ba | (apply Bb; (· rfl); (· rfl)) | (apply Bc; (· exact nxE)) | (apply Bd; (· rfl); (· rfl); (· exact nxE))); (· first | exact Kz rfl rfl (hM) (Ad An) | exact Ok.pe)) | ((first | apply Ca | (apply Cb; (· exact nxE))); (· first | exact Ok.e0)) | refine Sx ?_ | (refine Sy (fun h => ?_) (fun h => ?_) <;> try (exfalso; omega; done)) | refine Sz (fun h => ?_) (fun h => ?_))
    all_goals
      refine Ya ?_
      (apply Le.headZ (hs := []) [] rfl)
      all_goals (try dsimp only [srcs])
      (case' hfr => (repeat' (first | refine La ?_ ?_ | exact Lc | refine Lo ?_ | refine ⟨⟨_, rfl, ?_⟩, ?_⟩ | refine Lx ?_)))
      all_goals (first | exact Ld | exact trivial | (rfl))
end Go.Proofs.YtikadoicplnkgaaGreat
end

section
namespace Go.Proofs.YtikadoicplnkgaaGreat
set_option linter.unusedSimpArgs false
set_option linter.unusedVariables false
open Go Go.RowKit
attribute [local irreducible] AL AD AW OpOk Le AC thenQ blockQ EndQ

theorem mixF_skip {f g : Nat → Nat → Int} {m n i j : Nat} (h : f i j = g i j) : tabF m n (mixF f g i (j + 1)) = tabF m n (mixF f g i j) := tabF_congr fun a b _ _ => by
  rw [mixF_set]
  by_cases e : a = i ∧ b = j
  · obtain ⟨rfl, rfl⟩ := e
    rw [if_pos ⟨rfl, rfl⟩, mixF_at, h]
  · rw [if_neg e]
theorem sq_tab {t : List (List Int)} {n : Nat} (h : Sq t n) : tabF n n (entN t) = t := by
  apply List.ext_getElem?
  intro i
  by_cases hi : i < n
  · rw [tabF_get hi]
    have hi2 : i < t.length := by rw [h.l]; exact hi
    rw [List.getElem?_eq_getElem hi2]
    congr 1
    have hrl := h.r _ (List.getElem_mem hi2)
    apply List.ext_getElem?
    intro j
    by_cases hj : j < n
    · rw [rowF_get hj]
      unfold entN
      rw [List.getElem?_eq_getElem hi2, Option.getD_some, List.getElem?_eq_getElem (by rw [hrl]; exact hj), Option.getD_some]
    · rw [List.getElem?_eq_none (by rw [rowF_len]; omega), List.getElem?_eq_none (by omega)]
  · rw [List.getElem?_eq_none (by rw [tabF_len]; omega), List.getElem?_eq_none (by rw [h.l]; omega)]
def shT (t : List (List Int)) (n : Nat) (p q : Int) : List (List Int) := tabF n n (shF (entN t) p q)
theorem shT_sq {t : List (List Int)} {n : Nat} {p q : Int} : Sq (shT t n p q) n := ⟨tabF_len, tabF_rc.r⟩
theorem shT_ent {t : List (List Int)} {n : Nat} {p q : Int} {u v : Nat} (hv : v < n) (hu : u < n) : entN (shT t n p q) v u = shF (entN t) p q v u := tabF_ent hv hu
theorem shT_out {t : List (List Int)} {n : Nat} {p q : Int} {u v : Nat} (h : n ≤ v ∨ n ≤ u) : entN (shT t n p q) v u = 0 := by
  unfold shT
  generalize shF (entN t) p q = f
  unfold entN
  by_cases hv : v < n
  · rw [tabF_get hv, Option.getD_some, show (rowF n (f v))[u]? = none from List.getElem?_eq_none (by rw [rowF_len]; omega)]; rfl
  · rw [show (tabF n n f)[v]? = none from List.getElem?_eq_none (by rw [tabF_len]; omega)]; rfl
theorem shT_big {t : List (List Int)} {n : Nat} {p q : Int} (h : MatOk t n) (hp : -10000000 ≤ p ∧ p ≤ 10000000) (hq : 0 < q ∧ q ≤ 10) : bigB (shT t n p q) := fun v u => by
  by_cases hv : v < n
  · by_cases hu : u < n
    · rw [shT_ent hv hu]
      by_cases e : shF (entN t) p q v u = BOT
      · exact .inl e
      · have := sh_bnd h.b hp hq u v e; omega
    · right
      rw [shT_out (.inr (by omega))]; decide
  · right
    rw [shT_out (.inl (by omega))]; decide
theorem mat_big {t : List (List Int)} {n : Nat} (h : MatOk t n) : bigB t := fun v u => by
  by_cases e : entN t v u = BOT
  · exact .inl e
  · have := h.b u v e; omega
set_option maxHeartbeats 4000000 in
theorem l04Shift_ac (t : List (List Int)) (n : Nat) (hM : MatOk t n) (p q : Int) (hp : -10000000 ≤ p ∧ p ≤ 10000000) (hq : 0 < q ∧ q ≤ 10) : AC Tryz.prog 61 [TL t, .agg [I p, I q]] H0 (own1 1 n) (hpM 1 (TR (shT t n p q))) := by
  have hn := hM.le
  have hO := l02Own_ac t (by rw [hM.sq.l]; omega) (fun r hr => by rw [hM.sq.r r hr]; omega)
  have htl := hM.sq.l
  rw [htl] at hO
  have hst := sq_tab hM.sq
  have hlen : (mRows 1 (TR t)).length = n := by rw [mTR_len, htl]
  refine AC.of_body 0 Tryz.func61 rfl (fun l h => absurd rfl h) (fun C hC => ?_)
  have hD : ∀ l, ¬ C.D0 l := fun l h => (hC l).1 h rfl
  simp only [startFr, Tryz.ntmps61, List.length_cons, List.length_nil, Nat.reduceAdd, Nat.reduceSub, List.replicate_succ, List.replicate_zero, List.cons_append, List.nil_append]
  repeat' (first | ((first | apply Ba | (apply Bb; (· rfl); (· rfl)) | (apply Bc; (· exact nxE)) | (apply Bd; (· rfl); (· rfl); (· exact nxE))); (· first | exact Tb rfl rfl (hO) (Sd Sn) | exact Ok.pe)) | ((first | apply Ca | (apply Cb; (· exact nxE))); (· first | exact Tb rfl rfl (hO) (Sd Sn) | exact Ok.e0)) | refine Sx ?_ | (refine Sy (fun h => ?_) (fun h => ?_) <;> try (exfalso; omega; done)) | refine Sz (fun h => ?_) (fun h => ?_))
  refine AW.loop (X := {k : Nat // k ≤ n}) (fun k => ⟨[TL t, Oo, Oo, Bx 2 0, Oo, .own 1 ⟨1, []⟩ 0 n, I (k.1 : Nat), Oo, Oo, Oo, Oo, Oo, Oo, Oo, Oo, Oo, Oo, Oo, Oo, Oo, Oo, Oo, Oo, Oo, Oo, Oo, Oo, Oo, Oo, Oo, Oo, Oo, Oo, Oo, Oo, Oo, Oo, Oo, Oo, Oo, Oo, Oo, Oo, Oo, Oo, Oo, Oo, Oo, Oo, Oo], heapX [(⟨0, []⟩, ⟨0, []⟩, ⟨2, [[I p, I q]]⟩)] [mi1 ⟨1, []⟩ (TR (tabF n n (mixF (shF (entN t) p q) (entN t) k.1 0)))], 900⟩) (fun k => n - k.1) ⟨0, Nat.zero_le _⟩ ?_ (fun k => ?_)
  ·
    (apply Le.headG [_] [{ l := ⟨1, []⟩, k := 1, R := TR (tabF n n (mixF (shF (entN t) p q) (entN t) 0 0)), src := ⟨3, [0]⟩, base := ⟨3, [0]⟩ }] (fun _ => False))
    (case' hlen => rfl)
    (case' hms => rfl)
    all_goals (try dsimp only [srcs])
    (case' hfr | hob => (repeat' (first | refine La ?_ ?_ | exact Lc | refine Lo ?_ | refine ⟨⟨_, rfl, ?_⟩, ?_⟩ | refine Lx ?_)))
    (case' hok => first | exact ⟨by rw [mixF_0, hst]; exact MI.ok_same rfl (Cg), trivial⟩ | exact trivial)
    (case' hN => rfl)
    (case' hS => rfl)
    all_goals (first | exact Ld | (rfl))
  obtain ⟨i, hi⟩ := k
  simp only
  by_cases hlt : i < n
  ·
    repeat' (first | ((first | apply Ba | (apply Bb; (· rfl); (· rfl)) | (apply Bc; (· exact nxE)) | (apply Bd; (· rfl); (· rfl); (· exact nxE))); (· first | exact Ok.lenD rfl rfl hlen | exact Ok.pe)) | ((first | apply Ca | (apply Cb; (· exact nxE))); (· first | exact Ok.e0)) | refine Sx ?_ | (refine Sy (fun h => ?_) (fun h => ?_) <;> try (exfalso; omega; done)) | refine Sz (fun h => ?_) (fun h => ?_))
    refine AW.loop (X := {k : Nat // k ≤ n}) (fun k => ⟨[TL t, Oo, Oo, Bx 2 0, Oo, .own 1 ⟨1, []⟩ 0 n, I i, I (k.1 : Nat), Oo, Oo, Oo, Oo, Oo, Oo, Oo, Oo, Oo, Oo, Oo, Oo, Oo, Oo, Oo, Oo, Oo, Oo, Oo, Oo, Oo, Oo, Oo, Oo, Oo, Oo, Oo, Oo, Oo, Oo, Oo, Oo, Oo, Oo, Oo, Oo, Oo, Oo, Oo, Oo, Oo, Oo], heapX [(⟨0, []⟩, ⟨0, []⟩, ⟨2, [[I p, I q]]⟩)] [mi1 ⟨1, []⟩ (TR (tabF n n (mixF (shF (entN t) p q) (entN t) i k.1)))], 900⟩) (fun k => n - k.1) ⟨0, Nat.zero_le _⟩ ?_ (fun k => ?_)
    ·
      (apply Le.headG [_] [{ l := ⟨1, []⟩, k := 1, R := TR (tabF n n (mixF (shF (entN t) p q) (entN t) i 0)), src := ⟨1, []⟩, base := ⟨1, []⟩ }] (fun _ => False))
      (case' hlen => rfl)
      (case' hms => rfl)
      all_goals (try dsimp only [srcs])
      (case' hfr | hob => (repeat' (first | refine La ?_ ?_ | exact Lc | refine Lo ?_ | refine ⟨⟨_, rfl, ?_⟩, ?_⟩ | refine Lx ?_)))
      (case' hok => first | exact ⟨MI.ok_same rfl (Cg), trivial⟩ | exact trivial)
      (case' hN => rfl)
      (case' hS => rfl)
      all_goals (first | exact Ld | (rfl))
    obtain ⟨j, hj⟩ := k
    simp only
    by_cases hlt2 : j < n
    ·
      obtain ⟨r, hr1, hr2, hr3⟩ := hM.sq.get hlt hlt2
      have hRr := TR_get hr1
      have hRf := IR_get hr2
      have hRl : (IR r).length = n := by rw [IR_len, hr3]
      have hrw := TRF_get (n := n) (f := (mixF (shF (entN t) p q) (entN t) i j)) hlt
      have hlr : (IR (rowF n ((mixF (shF (entN t) p q) (entN t) i j) i))).length = n := by rw [IR_len, rowF_len]
      by_cases hb : entN t i j = BOT
      · have hsk : tabF n n (mixF (shF (entN t) p q) (entN t) i (j + 1)) = tabF n n (mixF (shF (entN t) p q) (entN t) i j) := mixF_skip (by unfold shF; rw [if_pos hb, hb])
        rw [hb] at hRf
        unfold BOT at hRf
        repeat' (first | ((first | apply Ba | (apply Bb; (· rfl); (· rfl)) | (apply Bc; (· exact nxE)) | (apply Bd; (· rfl); (· rfl); (· exact nxE))); (· first | exact Ok.lenD rfl rfl hlen | exact Ok.pe)) | ((first | apply Ca | (apply Cb; (· exact nxE))); (· first | exact Ok.e0)) | refine Sx ?_ | (refine Sy (fun h => ?_) (fun h => ?_) <;> try (exfalso; omega; done)) | refine Sz (fun h => ?_) (fun h => ?_))
        refine ⟨⟨j + 1, by omega⟩, ?_, by simp only; omega⟩
        rw [hsk]
        (apply Le.headG [_] [{ l := ⟨1, []⟩, k := 1, R := TR (tabF n n (mixF (shF (entN t) p q) (entN t) i j)), src := ⟨1, []⟩, base := ⟨1, []⟩ }] (fun _ => False))
        (case' hlen => rfl)
        (case' hms => rfl)
        all_goals (try dsimp only [srcs])
        (case' hfr | hob => (repeat' (first | refine La ?_ ?_ | exact Lc | refine Lo ?_ | refine ⟨⟨_, rfl, ?_⟩, ?_⟩ | refine Lx ?_)))
        (case' hok => first | exact ⟨MI.ok_same rfl (Cg), trivial⟩ | exact trivial)
        (case' hN => rfl)
        (case' hS => rfl)
        all_goals (first | exact Ld | (rfl))
      · have hv : shF (entN t) p q i j = q * entN t i j - p := by unfold shF; rw [if_neg hb]
        have hset : TR (tabF n n (mixF (shF (entN t) p q) (entN t) i (j + 1))) = (TR (tabF n n (mixF (shF (entN t) p q) (entN t) i j))).set i (IR ((rowF n (mixF (shF (entN t) p q) (entN t) i j i)).set j (q * entN t i j - p))) := by
          rw [← hv]; exact tabF_set (fun a b _ _ => mixF_set)
        have hbe := hM.b j i hb
        have hmb := mulB (q := q) (w := entN t i j) (Q := 10) (M := 1000000) (by omega) hq.2 hbe.1 hbe.2 (by decide)
        generalize hW : mixF (shF (entN t) p q) (entN t) i j = Wt at *
        generalize entN t i j = e at *
        unfold BOT at hb
        repeat' (first | ((first | apply Ba | (apply Bb; (· rfl); (· rfl)) | (apply Bc; (· exact nxE)) | (apply Bd; (· rfl); (· rfl); (· exact nxE))); (· first | exact Ok.lenD rfl rfl hlen | exact Ok.ldTn rfl rfl rfl hrw hlr | exact Ok.st1 rfl rfl (congrArg (Option.map (dobj 1)) hrw) (by simp [rowF_len]; omega) (by rw [IRF_get hlt2]; rfl) rfl rfl IR_set | exact Ok.pe)) | ((first | apply Ca | (apply Cb; (· exact nxE))); (· first | exact Ok.st1 rfl rfl (congrArg (Option.map (dobj 1)) hrw) (by simp [rowF_len]; omega) (by rw [IRF_get hlt2]; rfl) rfl rfl IR_set | exact Ok.e0)) | refine Sx ?_ | (refine Sy (fun h => ?_) (fun h => ?_) <;> try (exfalso; omega; done)) | refine Sz (fun h => ?_) (fun h => ?_))
        refine ⟨⟨j + 1, by omega⟩, ?_, by simp only; omega⟩
        (apply Le.headG [_] [{ l := ⟨1, []⟩, k := 1, R := TR (tabF n n (mixF (shF (entN t) p q) (entN t) i (j + 1))), src := ⟨1, []⟩, base := ⟨1, []⟩ }] (fun _ => False))
        (case' hlen => rfl)
        (case' hms => rfl)
        all_goals (try dsimp only [srcs])
        (case' hfr | hob => (repeat' (first | refine La ?_ ?_ | exact Lc | refine Lo ?_ | refine ⟨⟨_, rfl, ?_⟩, ?_⟩ | refine Lx ?_)))
        (case' hok => first | exact ⟨MI.ok_row hset hrw (by simp) rfl (Cg), trivial⟩ | exact trivial)
        (case' hN => rfl)
        (case' hS => rfl)
        all_goals (first | exact Ld | (rfl))
    ·
      obtain rfl : j = n := by omega
      rw [mixF_row]
      repeat' (first | ((first | apply Ba | (apply Bb; (· rfl); (· rfl)) | (apply Bc; (· exact nxE)) | (apply Bd; (· rfl); (· rfl); (· exact nxE))); (· first | exact Ok.lenD rfl rfl hlen | exact Ok.pe)) | ((first | apply Ca | (apply Cb; (· exact nxE))); (· first | exact Ok.e0)) | refine Sx ?_ | (refine Sy (fun h => ?_) (fun h => ?_) <;> try (exfalso; omega; done)) | refine Sz (fun h => ?_) (fun h => ?_))
      refine ⟨⟨i + 1, by omega⟩, ?_, by simp only; omega⟩
      (apply Le.headG [_] [{ l := ⟨1, []⟩, k := 1, R := TR (tabF j j (mixF (shF (entN t) p q) (entN t) (i + 1) 0)), src := ⟨1, []⟩, base := ⟨1, []⟩ }] (fun _ => False))
      (case' hlen => rfl)
      (case' hms => rfl)
      all_goals (try dsimp only [srcs])
      (case' hfr | hob => (repeat' (first | refine La ?_ ?_ | exact Lc | refine Lo ?_ | refine ⟨⟨_, rfl, ?_⟩, ?_⟩ | refine Lx ?_)))
      (case' hok => first | exact ⟨MI.ok_same rfl (Cg), trivial⟩ | exact trivial)
      (case' hN => rfl)
      (case' hS => rfl)
      all_goals (first | exact Ld | (rfl))
  ·
    obtain rfl : i = n := by omega
    rw [mixF_all]
    repeat' (first | ((first | apply Ba | (apply Bb; (· rfl); (· rfl)) | (apply Bc; (· exact nxE)) | (apply Bd; (· rfl); (· rfl); (· exact nxE))); (· first | exact Ok.lenD rfl rfl hlen | exact Ok.pe)) | ((first | apply Ca | (apply Cb; (· exact nxE))); (· first | exact Ok.e0)) | refine Sx ?_ | (refine Sy (fun h => ?_) (fun h => ?_) <;> try (exfalso; omega; done)) | refine Sz (fun h => ?_) (fun h => ?_))
    refine Ya ?_
    (apply Le.headG [] [{ l := ⟨0, []⟩, k := 1, R := TR (shT t i p q), src := ⟨1, []⟩, base := ⟨1, []⟩ }] (fun _ => False))
    (case' hlen => rfl)
    (case' hms => rfl)
    all_goals (try dsimp only [srcs])
    (case' hfr | hob => (repeat' (first | refine La ?_ ?_ | exact Lc | refine Lo ?_ | refine ⟨⟨_, rfl, ?_⟩, ?_⟩ | refine Lx ?_)))
    (case' hok => first | exact ⟨MI.ok_same rfl (Cg), trivial⟩ | exact trivial)
    (case' hN => rfl)
    (case' hS => rfl)
    all_goals (first | exact Ld | (rfl))
theorem kE_take {f : Nat} {r : List Nat} : ∀ {k : Nat}, k ≤ r.length → (f :: r)[k]? = some (kE f (r.take k)) := by
  induction r generalizing f with
  | nil => intro k hk; obtain rfl : k = 0 := by simpa using hk
           rfl
  | cons v r ih =>
    intro k hk
    cases k with
    | zero => rfl
    | succ k => simp only [List.getElem?_cons_succ, List.take_succ_cons, kE]; exact ih (by simp at hk; omega)
theorem kW_take {W : Nat → Nat → Int} {f : Nat} {r : List Nat} {k v : Nat} (h : r[k]? = some v) : kW W f (r.take (k + 1)) = kW W f (r.take k) + W v (kE f (r.take k)) := by
  obtain ⟨hk, rfl⟩ := List.getElem?_eq_some_iff.1 h
  rw [List.take_succ_eq_append_getElem hk, kW_app]
  simp [kW]
theorem kP_at {W : Nat → Nat → Int} {f : Nat} {r : List Nat} {k v : Nat} (hp : kP W f r) (h : r[k]? = some v) : W v (kE f (r.take k)) ≠ BOT ∧ kP W f (r.take k) := by
  obtain ⟨hk, rfl⟩ := List.getElem?_eq_some_iff.1 h
  have e : r = r.take k ++ r[k] :: r.drop (k + 1) := by rw [← List.drop_eq_getElem_cons hk, List.take_append_drop]
  have := (kP_app (W := W) (r.take k) (r[k] :: r.drop (k + 1)) f).1 (e ▸ hp)
  exact ⟨this.2.1, this.1⟩
set_option maxHeartbeats 1000000 in
theorem l03Walk_ac (t : List (List Int)) (n : Nat) (hM : MatOk t n) (f : Nat) (r : List Nat) (hf : f < n) (hr : ∀ x ∈ r, x < n) (hp : kP (entN t) f r) (hl : r.length ≤ 1000) : AC Tryz.prog 154 [TL t, IL (cN (f :: r))] H0 (.tup [I (kW (entN t) f r), Bo true]) H0 := by
  have hcl : (IR (cN (f :: r))).length = r.length + 1 := by simp
  refine AC.of_body 0 Tryz.func154 rfl (fun l h => absurd rfl h) (fun C hC => ?_)
  have hD : ∀ l, ¬ C.D0 l := fun l h => (hC l).1 h rfl
  simp only [startFr, Tryz.ntmps154, List.length_cons, List.length_nil, Nat.reduceAdd, Nat.reduceSub, List.replicate_succ, List.replicate_zero, List.cons_append, List.nil_append]
  repeat' (first | ((first | apply Ba | (apply Bb; (· rfl); (· rfl)) | (apply Bc; (· exact nxE)) | (apply Bd; (· rfl); (· rfl); (· exact nxE))); (· first | exact Ok.pe)) | ((first | apply Ca | (apply Cb; (· exact nxE))); (· first | exact Ok.e0)) | refine Sx ?_ | (refine Sy (fun h => ?_) (fun h => ?_) <;> try (exfalso; omega; done)) | refine Sz (fun h => ?_) (fun h => ?_))
  refine AW.loop (X := {k : Nat // k ≤ r.length}) (fun k => ⟨[TL t, IL (cN (f :: r)), Oo, Oo, Oo, Oo, I (kW (entN t) f (r.take (k.1 : Nat))), I ((k.1 : Nat) + 1 : Nat), Oo, Oo, Oo, Oo, Oo, Oo, Oo, Oo, Oo, Oo, Oo, Oo, Oo, Oo, Oo, Oo, Oo, Oo, Oo, Oo, Oo, Oo, Oo, Oo, Oo, Oo, Oo], heapL [], 900⟩) (fun k => r.length - k.1) ⟨0, Nat.zero_le _⟩ ?_ (fun k => ?_)
  ·
    (apply Le.headZ [] rfl)
    all_goals (try dsimp only [srcs])
    (case' hfr | hob => (repeat' (first | refine La ?_ ?_ | exact Lc | refine Lo ?_ | refine ⟨⟨_, rfl, ?_⟩, ?_⟩ | refine Lx ?_)))
    all_goals (first | ((first | rfl | (simp [kW]; done))) | exact Ld)
  obtain ⟨k, hk⟩ := k
  simp only
  by_cases hlt : k < r.length
  · obtain ⟨v, hv⟩ : ∃ v, r[k]? = some v := ⟨r[k], by simp⟩
    have hvn := hr v (List.mem_of_getElem? hv)
    obtain ⟨h1, h2⟩ := kP_at hp hv
    have h3 := kW_take (W := entN t) (f := f) hv
    have hu := kE_take (f := f) (r := r) (k := k) (by omega)
    have hun : kE f (r.take k) < n := kE_lt hf (fun x hx => hr x (List.mem_of_mem_take hx))
    have h4 := kW_bnd (M := 1000000) hM.b h2
    have h5 := hM.b _ _ h1
    have h6 : (r.take k).length ≤ 1000 := by rw [List.length_take]; omega
    generalize kE f (r.take k) = u at *
    generalize kW (entN t) f (r.take k) = w at *
    obtain ⟨R, hR1, hR2, hR3⟩ := hM.sq.get hvn hun
    have hRr := TR_get hR1
    have hRf := IR_get hR2
    have hRl : (IR R).length = n := by rw [IR_len, hR3]
    have hi1 : (IR (cN (f :: r)))[((k + 1 : Nat) : Int).toNat]? = some [DI (v : Nat)] := IR_get (by simp [cN, hv])
    have hi2 : (IR (cN (f :: r)))[(((k + 1 : Nat) : Int) - 1).toNat]? = some [DI (u : Nat)] := by
      rw [show (((k + 1 : Nat) : Int) - 1).toNat = ((k : Nat) : Int).toNat by omega]
      exact IR_get (by unfold cN; rw [List.getElem?_map, hu]; rfl)
    generalize entN t v u = e at *
    unfold BOT at h1
    repeat' (first | ((first | apply Ba | (apply Bb; (· rfl); (· rfl)) | (apply Bc; (· exact nxE)) | (apply Bd; (· rfl); (· rfl); (· exact nxE))); (· first | exact Ok.lenD rfl rfl hcl | exact Ok.pe)) | ((first | apply Ca | (apply Cb; (· exact nxE))); (· first | exact Ok.e0)) | refine Sx ?_ | (refine Sy (fun h => ?_) (fun h => ?_) <;> try (exfalso; omega; done)) | refine Sz (fun h => ?_) (fun h => ?_))
    refine ⟨⟨k + 1, by omega⟩, ?_, by simp only; omega⟩
    (apply Le.headZ [] rfl)
    all_goals (try dsimp only [srcs])
    (case' hfr | hob => (repeat' (first | refine La ?_ ?_ | exact Lc | refine Lo ?_ | refine ⟨⟨_, rfl, ?_⟩, ?_⟩ | refine Lx ?_)))
    all_goals (first | ((first | rfl | (rw [h3]; done))) | exact Ld)
  · obtain rfl : k = r.length := by omega
    rw [List.take_length]
    repeat' (first | ((first | apply Ba | (apply Bb; (· rfl); (· rfl)) | (apply Bc; (· exact nxE)) | (apply Bd; (· rfl); (· rfl); (· exact nxE))); (· first | exact Ok.lenD rfl rfl hcl | exact Ok.pe)) | ((first | apply Ca | (apply Cb; (· exact nxE))); (· first | exact Ok.e0)) | refine Sx ?_ | (refine Sy (fun h => ?_) (fun h => ?_) <;> try (exfalso; omega; done)) | refine Sz (fun h => ?_) (fun h => ?_))
    refine Yb ?_
    (apply Le.headZ (hs := []) [] rfl)
    all_goals (try dsimp only [srcs])
    (case' hfr => (repeat' (first | refine La ?_ ?_ | exact Lc | refine Lo ?_ | refine ⟨⟨_, rfl, ?_⟩, ?_⟩ | refine Lx ?_)))
    all_goals (first | exact Ld | exact trivial | (rfl))
theorem wiB_nodes {c : List Nat} {n : Nat} (h : ∀ x ∈ c, x < n) : wiB (cN c) c.length 0 ((n : Int) - 1) = true := by
  unfold wiB
  rw [Bool.and_eq_true, List.all_eq_true, decide_eq_true_eq]
  refine ⟨fun x hx => ?_, by simp [cN]⟩
  obtain ⟨y, hy, rfl⟩ := List.mem_map.1 hx
  have := h y hy
  exact wi_iff.2 (by omega)
theorem l03Nodes_ac (t : List (List Int)) (n : Nat) (h : Sq t n) (c : List Nat) (hc : ∀ x ∈ c, x < n) (hn : n ≤ 1000) (hl : c.length ≤ 100000000) : AC Tryz.prog 153 [TL t, IL (cN c)] H0 (Bo true) H0 := by
  have hcl : (IR (cN c)).length = c.length := by simp
  have hlen : (mRows 1 (TR t)).length = n := by rw [mTR_len, h.l]
  have hI := l01Within_ac (cN c) c.length 0 ((n : Int) - 1) (by simp [cN]; omega)
  rw [wiB_nodes hc] at hI
  refine AC.of_body 0 Tryz.func153 rfl (fun l h => absurd rfl h) (fun C hC => ?_)
  have hD : ∀ l, ¬ C.D0 l := fun l h => (hC l).1 h rfl
  simp only [startFr, Tryz.ntmps153, List.length_cons, List.length_nil, Nat.reduceAdd, Nat.reduceSub, List.replicate_succ, List.replicate_zero, List.cons_append, List.nil_append]
  repeat' (first | ((first | apply Ba | (apply Bb; (· rfl); (· rfl)) | (apply Bc; (· exact nxE)) | (apply Bd; (· rfl); (· rfl); (· exact nxE))); (· first | exact Ok.lenD rfl rfl hcl | exact Ok.lenD rfl rfl hlen | exact Kz rfl rfl (hI) (Ad (Ad (Ad (Ad An)))) | exact Ok.pe)) | ((first | apply Ca | (apply Cb; (· exact nxE))); (· first | exact Ok.e0)) | refine Sx ?_ | (refine Sy (fun h => ?_) (fun h => ?_) <;> try (exfalso; omega; done)) | refine Sz (fun h => ?_) (fun h => ?_))
  refine Ya ?_
  (apply Le.headZ (hs := []) [] rfl)
  all_goals (try dsimp only [srcs])
  (case' hfr => (repeat' (first | refine La ?_ ?_ | exact Lc | refine Lo ?_ | refine ⟨⟨_, rfl, ?_⟩, ?_⟩ | refine Lx ?_)))
  all_goals (first | exact Ld | exact trivial | (rfl))
set_option maxHeartbeats 1000000 in
theorem l03Cycle_ac (t : List (List Int)) (n : Nat) (h : MatOk t n) (f : Nat) (r : List Nat) (hcy : CyW (entN t) n BOT f r) : AC Tryz.prog 115 [TL t, IL (cN (f :: r))] H0 (.tup [I (cyS (entN t) f r), Bo true]) H0 := by
  have hn := h.le
  have hlc := hcy.len
  have hall : ∀ x ∈ f :: r, x < n := fun x hx => by
    rcases List.mem_cons.1 hx with rfl | hx
    · exact hcy.lt
    · exact (hcy.gt x hx).2
  have hN := l03Nodes_ac t n h.sq (f :: r) hall (by omega) (by simp; omega)
  have hWk := l03Walk_ac t n h f (r ++ [f]) hcy.lt (fun x hx => by
    rcases List.mem_append.1 hx with hx | hx
    · exact (hcy.gt x hx).2
    · simp at hx; subst hx; exact hcy.lt) ((kP_app r [f] f).2 ⟨hcy.path, hcy.close, trivial⟩) (by simp; omega)
  have hOw := l01Own_ac (cN (f :: r)) (by simp [cN]; omega)
  have hS : kW (entN t) f (r ++ [f]) = cyS (entN t) f r := by rw [kW_app]; simp [kW, cyS]
  rw [hS] at hWk
  have h0g : (IR (cN (f :: r)))[(0 : Int).toNat]? = some [DI (f : Nat)] := rfl
  generalize cyS (entN t) f r = w at *
  have hnd := hcy.nd
  have hWq : AC Tryz.prog 154 [TL t, .d (.sl 1 (IR (cN (f :: r)) ++ [[DI (f : Nat)]]))] H0 (.tup [I w, Bo true]) H0 := by
    have e : IR (cN (f :: r)) ++ [[DI (f : Nat)]] = IR (cN (f :: (r ++ [f]))) := by simp [cN]
    rw [e]; exact hWk
  clear hWk
  have hcl : (IR (cN (f :: r))).length = (f :: r).length := by simp
  have hcl2 : (cN (f :: r)).length = (f :: r).length := by simp [cN]
  have hlp : 0 < (f :: r).length := by simp
  have hlb : (f :: r).length ≤ 10 := by simp; omega
  generalize f :: r = c at *
  rw [hcl2] at hOw
  refine AC.of_body 0 Tryz.func115 rfl (fun l h => absurd rfl h) (fun C hC => ?_)
  have hD : ∀ l, ¬ C.D0 l := fun l h => (hC l).1 h rfl
  simp only [startFr, Tryz.ntmps115, List.length_cons, List.length_nil, Nat.reduceAdd, Nat.reduceSub, List.replicate_succ, List.replicate_zero, List.cons_append, List.nil_append]
  repeat' (first | ((first | apply Ba | (apply Bb; (· rfl); (· rfl)) | (apply Bc; (· exact nxE)) | (apply Bd; (· rfl); (· rfl); (· exact nxE))); (· first | exact Ok.lenD rfl rfl hcl | exact Kz rfl rfl (hN) (Ad (Ad An)) | exact Ok.pe)) | ((first | apply Ca | (apply Cb; (· exact nxE))); (· first | exact Ok.e0)) | refine Sx ?_ | (refine Sy (fun h => ?_) (fun h => ?_) <;> try (exfalso; omega; done)) | refine Sz (fun h => ?_) (fun h => ?_))
  refine AW.loop (X := {k : Nat // k ≤ c.length}) (fun k => ⟨[TL t, IL (cN c), Oo, Oo, Oo, Oo, I (k.1 : Nat), Oo, Oo, Oo, Oo, Oo, Oo, Oo, Oo, Oo, Oo, Oo, Oo, Oo, Oo, Oo, Oo, Oo, Oo, Oo, Oo, Oo, Oo, Oo, Oo, Oo, Oo, Oo, Oo, Oo, Oo, Oo, Oo, Oo, Oo], heapL [], 900⟩) (fun k => c.length - k.1) ⟨0, Nat.zero_le _⟩ ?_ (fun k => ?_)
  ·
    (apply Le.headZ [] rfl)
    all_goals (try dsimp only [srcs])
    (case' hfr | hob => (repeat' (first | refine La ?_ ?_ | exact Lc | refine Lo ?_ | refine ⟨⟨_, rfl, ?_⟩, ?_⟩ | refine Lx ?_)))
    all_goals (first | (rfl) | exact Ld)
  obtain ⟨k, hk⟩ := k
  simp only
  by_cases hlt : k < c.length
  · obtain ⟨v, hv⟩ : ∃ v, c[k]? = some v := ⟨c[k], by simp⟩
    have hrow : (IR (cN c))[((k : Nat) : Int).toNat]? = some [DI (v : Nat)] := IR_get (by simp [cN, hv])
    have hH := l01Has_ac ((cN c).take k) (v : Nat) (by rw [List.length_take]; omega)
    rw [show ((cN c).take k).any (fun x => decide (x = (v : Int))) = false by
      rw [List.any_eq_false]
      intro x hx
      unfold cN at hx
      rw [← List.map_take] at hx
      obtain ⟨y, hy, rfl⟩ := List.mem_map.1 hx
      obtain ⟨hk', rfl⟩ := List.getElem?_eq_some_iff.1 hv
      have h2 := hnd
      rw [← List.take_append_drop k c] at h2
      have h3 := (List.nodup_append.1 h2).2.2 y hy c[k] (by rw [List.drop_eq_getElem_cons hk']; exact List.mem_cons_self)
      simp only [decide_eq_true_eq]
      intro e
      exact h3 (by omega)] at hH
    repeat' (first | ((first | apply Ba | (apply Bb; (· rfl); (· rfl)) | (apply Bc; (· exact nxE)) | (apply Bd; (· rfl); (· rfl); (· exact nxE))); (· first | exact Ok.lenD rfl rfl hcl | exact Ok.sliceTo (row := fun n => [DI n]) rfl rfl rfl (by omega) (by rw [hcl2]; omega) | exact Kz rfl rfl (hH) (Ad (Ad An)) | exact Ok.pe)) | ((first | apply Ca | (apply Cb; (· exact nxE))); (· first | exact Ok.e0)) | refine Sx ?_ | (refine Sy (fun h => ?_) (fun h => ?_) <;> try (exfalso; omega; done)) | refine Sz (fun h => ?_) (fun h => ?_))
    refine ⟨⟨k + 1, by omega⟩, ?_, by simp only; omega⟩
    (apply Le.headZ [] rfl)
    all_goals (try dsimp only [srcs])
    (case' hfr | hob => (repeat' (first | refine La ?_ ?_ | exact Lc | refine Lo ?_ | refine ⟨⟨_, rfl, ?_⟩, ?_⟩ | refine Lx ?_)))
    all_goals (first | (rfl) | exact Ld)
  · obtain rfl : k = c.length := by omega
    repeat' (first | ((first | apply Ba | (apply Bb; (· rfl); (· rfl)) | (apply Bc; (· exact nxE)) | (apply Bd; (· rfl); (· rfl); (· exact nxE))); (· first | exact Ok.lenD rfl rfl hcl | exact Ez rfl rfl (hWq) (Sd (Sw Sn)) | exact Eo rfl rfl (hOw) (Sd Sn) | exact Ok.append1 (row := [DI (f : Nat)]) rfl rfl (by decide) rfl rfl hcl rfl rfl rfl (by rfl) (by omega) (by omega) | exact Ok.pe)) | ((first | apply Ca | (apply Cb; (· exact nxE))); (· first | exact Eo rfl rfl (hOw) (Sd Sn) | exact Ok.append1 (row := [DI (f : Nat)]) rfl rfl (by decide) rfl rfl hcl rfl rfl rfl (by rfl) (by omega) (by omega) | exact Ok.e0)) | refine Sx ?_ | (refine Sy (fun h => ?_) (fun h => ?_) <;> try (exfalso; omega; done)) | refine Sz (fun h => ?_) (fun h => ?_))
    refine Yb ?_
    (apply Le.headZ (hs := []) [] rfl)
    all_goals (try dsimp only [srcs])
    (case' hfr => (repeat' (first | refine La ?_ ?_ | exact Lc | refine Lo ?_ | refine ⟨⟨_, rfl, ?_⟩, ?_⟩ | refine Lx ?_)))
    all_goals (first | exact Ld | exact trivial | (rfl))
set_option maxHeartbeats 1000000 in
theorem l04Mean_ac (t : List (List Int)) (n : Nat) (h : MatOk t n) (f : Nat) (r : List Nat) (hcy : CyW (entN t) n BOT f r) : AC Tryz.prog 58 [TL t, IL (cN (f :: r))] H0 (.tup [.agg [I (mR (entN t) f r).1, I (mR (entN t) f r).2], Bo true]) H0 := by
  have hCy := l03Cycle_ac t n h f r hcy
  have hb := cyS_bnd h.b h.le hcy
  have hlc := hcy.len
  have hn := h.le
  have hR := l01RatioZ_ac (cyS (entN t) f r) ((r.length : Int) + 1) (by omega) (by omega)
  unfold mR
  rw [show (r.length : Int) + 1 = ((f :: r).length : Nat) by simp] at hR ⊢
  generalize redR (cyS (entN t) f r) ((f :: r).length : Nat) = m at *
  have hcl : (IR (cN (f :: r))).length = (f :: r).length := by simp
  generalize f :: r = c at *
  refine AC.of_body 0 Tryz.func58 rfl (fun l h => absurd rfl h) (fun C hC => ?_)
  have hD : ∀ l, ¬ C.D0 l := fun l h => (hC l).1 h rfl
  simp only [startFr, Tryz.ntmps58, List.length_cons, List.length_nil, Nat.reduceAdd, Nat.reduceSub, List.replicate_succ, List.replicate_zero, List.cons_append, List.nil_append]
  repeat' (first | ((first | apply Ba | (apply Bb; (· rfl); (· rfl)) | (apply Bc; (· exact nxE)) | (apply Bd; (· rfl); (· rfl); (· exact nxE))); (· first | exact Kz rfl rfl (hCy) (Ad (Ad An)) | exact Ok.lenD rfl rfl hcl | exact Kz rfl rfl (hR) (Ad (Ad An)) | exact Ok.pe)) | ((first | apply Ca | (apply Cb; (· exact nxE))); (· first | exact Ok.e0)) | refine Sx ?_ | (refine Sy (fun h => ?_) (fun h => ?_) <;> try (exfalso; omega; done)) | refine Sz (fun h => ?_) (fun h => ?_))
  refine Yb ?_
  (apply Le.headZ (hs := []) [] rfl)
  all_goals (try dsimp only [srcs])
  (case' hfr => (repeat' (first | refine La ?_ ?_ | exact Lc | refine Lo ?_ | refine ⟨⟨_, rfl, ?_⟩, ?_⟩ | refine Lx ?_)))
  all_goals (first | exact Ld | exact trivial | (rfl))
def bkF (t : List (List Int)) (n : Nat) (r : Int × Int) (over : Int) : List Nat := overF (shF (entN t) r.1 r.2) n over
theorem over_sh (t : List (List Int)) (n : Nat) (h : MatOk t n) (r : Int × Int) (hp : -10000000 ≤ r.1 ∧ r.1 ≤ 10000000) (hq : 0 < r.2 ∧ r.2 ≤ 10) (over : Int) : AC Tryz.prog 109 [TL (shT t n r.1 r.2), I over] H0 (IL (cN (bkF t n r over))) H0 := by
  have := l03Over_ac (shT t n r.1 r.2) n shT_sq (by have := h.le; omega) (shT_big h hp hq) over
  rw [overF_congr (b := shF (entN t) r.1 r.2) (fun u v hu hv => shT_ent hu hv)] at this
  exact this
theorem bkF_len {t : List (List Int)} {n : Nat} {r : Int × Int} {over : Int} : (bkF t n r over).length ≤ n := by
  unfold bkF
  by_cases h : overF (shF (entN t) r.1 r.2) n over = []
  · rw [h]; simp
  · obtain ⟨f, q, e, hc⟩ := overF_w h
    rw [e]; have := hc.len; simpa using this
set_option maxHeartbeats 1000000 in
theorem l04Best_no (t : List (List Int)) (n : Nat) (hM : MatOk t n) (hc : ¬ hasK (entN t) n) : AC Tryz.prog 49 [TL t] H0 (.tup [IL [], Bo false]) H0 := by
  have h0 : overF (entN t) n BOT = [] := Classical.byContradiction fun h2 => hc ((first_has hM.b hM.le).1 h2)
  have hO := l03Over_ac t n hM.sq (by have := hM.le; omega) (mat_big hM) BOT
  rw [h0] at hO
  refine AC.of_body 0 Tryz.func49 rfl (fun l h => absurd rfl h) (fun C hC => ?_)
  have hD : ∀ l, ¬ C.D0 l := fun l h => (hC l).1 h rfl
  simp only [startFr, Tryz.ntmps49, List.length_cons, List.length_nil, Nat.reduceAdd, Nat.reduceSub, List.replicate_succ, List.replicate_zero, List.cons_append, List.nil_append]
  repeat' (first | ((first | apply Ba | (apply Bb; (· rfl); (· rfl)) | (apply Bc; (· exact nxE)) | (apply Bd; (· rfl); (· rfl); (· exact nxE))); (· first | exact Kz rfl rfl (hO) (Ad (Ad An)) | exact Ok.pe)) | ((first | apply Ca | (apply Cb; (· exact nxE))); (· first | exact Ok.e0)) | refine Sx ?_ | (refine Sy (fun h => ?_) (fun h => ?_) <;> try (exfalso; omega; done)) | refine Sz (fun h => ?_) (fun h => ?_))
  refine AW.loop (X := Unit) (fun _ => ⟨[TL t, Oo, Oo, Oo, IL [], Oo, Oo, Oo, Oo, Oo, Oo, Oo, Oo, Oo, Oo, Oo, Oo, Oo, Oo, Oo, Oo, Oo, Oo, Oo, Oo, Oo, Oo, Oo, Oo, Oo, Oo], heapL [], 900⟩) (fun _ => 0) () ?_ (fun _ => ?_)
  ·
    (apply Le.headZ [] rfl)
    all_goals (try dsimp only [srcs])
    (case' hfr | hob => (repeat' (first | refine La ?_ ?_ | exact Lc | refine Lo ?_ | refine ⟨⟨_, rfl, ?_⟩, ?_⟩ | refine Lx ?_)))
    all_goals (first | (rfl) | exact Ld)
  ·
    repeat' (first | ((first | apply Ba | (apply Bb; (· rfl); (· rfl)) | (apply Bc; (· exact nxE)) | (apply Bd; (· rfl); (· rfl); (· exact nxE))); (· first | exact Ok.pe)) | ((first | apply Ca | (apply Cb; (· exact nxE))); (· first | exact Ok.e0)) | refine Sx ?_ | (refine Sy (fun h => ?_) (fun h => ?_) <;> try (exfalso; omega; done)) | refine Sz (fun h => ?_) (fun h => ?_))
    refine Yb ?_
    (apply Le.headZ (hs := []) [] rfl)
    all_goals (try dsimp only [srcs])
    (case' hfr => (repeat' (first | refine La ?_ ?_ | exact Lc | refine Lo ?_ | refine ⟨⟨_, rfl, ?_⟩, ?_⟩ | refine Lx ?_)))
    all_goals (first | exact Ld | exact trivial | (rfl))
set_option maxHeartbeats 2000000 in
theorem l04Best_yes (t : List (List Int)) (n : Nat) (hM : MatOk t n) (hc : hasK (entN t) n) : AC Tryz.prog 49 [TL t] H0 (.tup [IL (cN (bkF t n (kmR (entN t) n) (-1))), Bo true]) H0 := by
  have hn := hM.le
  have hO := l03Over_ac t n hM.sq (by omega) (mat_big hM) BOT
  obtain ⟨f0, r0, e0, hc0⟩ := overF_w ((first_has hM.b hM.le).2 hc)
  rw [e0] at hO
  refine AC.of_body 0 Tryz.func49 rfl (fun l h => absurd rfl h) (fun C hC => ?_)
  have hD : ∀ l, ¬ C.D0 l := fun l h => (hC l).1 h rfl
  simp only [startFr, Tryz.ntmps49, List.length_cons, List.length_nil, Nat.reduceAdd, Nat.reduceSub, List.replicate_succ, List.replicate_zero, List.cons_append, List.nil_append]
  repeat' (first | ((first | apply Ba | (apply Bb; (· rfl); (· rfl)) | (apply Bc; (· exact nxE)) | (apply Bd; (· rfl); (· rfl); (· exact nxE))); (· first | exact Kz rfl rfl (hO) (Ad (Ad An)) | exact Ok.pe)) | ((first | apply Ca | (apply Cb; (· exact nxE))); (· first | exact Ok.e0)) | refine Sx ?_ | (refine Sy (fun h => ?_) (fun h => ?_) <;> try (exfalso; omega; done)) | refine Sz (fun h => ?_) (fun h => ?_))
  refine AW.loop (X := {c : Nat × List Nat // CyW (entN t) n BOT c.1 c.2}) (fun c => ⟨[TL t, Oo, Oo, Oo, IL (cN (c.1.1 :: c.1.2)), Oo, Oo, Oo, Oo, Oo, Oo, Oo, Oo, Oo, Oo, Oo, Oo, Oo, Oo, Oo, Oo, Oo, Oo, Oo, Oo, Oo, Oo, Oo, Oo, Oo, Oo], heapL [], 900⟩) (fun c => (100000000000000 - rank 1000 (mR (entN t) c.1.1 c.1.2)).toNat) ⟨(f0, r0), hc0⟩ ?_ (fun c => ?_)
  ·
    (apply Le.headZ [] rfl)
    all_goals (try dsimp only [srcs])
    (case' hfr | hob => (repeat' (first | refine La ?_ ?_ | exact Lc | refine Lo ?_ | refine ⟨⟨_, rfl, ?_⟩, ?_⟩ | refine Lx ?_)))
    all_goals (first | (rfl) | exact Ld)
  obtain ⟨⟨f, r⟩, hcy⟩ := c
  simp only at hcy ⊢
  obtain ⟨b1, b2, _, _⟩ := mR_ok hM.b hM.le hcy
  have hMe := l04Mean_ac t n hM f r hcy
  have hSh := (l04Shift_ac t n hM (mR (entN t) f r).1 (mR (entN t) f r).2 b1 b2).frzT (by rw [TR_len]; exact shT_sq.l)
  have hO1 := over_sh t n hM (mR (entN t) f r) b1 b2 0
  have hO2 := over_sh t n hM (mR (entN t) f r) b1 b2 (-1)
  have htl : (shT t n (mR (entN t) f r).1 (mR (entN t) f r).2).length = n := shT_sq.l
  have hlp : 0 < (f :: r).length := by simp
  by_cases hz : overF (shF (entN t) (mR (entN t) f r).1 (mR (entN t) f r).2) n 0 = []
  · rw [step_eq hM.b hM.le hcy hz]
    have hz2 : bkF t n (mR (entN t) f r) 0 = [] := hz
    rw [hz2] at hO1
    generalize mR (entN t) f r = m at *
    obtain ⟨q1, q2⟩ := m
    simp only at *
    generalize f :: r = c at *
    repeat' (first | ((first | apply Ba | (apply Bb; (· rfl); (· rfl)) | (apply Bc; (· exact nxE)) | (apply Bd; (· rfl); (· rfl); (· exact nxE))); (· first | exact Kz rfl rfl (hMe) (Ad (Ad An)) | exact Kz rfl rfl (hSh) (Ad (Aa (Ad (Ad An)) An)) | exact Kz rfl rfl (hO1) (Ad (Ad An)) | exact Kz rfl rfl (hO2) (Ad (Ad An)) | exact Ok.pe)) | ((first | apply Ca | (apply Cb; (· exact nxE))); (· first | exact Ok.e0)) | refine Sx ?_ | (refine Sy (fun h => ?_) (fun h => ?_) <;> try (exfalso; omega; done)) | refine Sz (fun h => ?_) (fun h => ?_))
    refine Yb ?_
    (apply Le.headZ (hs := []) [] rfl)
    all_goals (try dsimp only [srcs])
    (case' hfr => (repeat' (first | refine La ?_ ?_ | exact Lc | refine Lo ?_ | refine ⟨⟨_, rfl, ?_⟩, ?_⟩ | refine Lx ?_)))
    all_goals (first | exact Ld | exact trivial | (rfl))
  · obtain ⟨f', r', e, hcy', hrk⟩ := step_next hM.b hM.le hcy hz
    have hup := rank_top hM.b hM.le hcy'
    have hz2 : bkF t n (mR (entN t) f r) 0 = f' :: r' := e
    rw [hz2] at hO1
    have hlq : 0 < (f' :: r').length := by simp
    clear hO2
    generalize mR (entN t) f r = m at *
    obtain ⟨q1, q2⟩ := m
    simp only at *
    generalize f :: r = c at *
    repeat' (first | ((first | apply Ba | (apply Bb; (· rfl); (· rfl)) | (apply Bc; (· exact nxE)) | (apply Bd; (· rfl); (· rfl); (· exact nxE))); (· first | exact Kz rfl rfl (hMe) (Ad (Ad An)) | exact Kz rfl rfl (hSh) (Ad (Aa (Ad (Ad An)) An)) | exact Kz rfl rfl (hO1) (Ad (Ad An)) | exact Ok.pe)) | ((first | apply Ca | (apply Cb; (· exact nxE))); (· first | exact Ok.e0)) | refine Sx ?_ | (refine Sy (fun h => ?_) (fun h => ?_) <;> try (exfalso; omega; done)) | refine Sz (fun h => ?_) (fun h => ?_))
    refine ⟨⟨(f', r'), hcy'⟩, ?_, by simp only; omega⟩
    (apply Le.headZ [] rfl)
    all_goals (try dsimp only [srcs])
    (case' hfr | hob => (repeat' (first | refine La ?_ ?_ | exact Lc | refine Lo ?_ | refine ⟨⟨_, rfl, ?_⟩, ?_⟩ | refine Lx ?_)))
    all_goals (first | (rfl) | exact Ld)
/-! ### The best cycle -/
noncomputable def bmC (t : List (List Int)) : Int := open Classical in if isSq t = true then (if hasK (entN t) t.length then 0 else 4) else 1
noncomputable def bmL (t : List (List Int)) : List Nat := if bmC t = 0 then bkF t t.length (kmR (entN t) t.length) (-1) else []
theorem sBestCycle_ac (t : List (List Int)) (ht : t.length ≤ 100000000) (hr : ∀ r ∈ t, r.length ≤ 100000000) : AC Tryz.prog 13 [TL t] H0 (.tup [IL (cN (bmL t)), I (bmC t)]) H0 := by
  have hQ := l02Square_ac t ht hr
  by_cases hs : isSq t = true
  · rw [hs] at hQ
    by_cases hc : hasK (entN t) t.length
    · have e : bmC t = 0 := by unfold bmC; rw [if_pos hs, if_pos hc]
      unfold bmL
      rw [e, if_pos rfl]
      have hB := l04Best_yes t t.length (isSq_ok hs) hc
      generalize bkF t t.length (kmR (entN t) t.length) (-1) = c at *
      refine AC.of_body 0 Tryz.func13 rfl (fun l h => absurd rfl h) (fun C hC => ?_)
      have hD : ∀ l, ¬ C.D0 l := fun l h => (hC l).1 h rfl
      simp only [startFr, Tryz.ntmps13, List.length_cons, List.length_nil, Nat.reduceAdd, Nat.reduceSub, List.replicate_succ, List.replicate_zero, List.cons_append, List.nil_append]
      repeat' (first | ((first | apply Ba | (apply Bb; (· rfl); (· rfl)) | (apply Bc; (· exact nxE)) | (apply Bd; (· rfl); (· rfl); (· exact nxE))); (· first | exact Kz rfl rfl (hQ) (Ad An) | exact Kz rfl rfl (hB) (Ad An) | exact Ok.pe)) | ((first | apply Ca | (apply Cb; (· exact nxE))); (· first | exact Ok.e0)) | refine Sx ?_ | (refine Sy (fun h => ?_) (fun h => ?_) <;> try (exfalso; omega; done)) | refine Sz (fun h => ?_) (fun h => ?_))
      refine Yb ?_
      (apply Le.headZ (hs := []) [] rfl)
      all_goals (try dsimp only [srcs])
      (case' hfr => (repeat' (first | refine La ?_ ?_ | exact Lc | refine Lo ?_ | refine ⟨⟨_, rfl, ?_⟩, ?_⟩ | refine Lx ?_)))
      all_goals (first | exact Ld | exact trivial | (rfl))
    · have e : bmC t = 4 := by unfold bmC; rw [if_pos hs, if_neg hc]
      unfold bmL
      rw [e, if_neg (by decide)]
      have hB := l04Best_no t t.length (isSq_ok hs) hc
      refine AC.of_body 0 Tryz.func13 rfl (fun l h => absurd rfl h) (fun C hC => ?_)
      have hD : ∀ l, ¬ C.D0 l := fun l h => (hC l).1 h rfl
      simp only [startFr, Tryz.ntmps13, List.length_cons, List.length_nil, Nat.reduceAdd, Nat.reduceSub, List.replicate_succ, List.replicate_zero, List.cons_append, List.nil_append]
      repeat' (first | ((first | apply Ba | (apply Bb; (· rfl); (· rfl)) | (apply Bc; (· exact nxE)) | (apply Bd; (· rfl); (· rfl); (· exact nxE))); (· first | exact Kz rfl rfl (hQ) (Ad An) | exact Kz rfl rfl (hB) (Ad An) | exact Ok.pe)) | ((first | apply Ca | (apply Cb; (· exact nxE))); (· first | exact Ok.e0)) | refine Sx ?_ | (refine Sy (fun h => ?_) (fun h => ?_) <;> try (exfalso; omega; done)) | refine Sz (fun h => ?_) (fun h => ?_))
      refine Yb ?_
      (apply Le.headZ (hs := []) [] rfl)
      all_goals (try dsimp only [srcs])
      (case' hfr => (repeat' (first | refine La ?_ ?_ | exact Lc | refine Lo ?_ | refine ⟨⟨_, rfl, ?_⟩, ?_⟩ | refine Lx ?_)))
      all_goals (first | exact Ld | exact trivial | (rfl))
  · have e : bmC t = 1 := by unfold bmC; rw [if_neg hs]
    unfold bmL
    rw [e, if_neg (by decide)]
    rw [Bool.not_eq_true] at hs
    rw [hs] at hQ
    refine AC.of_body 0 Tryz.func13 rfl (fun l h => absurd rfl h) (fun C hC => ?_)
    have hD : ∀ l, ¬ C.D0 l := fun l h => (hC l).1 h rfl
    simp only [startFr, Tryz.ntmps13, List.length_cons, List.length_nil, Nat.reduceAdd, Nat.reduceSub, List.replicate_succ, List.replicate_zero, List.cons_append, List.nil_append]
    repeat' (first | ((first | apply Ba | (apply Bb; (· rfl); (· rfl)) | (apply Bc; (· exact nxE)) | (apply Bd; (· rfl); (· rfl); (· exact nxE))); (· first | exact Kz rfl rfl (hQ) (Ad An) | exact Ok.pe)) | ((first | apply Ca | (apply Cb; (· exact nxE))); (· first | exact Ok.e0)) | refine Sx ?_ | (refine Sy (fun h => ?_) (fun h => ?_) <;> try (exfalso; omega; done)) | refine Sz (fun h => ?_) (fun h => ?_))
    refine Yb ?_
    (apply Le.headZ (hs := []) [] rfl)
    all_goals (try dsimp only [srcs])
    (case' hfr => (repeat' (first | refine La ?_ ?_ | exact Lc | refine Lo ?_ | refine ⟨⟨_, rfl, ?_⟩, ?_⟩ | refine Lx ?_)))
    all_goals (first | exact Ld | exact trivial | (rfl))
end Go.Proofs.YtikadoicplnkgaaGreat
end

section
namespace Go.Proofs.YtikadoicplnkgaaGreat
set_option linter.unusedSimpArgs false
set_option linter.unusedVariables false
open Go Go.RowKit
attribute [local irreducible] AL AD AW OpOk Le AC thenQ blockQ EndQ

end Go.Proofs.YtikadoicplnkgaaGreat
end
