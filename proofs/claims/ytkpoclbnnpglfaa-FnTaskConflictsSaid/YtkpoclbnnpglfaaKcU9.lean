/-
  Walks in the abstract reading, part 9.
-/
import Derived.Test.YtkpoclbnnpglfaaKcU7
import Derived.Test.YtkpoclbnnpglfaaKcU6
import Derived.Test.YtkpoclbnnpglfaaKcU8
import Derived.Test.YtkpoclbnnpglfaaKcU2
import Derived.Test.YtkpoclbnnpglfaaKcU5
import Derived.Test.YtkpoclbnnpglfaaKcA3
import Derived.Test.YtkpoclbnnpglfaaKcU3
import Derived.Test.YtkpoclbnnpglfaaKcU4
section
namespace Go.Proofs.Ytkpoclbnnpglfaa
set_option linter.unusedSimpArgs false
set_option linter.unusedVariables false
open Go Go.RowKit
attribute [local irreducible] AL AD AW OpOk Le AC thenQ blockQ EndQ

def badM (n : Int) (r : List Int) : Bool := !(decide ((r.length : Int) = n)) || !(r.all isVal)
def colN (t : List (List Int)) : Nat := (t.headD []).length
def isMat (t : List (List Int)) : Bool := decide (1 ≤ t.length ∧ t.length ≤ 10 ∧ 1 ≤ colN t ∧ colN t ≤ 10) && !(t.any (badM (colN t)))
def isSq (t : List (List Int)) : Bool := isMat t && decide ((t.length : Int) = colN t)
abbrev hs1 (x : D) : HL := [(⟨0, []⟩, ⟨0, []⟩, ⟨1, [[.d x]]⟩)]
theorem hs1_ok [Mode] {x : D} : HOk (hs1 x) := by
  intro p hp r hr c hc
  simp at hp; subst hp; simp at hr; subst hr; simp at hc; subst hc; exact .d _
theorem isMatFn_ac [Mode] (t : List (List Int)) (r0 r : List Int) (h0 : t[0]? = some r0) (hr : r.length ≤ 100000000) : AC Try.prog 132 [IL r, Bx 1 0] (heapL (hs1 (TD t))) (Bo (badM r0.length r)) (heapL (hs1 (TD t))) := by
  have hRr : (mRows 1 (TR t))[(0 : Int).toNat]? = some [.sl 1 (IR r0)] := TR_get h0
  have hA := areValues_ac r hr
  refine AC.of_body 1 Try.func132 rfl (fun l h => by simp [heapL, upd] at h; simp [h]) (fun C hC => ?_)
  simp only [startFr, Try.ntmps132, List.length_cons, List.length_nil, Nat.reduceAdd, Nat.reduceSub, List.replicate_succ, List.replicate_zero, List.cons_append, List.nil_append]
  have hD : ∀ l, C.D0 l → l = ⟨0, []⟩ := fun l h => by have := (hC l).1 h; simp [heapL, upd] at this; exact this
  repeat' (first | ((first | apply Ba | (apply Bb; (· rfl); (· rfl)) | (apply Bc; (· exact nxE)) | (apply Bd; (· rfl); (· rfl); (· exact nxE))); (· first | exact Kz rfl rfl (hA) (Ad An) | exact Ok.pe)) | ((first | apply Ca | (apply Cb; (· exact nxE))); (· first | exact Ok.e0)) | refine Sx ?_ | (refine Sy (fun h => ?_) (fun h => ?_) <;> try (exfalso; omega; done)) | refine Sz (fun h => ?_) (fun h => ?_))
  all_goals
    (refine end1p (by first | exact .inl rfl | exact .inr rfl) rfl (by first | exact rT rfl | exact rCA rfl rfl rfl rfl (by simp) | exact rCC rfl rfl rfl rfl rfl) ?_ (Le.head ([(⟨0, []⟩, ⟨0, []⟩, ⟨1, [[TL t]]⟩)]) (by first | exact fun l h => absurd h (hD l) | (intro l h; rcases hD l h with rfl; simp [tauL]) | (intro l h; rcases hD l h with rfl | rfl <;> simp [tauL]; done) | (intro l h; rcases hD l h with rfl | rfl | rfl <;> simp [tauL])) ?_ ?_ (by simp) (by simp) (by simp [AllP]) (n' := 1000)); (· (unfold badM; simp_all; done))) <;> (repeat' (first | exact trivial | exact ARs.nil | refine ARs.cons ?_ ?_ | exact AR.dead _ | exact AR.dd _ | exact AR.i (by (try dsimp only); omega) | exact AR.ptr _ _ _ _ (by simp [heapL, upd]) | exact AR.own _ _ _ _ (by simp [heapL, upd]) | refine AR.ownE _ _ _ ?_ (by simp [heapL, upd]) | refine ⟨⟨_, rfl, ?_⟩, ?_⟩ | exact ObA.data | refine ObA.box ?_ | refine ObA.frE ?_ | refine ObA.dataE ?_ | refine ARs.agg ?_ | refine ARs.tup ?_ | exact AR.clo' ARs.nil ARs.nil | exact AR.clo' ARs.nil (hca _ _)))
set_option maxHeartbeats 1000000 in
theorem iIsMatrix_ac [Mode] (t : List (List Int)) (ht : t.length ≤ 100000000) (hr : ∀ r ∈ t, r.length ≤ 100000000) : AC Try.prog 112 [TL t] H0 (Bo (isMat t)) H0 := by
  by_cases g1 : 1 ≤ t.length ∧ t.length ≤ 10
  case neg =>
    have hW := within_ac t.length 1 10
    rw [show wi (t.length : Int) 1 10 = false by rw [Bool.eq_false_iff]; intro h; rw [wi_iff] at h; omega] at hW
    have hI : isMat t = false := by unfold isMat; rw [decide_eq_false (by omega)]; rfl
    rw [hI]
    refine AC.of_body 0 Try.func112 rfl (fun l h => absurd rfl h) (fun C hC => ?_)
    have hD : ∀ l, ¬ C.D0 l := fun l h => (hC l).1 h rfl
    simp only [startFr, Try.ntmps112, List.length_cons, List.length_nil, Nat.reduceAdd, Nat.reduceSub, List.replicate_succ, List.replicate_zero, List.cons_append, List.nil_append]
    repeat' (first | ((first | apply Ba | (apply Bb; (· rfl); (· rfl)) | (apply Bc; (· exact nxE)) | (apply Bd; (· rfl); (· rfl); (· exact nxE))); (· first | exact Kz rfl rfl (hW) (Ad (Ad (Ad An))) | exact Ok.pe)) | ((first | apply Ca | (apply Cb; (· exact nxE))); (· first | exact Ok.e0)) | refine Sx ?_ | (refine Sy (fun h => ?_) (fun h => ?_) <;> try (exfalso; omega; done)) | refine Sz (fun h => ?_) (fun h => ?_))
    refine Ya ?_
    (apply Le.headZ (hs := []) [] rfl)
    all_goals (try dsimp only [srcs])
    (case' hfr => (repeat' (first | refine La ?_ ?_ | exact Lc | refine Lo ?_ | refine ⟨⟨_, rfl, ?_⟩, ?_⟩ | refine Lx ?_)))
    all_goals (first | exact Ld | exact trivial | (rfl))
  obtain ⟨r0, h0⟩ : ∃ r0, t[0]? = some r0 := ⟨t[0]'(by omega), List.getElem?_eq_getElem (by omega)⟩
  have hcol : colN t = r0.length := by
    unfold colN
    cases t with
    | nil => simp at h0
    | cons a q => simp at h0; subst h0; rfl
  have hRr : (mRows 1 (TR t))[(0 : Int).toNat]? = some [.sl 1 (IR r0)] := TR_get h0
  have hW := within_ac t.length 1 10
  rw [show wi (t.length : Int) 1 10 = true from wi_iff.2 (by omega)] at hW
  have hV := within_ac r0.length 1 10
  by_cases g2 : 1 ≤ r0.length ∧ r0.length ≤ 10
  case neg =>
    rw [show wi (r0.length : Int) 1 10 = false by rw [Bool.eq_false_iff]; intro h; rw [wi_iff] at h; omega] at hV
    have hI : isMat t = false := by unfold isMat; rw [hcol, decide_eq_false (by omega)]; rfl
    rw [hI]
    refine AC.of_body 0 Try.func112 rfl (fun l h => absurd rfl h) (fun C hC => ?_)
    have hD : ∀ l, ¬ C.D0 l := fun l h => (hC l).1 h rfl
    simp only [startFr, Try.ntmps112, List.length_cons, List.length_nil, Nat.reduceAdd, Nat.reduceSub, List.replicate_succ, List.replicate_zero, List.cons_append, List.nil_append]
    repeat' (first | ((first | apply Ba | (apply Bb; (· rfl); (· rfl)) | (apply Bc; (· exact nxE)) | (apply Bd; (· rfl); (· rfl); (· exact nxE))); (· first | exact Kz rfl rfl (hV) (Ad (Ad (Ad An))) | exact Kz rfl rfl (hW) (Ad (Ad (Ad An))) | exact Ok.pe)) | ((first | apply Ca | (apply Cb; (· exact nxE))); (· first | exact Ok.e0)) | refine Sx ?_ | (refine Sy (fun h => ?_) (fun h => ?_) <;> try (exfalso; omega; done)) | refine Sz (fun h => ?_) (fun h => ?_))
    refine Ya ?_
    (apply Le.headZ (hs := []) [] rfl)
    all_goals (try dsimp only [srcs])
    (case' hfr => (repeat' (first | refine La ?_ ?_ | exact Lc | refine Lo ?_ | refine ⟨⟨_, rfl, ?_⟩, ?_⟩ | refine Lx ?_)))
    all_goals (first | exact Ld | exact trivial | (rfl))
  rw [show wi (r0.length : Int) 1 10 = true from wi_iff.2 (by omega)] at hV
  have hc := containsFuncT_ac t ht 132 [Bx 1 0] (hs1 (TD t)) (by simp) (by simp) hs1_ok
    (by intro c hc; simp at hc; subst hc; exact .ptr _ _ _ _ (by simp)) 1 (by simp) (badM r0.length) (fun r h => isMatFn_ac t r0 r h0 (hr r h))
  have hI : isMat t = !(t.any (badM r0.length)) := by unfold isMat; rw [hcol, decide_eq_true (by omega), Bool.true_and]
  rw [hI]
  refine AC.of_body 0 Try.func112 rfl (fun l h => absurd rfl h) (fun C hC => ?_)
  have hD : ∀ l, ¬ C.D0 l := fun l h => (hC l).1 h rfl
  simp only [startFr, Try.ntmps112, List.length_cons, List.length_nil, Nat.reduceAdd, Nat.reduceSub, List.replicate_succ, List.replicate_zero, List.cons_append, List.nil_append]
  repeat' (first | ((first | apply Ba | (apply Bb; (· rfl); (· rfl)) | (apply Bc; (· exact nxE)) | (apply Bd; (· rfl); (· rfl); (· exact nxE))); (· first | exact Kz rfl rfl (hV) (Ad (Ad (Ad An))) | exact Kz rfl rfl (hW) (Ad (Ad (Ad An))) | exact OpOk.callS _ rfl rfl hc (by simp [heapL, upd, upds, W.app]) hs1_ok (.d _) (.cons (.dd _) (.cons (AR.clo' .nil (.cons (AR.ptr _ _ _ _ (by simp)) .nil)) .nil)) | exact Ok.pe)) | ((first | apply Ca | (apply Cb; (· exact nxE))); (· first | exact Ok.e0)) | refine Sx ?_ | (refine Sy (fun h => ?_) (fun h => ?_) <;> try (exfalso; omega; done)) | refine Sz (fun h => ?_) (fun h => ?_))
  refine Ya ?_
  (apply Le.headZ (hs := []) [] rfl)
  all_goals (try dsimp only [srcs])
  (case' hfr => (repeat' (first | refine La ?_ ?_ | exact Lc | refine Lo ?_ | refine ⟨⟨_, rfl, ?_⟩, ?_⟩ | refine Lx ?_)))
  all_goals (first | exact Ld | exact trivial | (rfl))
theorem isMat_row [Mode] {t : List (List Int)} (h : isMat t = true) : ∃ r0, t[0]? = some r0 ∧ colN t = r0.length := by
  cases t with
  | nil => simp [isMat] at h
  | cons a q => exact ⟨a, rfl, rfl⟩
theorem iIsSquare_ac [Mode] (t : List (List Int)) (ht : t.length ≤ 100000000) (hr : ∀ r ∈ t, r.length ≤ 100000000) : AC Try.prog 68 [TL t] H0 (Bo (isSq t)) H0 := by
  have hM := iIsMatrix_ac t ht hr
  unfold isSq
  cases hm : isMat t
  · rw [hm] at hM
    refine AC.of_body 0 Try.func68 rfl (fun l h => absurd rfl h) (fun C hC => ?_)
    have hD : ∀ l, ¬ C.D0 l := fun l h => (hC l).1 h rfl
    simp only [startFr, Try.ntmps68, List.length_cons, List.length_nil, Nat.reduceAdd, Nat.reduceSub, List.replicate_succ, List.replicate_zero, List.cons_append, List.nil_append]
    repeat' (first | ((first | apply Ba | (apply Bb; (· rfl); (· rfl)) | (apply Bc; (· exact nxE)) | (apply Bd; (· rfl); (· rfl); (· exact nxE))); (· first | exact Kz rfl rfl (hM) (Ad An) | exact Ok.pe)) | ((first | apply Ca | (apply Cb; (· exact nxE))); (· first | exact Ok.e0)) | refine Sx ?_ | (refine Sy (fun h => ?_) (fun h => ?_) <;> try (exfalso; omega; done)) | refine Sz (fun h => ?_) (fun h => ?_))
    refine Ya ?_
    (apply Le.headZ (hs := []) [] rfl)
    all_goals (try dsimp only [srcs])
    (case' hfr => (repeat' (first | refine La ?_ ?_ | exact Lc | refine Lo ?_ | refine ⟨⟨_, rfl, ?_⟩, ?_⟩ | refine Lx ?_)))
    all_goals (first | exact Ld | exact trivial | (rfl))
  · rw [hm] at hM
    obtain ⟨r0, h0, hcol⟩ := isMat_row hm
    have hRr : (mRows 1 (TR t))[(0 : Int).toNat]? = some [.sl 1 (IR r0)] := TR_get h0
    rw [hcol]
    refine AC.of_body 0 Try.func68 rfl (fun l h => absurd rfl h) (fun C hC => ?_)
    have hD : ∀ l, ¬ C.D0 l := fun l h => (hC l).1 h rfl
    simp only [startFr, Try.ntmps68, List.length_cons, List.length_nil, Nat.reduceAdd, Nat.reduceSub, List.replicate_succ, List.replicate_zero, List.cons_append, List.nil_append]
    repeat' (first | ((first | apply Ba | (apply Bb; (· rfl); (· rfl)) | (apply Bc; (· exact nxE)) | (apply Bd; (· rfl); (· rfl); (· exact nxE))); (· first | exact Kz rfl rfl (hM) (Ad An) | exact Ok.pe)) | ((first | apply Ca | (apply Cb; (· exact nxE))); (· first | exact Ok.e0)) | refine Sx ?_ | (refine Sy (fun h => ?_) (fun h => ?_) <;> try (exfalso; omega; done)) | refine Sz (fun h => ?_) (fun h => ?_))
    all_goals
      refine Ya ?_
      (apply Le.headZ (hs := []) [] rfl)
      all_goals (try dsimp only [srcs])
      (case' hfr => (repeat' (first | refine La ?_ ?_ | exact Lc | refine Lo ?_ | refine ⟨⟨_, rfl, ?_⟩, ?_⟩ | refine Lx ?_)))
      all_goals (first | exact Ld | exact trivial | (rfl))
theorem l01AllF_ac [Mode] (xs : List Int) (hn : xs.length ≤ 100000000) : AC Try.prog 131 [IL xs, Bo false] H0 (Bo (xs.all isVal)) H0 := by
  refine AC.of_body 0 Try.func131 rfl (fun l h => absurd rfl h) (fun C hC => ?_)
  have hD : ∀ l, ¬ C.D0 l := fun l h => (hC l).1 h rfl
  simp only [startFr, Try.ntmps131, List.length_cons, List.length_nil, Nat.reduceAdd, Nat.reduceSub, List.replicate_succ, List.replicate_zero, List.cons_append, List.nil_append]
  repeat' (first | ((first | apply Ba | (apply Bb; (· rfl); (· rfl)) | (apply Bc; (· exact nxE)) | (apply Bd; (· rfl); (· rfl); (· exact nxE))); (· first | exact Ok.pe)) | ((first | apply Ca | (apply Cb; (· exact nxE))); (· first | exact Ok.e0)) | refine Sx ?_ | (refine Sy (fun h => ?_) (fun h => ?_) <;> try (exfalso; omega; done)) | refine Sz (fun h => ?_) (fun h => ?_))
  refine AW.loop (X := {k : Nat // k ≤ xs.length ∧ xs.all isVal = (xs.drop k).all isVal}) (fun k => ⟨[IL xs, Bo false, Oo, Oo, Oo, I (k.1 : Nat), Oo, Oo, Oo, Oo, Oo, Oo, Oo, Oo, Oo, Oo, Oo, Oo, Oo, Oo, Oo, Oo, Oo, Oo, Oo, Oo, Oo, Oo], heapL [], 900⟩) (fun k => xs.length - k.1) ⟨0, Nat.zero_le _, by simp⟩ ?_ (fun k => ?_)
  ·
    (apply Le.headZ [] rfl)
    all_goals (try dsimp only [srcs])
    (case' hfr | hob => (repeat' (first | refine La ?_ ?_ | exact Lc | refine Lo ?_ | refine ⟨⟨_, rfl, ?_⟩, ?_⟩ | refine Lx ?_)))
    all_goals (first | (rfl) | exact Ld)
  obtain ⟨k, hk, hall⟩ := k
  simp only
  by_cases hlt : k < xs.length
  · obtain ⟨x, hx⟩ : ∃ x, xs[k]? = some x := ⟨xs[k], by simp⟩
    have hrow := IR_get hx
    have hV := sIsValue_ac x
    have hno := fun h => all_no (f := isVal) hx h
    have hyes := fun h => all_step (f := isVal) hx hall h
    cases hvx : isVal x
    · rw [hvx] at hV
      rw [hno hvx]
      repeat' (first | ((first | apply Ba | (apply Bb; (· rfl); (· rfl)) | (apply Bc; (· exact nxE)) | (apply Bd; (· rfl); (· rfl); (· exact nxE))); (· first | exact Kz rfl rfl (hV) (Ad An) | exact Ok.pe)) | ((first | apply Ca | (apply Cb; (· exact nxE))); (· first | exact Ok.e0)) | refine Sx ?_ | (refine Sy (fun h => ?_) (fun h => ?_) <;> try (exfalso; omega; done)) | refine Sz (fun h => ?_) (fun h => ?_))
      refine Ya ?_
      (apply Le.headZ (hs := []) [] rfl)
      all_goals (try dsimp only [srcs])
      (case' hfr => (repeat' (first | refine La ?_ ?_ | exact Lc | refine Lo ?_ | refine ⟨⟨_, rfl, ?_⟩, ?_⟩ | refine Lx ?_)))
      all_goals (first | exact Ld | exact trivial | (rfl))
    · rw [hvx] at hV
      have hy := hyes hvx
      repeat' (first | ((first | apply Ba | (apply Bb; (· rfl); (· rfl)) | (apply Bc; (· exact nxE)) | (apply Bd; (· rfl); (· rfl); (· exact nxE))); (· first | exact Kz rfl rfl (hV) (Ad An) | exact Ok.pe)) | ((first | apply Ca | (apply Cb; (· exact nxE))); (· first | exact Ok.e0)) | refine Sx ?_ | (refine Sy (fun h => ?_) (fun h => ?_) <;> try (exfalso; omega; done)) | refine Sz (fun h => ?_) (fun h => ?_))
      refine ⟨⟨k + 1, by omega, hy⟩, ?_, by simp only; omega⟩
      (apply Le.headZ [] rfl)
      all_goals (try dsimp only [srcs])
      (case' hfr | hob => (repeat' (first | refine La ?_ ?_ | exact Lc | refine Lo ?_ | refine ⟨⟨_, rfl, ?_⟩, ?_⟩ | refine Lx ?_)))
      all_goals (first | (rfl) | exact Ld)
  · have hk' : k = xs.length := by omega
    rw [hk', List.drop_length] at hall
    rw [hall, List.all_nil]
    repeat' (first | ((first | apply Ba | (apply Bb; (· rfl); (· rfl)) | (apply Bc; (· exact nxE)) | (apply Bd; (· rfl); (· rfl); (· exact nxE))); (· first | exact Ok.pe)) | ((first | apply Ca | (apply Cb; (· exact nxE))); (· first | exact Ok.e0)) | refine Sx ?_ | (refine Sy (fun h => ?_) (fun h => ?_) <;> try (exfalso; omega; done)) | refine Sz (fun h => ?_) (fun h => ?_))
    refine Ya ?_
    (apply Le.headZ (hs := []) [] rfl)
    all_goals (try dsimp only [srcs])
    (case' hfr => (repeat' (first | refine La ?_ ?_ | exact Lc | refine Lo ?_ | refine ⟨⟨_, rfl, ?_⟩, ?_⟩ | refine Lx ?_)))
    all_goals (first | exact Ld | exact trivial | (rfl))
def isVec (r : List Int) : Bool := wi (r.length : Int) 1 10 && r.all isVal
theorem l02Vector_ac [Mode] (r : List Int) (hr : r.length ≤ 100000000) : AC Try.prog 111 [IL r] H0 (Bo (isVec r)) H0 := by
  have hI := l01In_ac r.length 1 10
  have hA := l01AllF_ac r hr
  unfold isVec
  cases hw : wi (r.length : Int) 1 10
  · rw [hw] at hI
    refine AC.of_body 0 Try.func111 rfl (fun l h => absurd rfl h) (fun C hC => ?_)
    have hD : ∀ l, ¬ C.D0 l := fun l h => (hC l).1 h rfl
    simp only [startFr, Try.ntmps111, List.length_cons, List.length_nil, Nat.reduceAdd, Nat.reduceSub, List.replicate_succ, List.replicate_zero, List.cons_append, List.nil_append]
    repeat' (first | ((first | apply Ba | (apply Bb; (· rfl); (· rfl)) | (apply Bc; (· exact nxE)) | (apply Bd; (· rfl); (· rfl); (· exact nxE))); (· first | exact Kz rfl rfl (hI) (Ad (Ad (Ad An))) | exact Kz rfl rfl (hA) (Ad (Ad An)) | exact Ok.pe)) | ((first | apply Ca | (apply Cb; (· exact nxE))); (· first | exact Ok.e0)) | refine Sx ?_ | (refine Sy (fun h => ?_) (fun h => ?_) <;> try (exfalso; omega; done)) | refine Sz (fun h => ?_) (fun h => ?_))
    refine Ya ?_
    (apply Le.headZ (hs := []) [] rfl)
    all_goals (try dsimp only [srcs])
    (case' hfr => (repeat' (first | refine La ?_ ?_ | exact Lc | refine Lo ?_ | refine ⟨⟨_, rfl, ?_⟩, ?_⟩ | refine Lx ?_)))
    all_goals (first | exact Ld | exact trivial | (rfl))
  · rw [hw] at hI
    refine AC.of_body 0 Try.func111 rfl (fun l h => absurd rfl h) (fun C hC => ?_)
    have hD : ∀ l, ¬ C.D0 l := fun l h => (hC l).1 h rfl
    simp only [startFr, Try.ntmps111, List.length_cons, List.length_nil, Nat.reduceAdd, Nat.reduceSub, List.replicate_succ, List.replicate_zero, List.cons_append, List.nil_append]
    repeat' (first | ((first | apply Ba | (apply Bb; (· rfl); (· rfl)) | (apply Bc; (· exact nxE)) | (apply Bd; (· rfl); (· rfl); (· exact nxE))); (· first | exact Kz rfl rfl (hI) (Ad (Ad (Ad An))) | exact Kz rfl rfl (hA) (Ad (Ad An)) | exact Ok.pe)) | ((first | apply Ca | (apply Cb; (· exact nxE))); (· first | exact Ok.e0)) | refine Sx ?_ | (refine Sy (fun h => ?_) (fun h => ?_) <;> try (exfalso; omega; done)) | refine Sz (fun h => ?_) (fun h => ?_))
    refine Ya ?_
    (apply Le.headZ (hs := []) [] rfl)
    all_goals (try dsimp only [srcs])
    (case' hfr => (repeat' (first | refine La ?_ ?_ | exact Lc | refine Lo ?_ | refine ⟨⟨_, rfl, ?_⟩, ?_⟩ | refine Lx ?_)))
    all_goals (first | exact Ld | exact trivial | (rfl))
def okM (n : Nat) (r : List Int) : Bool := isVec r && decide ((r.length : Int) = n)
theorem isMat_all [Mode] {t : List (List Int)} : isMat t = (decide (1 ≤ t.length ∧ t.length ≤ 10) && t.all (okM (colN t))) := by
  cases t with
  | nil => rfl
  | cons a q =>
    have hcol : colN (a :: q) = a.length := rfl
    rw [Bool.eq_iff_iff]
    unfold isMat
    rw [hcol]
    simp only [Bool.and_eq_true, decide_eq_true_eq, Bool.not_eq_true', List.any_eq_false, List.all_eq_true]
    constructor
    · rintro ⟨⟨h1, h2, h3, h4⟩, h5⟩
      refine ⟨⟨h1, h2⟩, fun r hr => ?_⟩
      have := h5 r hr
      unfold badM at this
      simp only [Bool.not_eq_true, Bool.or_eq_false_iff, Bool.not_eq_false', decide_eq_true_eq] at this
      unfold okM isVec
      rw [this.2, decide_eq_true this.1, Bool.and_true, Bool.and_true]
      exact wi_iff.2 (by omega)
    · rintro ⟨⟨h1, h2⟩, h5⟩
      have ha := h5 a (by simp)
      unfold okM isVec at ha
      simp only [Bool.and_eq_true, wi_iff] at ha
      refine ⟨⟨h1, h2, by omega, by omega⟩, fun r hr => ?_⟩
      have := h5 r hr
      unfold okM isVec at this
      simp only [Bool.and_eq_true, decide_eq_true_eq] at this
      unfold badM
      rw [this.1.2, decide_eq_true this.2]
      simp
set_option maxHeartbeats 1000000 in
theorem sIsMatrix_ac [Mode] (t : List (List Int)) (ht : t.length ≤ 100000000) (hr : ∀ r ∈ t, r.length ≤ 100000000) : AC Try.prog 67 [TL t] H0 (Bo (isMat t)) H0 := by
  by_cases g1 : 1 ≤ t.length ∧ t.length ≤ 10
  case neg =>
    have hI : isMat t = false := by unfold isMat; rw [decide_eq_false (by omega)]; rfl
    rw [hI]
    refine AC.of_body 0 Try.func67 rfl (fun l h => absurd rfl h) (fun C hC => ?_)
    have hD : ∀ l, ¬ C.D0 l := fun l h => (hC l).1 h rfl
    simp only [startFr, Try.ntmps67, List.length_cons, List.length_nil, Nat.reduceAdd, Nat.reduceSub, List.replicate_succ, List.replicate_zero, List.cons_append, List.nil_append]
    repeat' (first | ((first | apply Ba | (apply Bb; (· rfl); (· rfl)) | (apply Bc; (· exact nxE)) | (apply Bd; (· rfl); (· rfl); (· exact nxE))); (· first | exact Ok.pe)) | ((first | apply Ca | (apply Cb; (· exact nxE))); (· first | exact Ok.e0)) | refine Sx ?_ | (refine Sy (fun h => ?_) (fun h => ?_) <;> try (exfalso; omega; done)) | refine Sz (fun h => ?_) (fun h => ?_))
    all_goals
      refine Ya ?_
      (apply Le.headZ (hs := []) [] rfl)
      all_goals (try dsimp only [srcs])
      (case' hfr => (repeat' (first | refine La ?_ ?_ | exact Lc | refine Lo ?_ | refine ⟨⟨_, rfl, ?_⟩, ?_⟩ | refine Lx ?_)))
      all_goals (first | exact Ld | exact trivial | (rfl))
  obtain ⟨r0, h0⟩ : ∃ r0, t[0]? = some r0 := ⟨t[0]'(by omega), List.getElem?_eq_getElem (by omega)⟩
  have hcol : colN t = r0.length := by
    unfold colN
    cases t with
    | nil => simp at h0
    | cons a q => simp at h0; subst h0; rfl
  have hRr : (mRows 1 (TR t))[(0 : Int).toNat]? = some [.sl 1 (IR r0)] := TR_get h0
  have hI : isMat t = t.all (okM r0.length) := by rw [isMat_all, hcol, decide_eq_true g1, Bool.true_and]
  rw [hI]
  refine AC.of_body 0 Try.func67 rfl (fun l h => absurd rfl h) (fun C hC => ?_)
  have hD : ∀ l, ¬ C.D0 l := fun l h => (hC l).1 h rfl
  simp only [startFr, Try.ntmps67, List.length_cons, List.length_nil, Nat.reduceAdd, Nat.reduceSub, List.replicate_succ, List.replicate_zero, List.cons_append, List.nil_append]
  repeat' (first | ((first | apply Ba | (apply Bb; (· rfl); (· rfl)) | (apply Bc; (· exact nxE)) | (apply Bd; (· rfl); (· rfl); (· exact nxE))); (· first | exact Ok.pe)) | ((first | apply Ca | (apply Cb; (· exact nxE))); (· first | exact Ok.e0)) | refine Sx ?_ | (refine Sy (fun h => ?_) (fun h => ?_) <;> try (exfalso; omega; done)) | refine Sz (fun h => ?_) (fun h => ?_))
  refine AW.loop (X := {k : Nat // k ≤ t.length ∧ t.all (okM r0.length) = (t.drop k).all (okM r0.length)}) (fun k => ⟨[TL t, Oo, Oo, I (k.1 : Nat), Oo, Oo, Oo, Oo, Oo, Oo, Oo, Oo, Oo, Oo, Oo, Oo, Oo, Oo, Oo, Oo, Oo, Oo, Oo, Oo, Oo, Oo, Oo, Oo, Oo, Oo, Oo, Oo, Oo, Oo, Oo, Oo], heapL [], 900⟩) (fun k => t.length - k.1) ⟨0, Nat.zero_le _, by simp⟩ ?_ (fun k => ?_)
  ·
    (apply Le.headZ [] rfl)
    all_goals (try dsimp only [srcs])
    (case' hfr | hob => (repeat' (first | refine La ?_ ?_ | exact Lc | refine Lo ?_ | refine ⟨⟨_, rfl, ?_⟩, ?_⟩ | refine Lx ?_)))
    all_goals (first | (rfl) | exact Ld)
  obtain ⟨k, hk, hall⟩ := k
  simp only
  by_cases hlt : k < t.length
  · obtain ⟨r, hx⟩ : ∃ r, t[k]? = some r := ⟨t[k], by simp⟩
    have hrow := TR_get hx
    have hV := l02Vector_ac r (hr r (List.mem_of_getElem? hx))
    have hno := fun h => all_no (f := okM r0.length) hx h
    have hyes := fun h => all_step (f := okM r0.length) hx hall h
    cases hvx : isVec r
    · rw [hvx] at hV
      rw [hno (by unfold okM; rw [hvx]; rfl)]
      repeat' (first | ((first | apply Ba | (apply Bb; (· rfl); (· rfl)) | (apply Bc; (· exact nxE)) | (apply Bd; (· rfl); (· rfl); (· exact nxE))); (· first | exact Kz rfl rfl (hV) (Ad An) | exact Ok.pe)) | ((first | apply Ca | (apply Cb; (· exact nxE))); (· first | exact Ok.e0)) | refine Sx ?_ | (refine Sy (fun h => ?_) (fun h => ?_) <;> try (exfalso; omega; done)) | refine Sz (fun h => ?_) (fun h => ?_))
      refine Ya ?_
      (apply Le.headZ (hs := []) [] rfl)
      all_goals (try dsimp only [srcs])
      (case' hfr => (repeat' (first | refine La ?_ ?_ | exact Lc | refine Lo ?_ | refine ⟨⟨_, rfl, ?_⟩, ?_⟩ | refine Lx ?_)))
      all_goals (first | exact Ld | exact trivial | (rfl))
    · rw [hvx] at hV
      by_cases hb : r.length = r0.length
      · have hy := hyes (by unfold okM; rw [hvx, decide_eq_true (by omega)]; rfl)
        repeat' (first | ((first | apply Ba | (apply Bb; (· rfl); (· rfl)) | (apply Bc; (· exact nxE)) | (apply Bd; (· rfl); (· rfl); (· exact nxE))); (· first | exact Kz rfl rfl (hV) (Ad An) | exact Ok.pe)) | ((first | apply Ca | (apply Cb; (· exact nxE))); (· first | exact Ok.e0)) | refine Sx ?_ | (refine Sy (fun h => ?_) (fun h => ?_) <;> try (exfalso; omega; done)) | refine Sz (fun h => ?_) (fun h => ?_))
        refine ⟨⟨k + 1, by omega, hy⟩, ?_, by simp only; omega⟩
        (apply Le.headZ [] rfl)
        all_goals (try dsimp only [srcs])
        (case' hfr | hob => (repeat' (first | refine La ?_ ?_ | exact Lc | refine Lo ?_ | refine ⟨⟨_, rfl, ?_⟩, ?_⟩ | refine Lx ?_)))
        all_goals (first | (rfl) | exact Ld)
      · rw [hno (by unfold okM; rw [hvx, decide_eq_false (by omega)]; rfl)]
        repeat' (first | ((first | apply Ba | (apply Bb; (· rfl); (· rfl)) | (apply Bc; (· exact nxE)) | (apply Bd; (· rfl); (· rfl); (· exact nxE))); (· first | exact Kz rfl rfl (hV) (Ad An) | exact Ok.pe)) | ((first | apply Ca | (apply Cb; (· exact nxE))); (· first | exact Ok.e0)) | refine Sx ?_ | (refine Sy (fun h => ?_) (fun h => ?_) <;> try (exfalso; omega; done)) | refine Sz (fun h => ?_) (fun h => ?_))
        refine Ya ?_
        (apply Le.headZ (hs := []) [] rfl)
        all_goals (try dsimp only [srcs])
        (case' hfr => (repeat' (first | refine La ?_ ?_ | exact Lc | refine Lo ?_ | refine ⟨⟨_, rfl, ?_⟩, ?_⟩ | refine Lx ?_)))
        all_goals (first | exact Ld | exact trivial | (rfl))
  · have hk' : k = t.length := by omega
    rw [hk', List.drop_length] at hall
    rw [hall, List.all_nil]
    repeat' (first | ((first | apply Ba | (apply Bb; (· rfl); (· rfl)) | (apply Bc; (· exact nxE)) | (apply Bd; (· rfl); (· rfl); (· exact nxE))); (· first | exact Ok.pe)) | ((first | apply Ca | (apply Cb; (· exact nxE))); (· first | exact Ok.e0)) | refine Sx ?_ | (refine Sy (fun h => ?_) (fun h => ?_) <;> try (exfalso; omega; done)) | refine Sz (fun h => ?_) (fun h => ?_))
    refine Ya ?_
    (apply Le.headZ (hs := []) [] rfl)
    all_goals (try dsimp only [srcs])
    (case' hfr => (repeat' (first | refine La ?_ ?_ | exact Lc | refine Lo ?_ | refine ⟨⟨_, rfl, ?_⟩, ?_⟩ | refine Lx ?_)))
    all_goals (first | exact Ld | exact trivial | (rfl))
theorem l02Square_ac [Mode] (t : List (List Int)) (ht : t.length ≤ 100000000) (hr : ∀ r ∈ t, r.length ≤ 100000000) : AC Try.prog 83 [TL t] H0 (Bo (isSq t)) H0 := by
  have hM := sIsMatrix_ac t ht hr
  unfold isSq
  cases hm : isMat t
  · rw [hm] at hM
    refine AC.of_body 0 Try.func83 rfl (fun l h => absurd rfl h) (fun C hC => ?_)
    have hD : ∀ l, ¬ C.D0 l := fun l h => (hC l).1 h rfl
    simp only [startFr, Try.ntmps83, List.length_cons, List.length_nil, Nat.reduceAdd, Nat.reduceSub, List.replicate_succ, List.replicate_zero, List.cons_append, List.nil_append]
    repeat' (first | ((first | apply Ba | (apply Bb; (· rfl); (· rfl)) | (apply Bc; (· exact nxE)) | (apply Bd; (· rfl); (· rfl); (· exact nxE))); (· first | exact Kz rfl rfl (hM) (Ad An) | exact Ok.pe)) | ((first | apply Ca | (apply Cb; (· exact nxE))); (· first | exact Ok.e0)) | refine Sx ?_ | (refine Sy (fun h => ?_) (fun h => ?_) <;> try (exfalso; omega; done)) | refine Sz (fun h => ?_) (fun h => ?_))
    refine Ya ?_
    (apply Le.headZ (hs := []) [] rfl)
    all_goals (try dsimp only [srcs])
    (case' hfr => (repeat' (first | refine La ?_ ?_ | exact Lc | refine Lo ?_ | refine ⟨⟨_, rfl, ?_⟩, ?_⟩ | refine Lx ?_)))
    all_goals (first | exact Ld | exact trivial | (rfl))
  · rw [hm] at hM
    obtain ⟨r0, h0, hcol⟩ := isMat_row hm
    have hRr : (mRows 1 (TR t))[(0 : Int).toNat]? = some [.sl 1 (IR r0)] := TR_get h0
    rw [hcol]
    refine AC.of_body 0 Try.func83 rfl (fun l h => absurd rfl h) (fun C hC => ?_)
    have hD : ∀ l, ¬ C.D0 l := fun l h => (hC l).1 h rfl
    simp only [startFr, Try.ntmps83, List.length_cons, List.length_nil, Nat.reduceAdd, Nat.reduceSub, List.replicate_succ, List.replicate_zero, List.cons_append, List.nil_append]
    repeat' (first | ((first | apply Ba | (apply Bb; (· rfl); (· rfl)) | (apply Bc; (· exact nxE)) | (apply Bd; (· rfl); (· rfl); (· exact nxE))); (· first | exact Kz rfl rfl (hM) (Ad An) | exact Ok.pe)) | ((first | apply Ca | (apply Cb; (· exact nxE))); (· first | exact Ok.e0)) | refine Sx ?_ | (refine Sy (fun h => ?_) (fun h => ?_) <;> try (exfalso; omega; done)) | refine Sz (fun h => ?_) (fun h => ?_))
    all_goals
      refine Ya ?_
      (apply Le.headZ (hs := []) [] rfl)
      all_goals (try dsimp only [srcs])
      (case' hfr => (repeat' (first | refine La ?_ ?_ | exact Lc | refine Lo ?_ | refine ⟨⟨_, rfl, ?_⟩, ?_⟩ | refine Lx ?_)))
      all_goals (first | exact Ld | exact trivial | (rfl))
end Go.Proofs.Ytkpoclbnnpglfaa
end

section
namespace Go.Proofs.Ytkpoclbnnpglfaa
set_option linter.unusedSimpArgs false
set_option linter.unusedVariables false
open Go Go.RowKit
attribute [local irreducible] AL AD AW OpOk Le AC thenQ blockQ EndQ

theorem sq_tab [Mode] {t : List (List Int)} {n : Nat} (h : Sq t n) : tabF n n (entN t) = t := by
  apply List.ext_getElem?
  intro i
  by_cases hi : i < n
  · rw [tabF_get hi]
    have hi2 : i < t.length := by rw [h.l]; exact hi
    rw [List.getElem?_eq_getElem hi2]
    congr 1
    have hrl := h.r _ (List.getElem_mem hi2)
    apply List.ext_getElem?
    intro j
    by_cases hj : j < n
    · rw [rowF_get hj]
      unfold entN
      rw [List.getElem?_eq_getElem hi2, Option.getD_some, List.getElem?_eq_getElem (by rw [hrl]; exact hj), Option.getD_some]
    · rw [List.getElem?_eq_none (by rw [rowF_len]; omega), List.getElem?_eq_none (by omega)]
  · rw [List.getElem?_eq_none (by rw [tabF_len]; omega), List.getElem?_eq_none (by rw [h.l]; omega)]
theorem kE_take [Mode] {f : Nat} {r : List Nat} : ∀ {k : Nat}, k ≤ r.length → (f :: r)[k]? = some (kE f (r.take k)) := by
  induction r generalizing f with
  | nil => intro k hk; obtain rfl : k = 0 := by simpa using hk
           rfl
  | cons v r ih =>
    intro k hk
    cases k with
    | zero => rfl
    | succ k => simp only [List.getElem?_cons_succ, List.take_succ_cons, kE]; exact ih (by simp at hk; omega)
theorem kW_take [Mode] {W : Nat → Nat → Int} {f : Nat} {r : List Nat} {k v : Nat} (h : r[k]? = some v) : kW W f (r.take (k + 1)) = kW W f (r.take k) + W v (kE f (r.take k)) := by
  obtain ⟨hk, rfl⟩ := List.getElem?_eq_some_iff.1 h
  rw [List.take_succ_eq_append_getElem hk, kW_app]
  simp [kW]
theorem kP_at [Mode] {W : Nat → Nat → Int} {f : Nat} {r : List Nat} {k v : Nat} (hp : kP W f r) (h : r[k]? = some v) : W v (kE f (r.take k)) ≠ BOT ∧ kP W f (r.take k) := by
  obtain ⟨hk, rfl⟩ := List.getElem?_eq_some_iff.1 h
  have e : r = r.take k ++ r[k] :: r.drop (k + 1) := by rw [← List.drop_eq_getElem_cons hk, List.take_append_drop]
  have := (kP_app (W := W) (r.take k) (r[k] :: r.drop (k + 1)) f).1 (e ▸ hp)
  exact ⟨this.2.1, this.1⟩
/-! ### The best cycle -/
end Go.Proofs.Ytkpoclbnnpglfaa
end

section
namespace Go.Proofs.Ytkpoclbnnpglfaa
set_option linter.unusedSimpArgs false
set_option linter.unusedVariables false
open Go Go.RowKit
attribute [local irreducible] AL AD AW OpOk Le AC thenQ blockQ EndQ

end Go.Proofs.Ytkpoclbnnpglfaa
end

section
namespace Go.Proofs.Ytkpoclbnnpglfaa
set_option linter.unusedSimpArgs false
set_option linter.unusedVariables false
open Go Go.RowKit
attribute [local irreducible] AL AD AW OpOk Le AC thenQ blockQ EndQ

/-- The greatest of a row's first k products. -/
def apA (f : Nat → Nat → Int) (v : Nat → Int) (i : Nat) : Nat → Int
  | 0 => BOT
  | k + 1 => max (apA f v i k) (timesB (f i k) (v k))
theorem apA_bnd [Mode] {f : Nat → Nat → Int} {v : Nat → Int} {i : Nat} {M : Int} (hM : 0 ≤ M) : ∀ {k : Nat}, (∀ j, j < k → f i j = BOT ∨ (-M ≤ f i j ∧ f i j ≤ M)) → (∀ j, j < k → v j = BOT ∨ (-M ≤ v j ∧ v j ≤ M)) → BOT ≤ apA f v i k ∧ apA f v i k ≤ max BOT (2 * M)
  | 0, _, _ => by simp only [apA]; omega
  | k + 1, hf, hv => by
    have ih := apA_bnd (f := f) (v := v) (i := i) hM (k := k) (fun j hj => hf j (by omega)) (fun j hj => hv j (by omega))
    have h1 := hf k (by omega)
    have h2 := hv k (by omega)
    simp only [apA]
    unfold timesB
    split
    · omega
    · rename_i h
      have h3 := h1.resolve_left fun e => h (.inl e)
      have h4 := h2.resolve_left fun e => h (.inr e)
      unfold BOT at *
      omega
/-- What the entries and the vector must be for the machine's sums. -/
structure ApOk (f : Nat → Nat → Int) (v : Nat → Int) (m n : Nat) : Prop where
  f : ∀ i j, i < m → j < n → f i j = BOT ∨ (-1000000000000000000 ≤ f i j ∧ f i j ≤ 1000000000000000000)
  v : ∀ j, j < n → v j = BOT ∨ (-1000000000000000000 ≤ v j ∧ v j ≤ 1000000000000000000)
set_option maxHeartbeats 4000000 in
theorem timesVector_ac [Mode] (t : List (List Int)) (m n : Nat) (v : Nat → Int) (ht : Rc t m n) (hm : m ≤ 1000000) (hn : n ≤ 1000000) (ho : ApOk (entN t) v m n) : AC Try.prog 78 [TL t, IL (rowF n v)] H0 (own1 1 m) (hp1 (IO (rowF m fun i => apA (entN t) v i n))) := by
  obtain rfl := ht.l
  have hz := mgF_0 (n := t.length) (f := fun i => apA (entN t) v i n)
  have hvl : (IR (rowF n v)).length = n := by rw [IR_len, rowF_len]
  have hvl2 : (rowF n v).length = n := rowF_len
  refine AC.of_body 0 Try.func78 rfl (fun l h => absurd rfl h) (fun C hC => ?_)
  have hD : ∀ l, ¬ C.D0 l := fun l h => (hC l).1 h rfl
  simp only [startFr, Try.ntmps78, List.length_cons, List.length_nil, Nat.reduceAdd, Nat.reduceSub, List.replicate_succ, List.replicate_zero, List.cons_append, List.nil_append]
  repeat' (first | ((first | apply Ba | (apply Bb; (· rfl); (· rfl)) | (apply Bc; (· exact nxE)) | (apply Bd; (· rfl); (· rfl); (· exact nxE))); (· first | exact Ok.pe)) | ((first | apply Ca | (apply Cb; (· exact nxE))); (· first | exact Ok.e0)) | refine Sx ?_ | (refine Sy (fun h => ?_) (fun h => ?_) <;> try (exfalso; omega; done)) | refine Sz (fun h => ?_) (fun h => ?_))
  refine AW.loop (X := {k : Nat // k ≤ t.length}) (fun k => ⟨[Oo, IL (rowF n v), Oo, Oo, Oo, .own 1 ⟨0, []⟩ 0 t.length, Oo, Oo, Oo, Oo, Oo, Oo, Oo, TL t, I t.length, I (k.1 : Nat), Oo, Oo, Oo, Oo, Oo, Oo, Oo, Oo, Oo, Oo, Oo, Oo, Oo, Oo, Oo, Oo, Oo, Oo, Oo, Oo, Oo, Oo, Oo, Oo, Oo, Oo, Oo, Oo, Oo, Oo, Oo], heapL [(⟨0, []⟩, ⟨0, []⟩, IO (rowF t.length (mixR (fun i => apA (entN t) v i n) (fun _ => 0) k.1)))], 900⟩) (fun k => t.length - k.1) ⟨0, Nat.zero_le _⟩ ?_ (fun k => ?_)
  ·
    (apply Le.headZ [_] rfl)
    all_goals (try dsimp only [srcs])
    (case' hfr | hob => (repeat' (first | refine La ?_ ?_ | exact Lc | refine Lo ?_ | refine ⟨⟨_, rfl, ?_⟩, ?_⟩ | refine Lx ?_)))
    all_goals (first | ((first | exact hz | (rw [hz]; done))) | exact Ld)
  obtain ⟨i, hi⟩ := k
  simp only
  by_cases hlt : i < t.length
  ·
    obtain ⟨r, hr1⟩ : ∃ r, t[i]? = some r := ⟨t[i], by simp⟩
    have hrl0 := ht.r r (List.mem_of_getElem? hr1)
    have hr1' := TR_get hr1
    have hrl : (IR r).length = n := by rw [IR_len, hrl0]
    have hc0 := IRF_get (g := mixR (fun i => apA (entN t) v i n) (fun _ => 0) i) hlt
    have hs1 : (IR (rowF t.length (mixR (fun i => apA (entN t) v i n) (fun _ => 0) i))).set i [DI (-1000000000000000)] = IR (rowF t.length (fun b => if b = i then apA (entN t) v i 0 else mixR (fun i => apA (entN t) v i n) (fun _ => 0) i b)) := by rw [IR_set, rowF_set]; rfl
    repeat' (first | ((first | apply Ba | (apply Bb; (· rfl); (· rfl)) | (apply Bc; (· exact nxE)) | (apply Bd; (· rfl); (· rfl); (· exact nxE))); (· first | exact Ok.st1 rfl rfl rfl (by simp [rowF_len]; omega) (by rw [hc0]; rfl) rfl rfl hs1 | exact Ok.pe)) | ((first | apply Ca | (apply Cb; (· exact nxE))); (· first | exact Ok.st1 rfl rfl rfl (by simp [rowF_len]; omega) (by rw [hc0]; rfl) rfl rfl hs1 | exact Ok.e0)) | refine Sx ?_ | (refine Sy (fun h => ?_) (fun h => ?_) <;> try (exfalso; omega; done)) | refine Sz (fun h => ?_) (fun h => ?_))
    refine AW.loop (X := {k : Nat // k ≤ n}) (fun k => ⟨[Oo, IL (rowF n v), Oo, Oo, Oo, .own 1 ⟨0, []⟩ 0 t.length, I i, Oo, Oo, Oo, Oo, Oo, Oo, TL t, I t.length, I i, Oo, Oo, Oo, Oo, Oo, Oo, Oo, IL r, I n, I (k.1 : Nat), Oo, Oo, Oo, Oo, Oo, Oo, Oo, Oo, Oo, Oo, Oo, Oo, Oo, Oo, Oo, Oo, Oo, Oo, Oo, Oo, Oo], heapL [(⟨0, []⟩, ⟨0, []⟩, IO (rowF t.length (fun b => if b = i then apA (entN t) v i k.1 else mixR (fun i => apA (entN t) v i n) (fun _ => 0) i b)))], 900⟩) (fun k => n - k.1) ⟨0, Nat.zero_le _⟩ ?_ (fun k => ?_)
    ·
      (apply Le.headZ [_] rfl)
      all_goals (try dsimp only [srcs])
      (case' hfr | hob => (repeat' (first | refine La ?_ ?_ | exact Lc | refine Lo ?_ | refine ⟨⟨_, rfl, ?_⟩, ?_⟩ | refine Lx ?_)))
      all_goals (first | (rfl) | exact Ld)
    obtain ⟨j, hj⟩ := k
    simp only
    by_cases hlt2 : j < n
    ·
      obtain ⟨r', hr1b, hr2, _⟩ := ht.get hlt hlt2
      rw [hr1] at hr1b; cases hr1b
      have hrj := IR_get hr2
      have hvj : (IR (rowF n v))[((j : Nat) : Int).toNat]? = some [DI (v j)] := IRF_get hlt2
      have hT := times_ac (entN t i j) (v j) (fun e1 e2 => by
        have h1 := (ho.f i j hlt hlt2).resolve_left e1
        have h2 := (ho.v j hlt2).resolve_left e2
        omega)
      have hcj := IRF_get (g := fun b => if b = i then apA (entN t) v i j else mixR (fun i => apA (entN t) v i n) (fun _ => 0) i b) hlt
      simp only [if_true] at hcj
      have hs2 : (IR (rowF t.length (fun b => if b = i then apA (entN t) v i j else mixR (fun i => apA (entN t) v i n) (fun _ => 0) i b))).set i [DI (max (apA (entN t) v i j) (timesB (entN t i j) (v j)))] = IR (rowF t.length (fun b => if b = i then apA (entN t) v i (j + 1) else mixR (fun i => apA (entN t) v i n) (fun _ => 0) i b)) := by
        rw [IR_set, rowF_set]
        congr 1
        refine rowF_congr fun b _ => ?_
        by_cases e : b = i <;> simp [e, apA]
      repeat' (first | ((first | apply Ba | (apply Bb; (· rfl); (· rfl)) | (apply Bc; (· exact nxE)) | (apply Bd; (· rfl); (· rfl); (· exact nxE))); (· first | exact Ok.ld1 rfl rfl rfl hcj | exact Kz rfl rfl (hT) (Ad (Ad An)) | exact Ok.st1 rfl rfl rfl (by simp [rowF_len]; omega) (by rw [hcj]; rfl) rfl rfl hs2 | exact Ok.pe)) | ((first | apply Ca | (apply Cb; (· exact nxE))); (· first | exact Ok.st1 rfl rfl rfl (by simp [rowF_len]; omega) (by rw [hcj]; rfl) rfl rfl hs2 | exact Ok.e0)) | refine Sx ?_ | (refine Sy (fun h => ?_) (fun h => ?_) <;> try (exfalso; omega; done)) | refine Sz (fun h => ?_) (fun h => ?_))
      refine ⟨⟨j + 1, by omega⟩, ?_, by simp only; omega⟩
      (apply Le.headZ [_] rfl)
      all_goals (try dsimp only [srcs])
      (case' hfr | hob => (repeat' (first | refine La ?_ ?_ | exact Lc | refine Lo ?_ | refine ⟨⟨_, rfl, ?_⟩, ?_⟩ | refine Lx ?_)))
      all_goals (first | (rfl) | exact Ld)
    ·
      obtain rfl : j = n := by omega
      have hnx : rowF t.length (fun b => if b = i then apA (entN t) v i j else mixR (fun i => apA (entN t) v i j) (fun _ => 0) i b) = rowF t.length (mixR (fun i => apA (entN t) v i j) (fun _ => 0) (i + 1)) := by
        rw [← mixR_set, rowF_set]
      rw [hnx]
      repeat' (first | ((first | apply Ba | (apply Bb; (· rfl); (· rfl)) | (apply Bc; (· exact nxE)) | (apply Bd; (· rfl); (· rfl); (· exact nxE))); (· first | exact Ok.pe)) | ((first | apply Ca | (apply Cb; (· exact nxE))); (· first | exact Ok.e0)) | refine Sx ?_ | (refine Sy (fun h => ?_) (fun h => ?_) <;> try (exfalso; omega; done)) | refine Sz (fun h => ?_) (fun h => ?_))
      refine ⟨⟨i + 1, by omega⟩, ?_, by simp only; omega⟩
      (apply Le.headZ [_] rfl)
      all_goals (try dsimp only [srcs])
      (case' hfr | hob => (repeat' (first | refine La ?_ ?_ | exact Lc | refine Lo ?_ | refine ⟨⟨_, rfl, ?_⟩, ?_⟩ | refine Lx ?_)))
      all_goals (first | (rfl) | exact Ld)
  ·
    have him : i = t.length := by omega
    subst him
    rw [mixR_all]
    repeat' (first | ((first | apply Ba | (apply Bb; (· rfl); (· rfl)) | (apply Bc; (· exact nxE)) | (apply Bd; (· rfl); (· rfl); (· exact nxE))); (· first | exact Ok.pe)) | ((first | apply Ca | (apply Cb; (· exact nxE))); (· first | exact Ok.e0)) | refine Sx ?_ | (refine Sy (fun h => ?_) (fun h => ?_) <;> try (exfalso; omega; done)) | refine Sz (fun h => ?_) (fun h => ?_))
    refine Ya ?_
    (apply Le.head [(⟨0, []⟩, _, _)])
    (case' hfr | hob => (repeat' (first | refine La ?_ ?_ | exact Lc | refine Lo ?_ | refine ⟨⟨_, rfl, ?_⟩, ?_⟩ | refine Lx ?_)))
    all_goals (first | exact Ld | (rfl))
end Go.Proofs.Ytkpoclbnnpglfaa
end

section
namespace Go.Proofs.Ytkpoclbnnpglfaa
set_option linter.unusedSimpArgs false
set_option linter.unusedVariables false
open Go Go.RowKit
attribute [local irreducible] AL AD AW OpOk Le AC thenQ blockQ EndQ

theorem apA_max [Mode] {f : Nat → Nat → Int} {v : Nat → Int} {i : Nat} : ∀ k, apA f v i k = maxN (fun j => timesB (f i j) (v j)) k
  | 0 => rfl
  | k + 1 => by simp only [apA, maxN]; rw [apA_max k]
theorem tabF_sn [Mode] {k n : Nat} {f : Nat → Nat → Int} : TR (tabF (k + 1) n f) = TR (tabF k n f) ++ [IR (rowF n (f k))] := by simp [tabF, List.range_succ]
section
variable {W : Nat → Nat → Int} {n : Nat} (hb : ∀ k v, k ≤ n → v < n → W k v = BOT ∨ (-10000000 ≤ W k v ∧ W k v ≤ 10000000)) (hn : n ≤ 10)
include hb hn
end
end Go.Proofs.Ytkpoclbnnpglfaa
end

section
namespace Go.Proofs.Ytkpoclbnnpglfaa
set_option linter.unusedSimpArgs false
set_option linter.unusedVariables false
open Go Go.RowKit
attribute [local irreducible] AL AD AW OpOk Le AC thenQ blockQ EndQ

end Go.Proofs.Ytkpoclbnnpglfaa
end

section
namespace Go.Proofs.Ytkpoclbnnpglfaa
set_option linter.unusedSimpArgs false
set_option linter.unusedVariables false
open Go Go.RowKit
attribute [local irreducible] AL AD AW OpOk Le AC thenQ blockQ EndQ

structure RtZ (r : Int × Int) : Prop where
  n : -1000000000000 ≤ r.1 ∧ r.1 ≤ 1000000000000
  d : 1 ≤ r.2 ∧ r.2 ≤ 1000000
  g : Nat.gcd r.1.natAbs r.2.toNat = 1
/-! ### Turned matrices -/
abbrev tuF (f : Nat → Nat → Int) : Nat → Nat → Int := fun a b => f b a
theorem tuFn_ac [Mode] (f : Nat → Nat → Int) (n : Nat) (i j : Nat) (hi : i < n) (hj : j < n) : AC Try.prog 118 [I i, I j, Bx 1 0] (heapL (hs1 (TD (tabF n n f)))) (I (tuF f i j)) (heapL (hs1 (TD (tabF n n f)))) := by
  have hRi : (mRows 1 (TR (tabF n n f)))[((j : Nat) : Int).toNat]? = some [.sl 1 (IR (rowF n (f j)))] := TR_get (tabF_get hj)
  have hRf : (IR (rowF n (f j)))[((i : Nat) : Int).toNat]? = some [DI (f j i)] := IRF_get hi
  have hRil : (IR (rowF n (f j))).length = n := by rw [IR_len, rowF_len]
  have hlen : (mRows 1 (TR (tabF n n f))).length = n := by rw [mTR_len, tabF_len]
  refine AC.of_body 1 Try.func118 rfl (fun l h => by simp [heapL, upd] at h; simp [h]) (fun C hC => ?_)
  simp only [startFr, Try.ntmps118, List.length_cons, List.length_nil, Nat.reduceAdd, Nat.reduceSub, List.replicate_succ, List.replicate_zero, List.cons_append, List.nil_append]
  have hD : ∀ l, C.D0 l → l = ⟨0, []⟩ := fun l h => by have := (hC l).1 h; simp [heapL, upd] at this; exact this
  repeat' (first | ((first | apply Ba | (apply Bb; (· rfl); (· rfl)) | (apply Bc; (· exact nxE)) | (apply Bd; (· rfl); (· rfl); (· exact nxE))); (· first | exact Ok.pe)) | ((first | apply Ca | (apply Cb; (· exact nxE))); (· first | exact Ok.e0)) | refine Sx ?_ | (refine Sy (fun h => ?_) (fun h => ?_) <;> try (exfalso; omega; done)) | refine Sz (fun h => ?_) (fun h => ?_))
  (refine end1p (by first | exact .inl rfl | exact .inr rfl) rfl (by first | exact rT rfl | exact rCA rfl rfl rfl rfl (by simp) | exact rCC rfl rfl rfl rfl rfl) ?_ (Le.head ([(⟨0, []⟩, ⟨0, []⟩, ⟨1, [[TL (tabF n n f)]]⟩)]) (by first | exact fun l h => absurd h (hD l) | (intro l h; rcases hD l h with rfl; simp [tauL]) | (intro l h; rcases hD l h with rfl | rfl <;> simp [tauL]; done) | (intro l h; rcases hD l h with rfl | rfl | rfl <;> simp [tauL])) ?_ ?_ (by simp) (by simp) (by simp [AllP]) (n' := 1000)); (· rfl)) <;> (repeat' (first | exact trivial | exact ARs.nil | refine ARs.cons ?_ ?_ | exact AR.dead _ | exact AR.dd _ | exact AR.i (by (try dsimp only); omega) | exact AR.ptr _ _ _ _ (by simp [heapL, upd]) | exact AR.own _ _ _ _ (by simp [heapL, upd]) | refine AR.ownE _ _ _ ?_ (by simp [heapL, upd]) | refine ⟨⟨_, rfl, ?_⟩, ?_⟩ | exact ObA.data | refine ObA.box ?_ | refine ObA.frE ?_ | refine ObA.dataE ?_ | refine ARs.agg ?_ | refine ARs.tup ?_ | exact AR.clo' ARs.nil ARs.nil | exact AR.clo' ARs.nil (hca _ _)))
set_option maxHeartbeats 2000000 in
theorem mbyTu_ac [Mode] (m n : Nat) (q : Nat) (hmq : m = q) (hnq : n = q) (f : Nat → Nat → Int) (hm : m ≤ 1000) (hn : n ≤ 1000) : AC Try.prog 104 [I m, I n, .clo (.func 118) [] [Bx 1 0]] (heapL [(⟨0, []⟩, ⟨0, []⟩, ⟨1, [[TL (tabF q q f)]]⟩)]) (.own 1 ⟨1, []⟩ 0 m) (heapX [(⟨0, []⟩, ⟨0, []⟩, ⟨1, [[TL (tabF q q f)]]⟩)] [mi1 ⟨1, []⟩ (TR (tabF m n (tuF f)))]) := by
  refine AC.of_body 1 Try.func104 rfl (fun l h => by simp [heapL, upd] at h; (repeat' split at h) <;> simp_all) (fun C hC => ?_)
  simp only [startFr, Try.ntmps104, List.length_cons, List.length_nil, Nat.reduceAdd, Nat.reduceSub, List.replicate_succ, List.replicate_zero, List.cons_append, List.nil_append]
  have hD : ∀ l, C.D0 l → l = ⟨0, []⟩ := fun l h => by have := (hC l).1 h; simp [heapL, upd] at this; (repeat' split at this) <;> simp_all
  repeat' (first | ((first | apply Ba | (apply Bb; (· rfl); (· rfl)) | (apply Bc; (· exact nxE)) | (apply Bd; (· rfl); (· rfl); (· exact nxE))); (· first | exact Ok.pe)) | ((first | apply Ca | (apply Cb; (· exact nxE))); (· first | exact Ok.e0)) | refine Sx ?_ | (refine Sy (fun h => ?_) (fun h => ?_) <;> try (exfalso; omega; done)) | refine Sz (fun h => ?_) (fun h => ?_))
  refine AW.loop (X := {k : Nat // k ≤ m}) (fun k => ⟨[Oo, I n, .clo (.func 118) [] [Bx 1 0], Oo, Oo, Oo, Oo, .own 1 ⟨1, []⟩ 0 m, Oo, Oo, Oo, Oo, Oo, I m, I (k.1 : Nat), Oo, Oo, Oo, Oo, Oo, Oo, Oo, Oo, Oo, Oo, Oo, Oo, Oo, Oo, Oo, Oo, Oo, Oo, Oo, Oo, Oo, Oo, Oo, Oo, Oo, Oo, Oo, Oo], heapX [(⟨0, []⟩, ⟨0, []⟩, ⟨1, [[TL (tabF q q f)]]⟩)] [{ l := ⟨1, []⟩, k := 1, R := TR (tabF k.1 n (mixF (tuF f) zz k.1 0)), nils := m - k.1, src := ⟨1, []⟩, base := ⟨1, []⟩ }], 900⟩) (fun k => m - k.1) ⟨0, Nat.zero_le _⟩ ?_ (fun k => ?_)
  ·
    (apply Le.headG [_] [{ l := ⟨1, []⟩, k := 1, R := [], nils := m, src := ⟨3, []⟩, base := ⟨3, []⟩ }] (fun _ => False))
    (case' hlen => rfl)
    (case' hms => rfl)
    all_goals (try dsimp only [srcs])
    (case' hfr | hob => (repeat' (first | refine La ?_ ?_ | exact Lc | refine Lo ?_ | refine ⟨⟨_, rfl, ?_⟩, ?_⟩ | refine Lx ?_)))
    (case' hok => first | exact ⟨MI.ok_make rfl, trivial⟩ | exact trivial)
    (case' hN => rfl)
    (case' hS => rfl)
    all_goals (first | exact Ld | (rfl))
  obtain ⟨i, hi⟩ := k
  simp only
  by_cases hlt : i < m
  ·
    have hti : (TR (tabF i n (mixF (tuF f) zz i 0))).length = i := by rw [TR_len, tabF_len]
    rw [show m - i = (m - (i + 1)) + 1 by omega]
    repeat' (first | ((first | apply Ba | (apply Bb; (· rfl); (· rfl)) | (apply Bc; (· exact nxE)) | (apply Bd; (· rfl); (· rfl); (· exact nxE))); (· first | exact OpOk.loadCell rfl rfl rfl rfl (set_at (by simp only [outer_len]; rw [hti]; omega)) rfl | exact Ok.stT rfl rfl rfl (by dsimp only; rw [hti]; omega) rfl | exact Ok.pe)) | ((first | apply Ca | (apply Cb; (· exact nxE))); (· first | exact Ok.stT rfl rfl rfl (by dsimp only; rw [hti]; omega) rfl | exact Ok.e0)) | refine Sx ?_ | (refine Sy (fun h => ?_) (fun h => ?_) <;> try (exfalso; omega; done)) | refine Sz (fun h => ?_) (fun h => ?_))
    refine AW.loop (X := {k : Nat // k ≤ n}) (fun k => ⟨[Oo, I n, .clo (.func 118) [] [Bx 1 0], Oo, Oo, Oo, Oo, .own 1 ⟨1, []⟩ 0 m, I i, Oo, Oo, Oo, Oo, I m, I i, Oo, Oo, Oo, Oo, Oo, Oo, Oo, Oo, Oo, Oo, Oo, I n, I (k.1 : Nat), Oo, Oo, Oo, Oo, Oo, Oo, Oo, Oo, Oo, Oo, Oo, Oo, Oo, Oo, Oo], heapX [(⟨0, []⟩, ⟨0, []⟩, ⟨1, [[TL (tabF q q f)]]⟩)] [{ l := ⟨1, []⟩, k := 1, R := TR (tabF (i + 1) n (mixF (tuF f) zz i k.1)), nils := m - (i + 1), src := ⟨1, []⟩, base := ⟨1, []⟩ }], 900⟩) (fun k => n - k.1) ⟨0, Nat.zero_le _⟩ ?_ (fun k => ?_)
    ·
      (apply Le.headG [_] [{ l := ⟨1, []⟩, k := 1, R := TR (tabF (i + 1) n (mixF (tuF f) zz i 0)), nils := m - (i + 1), src := ⟨1, []⟩, base := ⟨1, []⟩, cut := i, ext := some ⟨906, []⟩ }] (fun _ => False))
      (case' hlen => rfl)
      (case' hms => rfl)
      all_goals (try dsimp only [srcs])
      (case' hfr | hob => (repeat' (first | refine La ?_ ?_ | exact Lc | refine Lo ?_ | refine ⟨⟨_, rfl, ?_⟩, ?_⟩ | refine Lx ?_)))
      (case' hok => first | exact ⟨MI.ok_fill (r := List.replicate n [DI 0]) zz_snoc hti (by simp) rfl (Cg) rfl, trivial⟩ | exact trivial)
      (case' hN => rfl)
      (case' hS => rfl)
      all_goals (first | exact Ld | ((first | (simp [AllP, TR_len, tabF_len]; done) | (simp [AllP, TR_len, tabF_len]; omega))))
    obtain ⟨j, hj⟩ := k
    simp only
    by_cases hlt2 : j < n
    ·
      have hrw := TRF_get (n := n) (f := (mixF (tuF f) zz i j)) (show i < i + 1 by omega)
      have hlr : (IR (rowF n ((mixF (tuF f) zz i j) i))).length = n := by rw [IR_len, rowF_len]
      repeat' (first | ((first | apply Ba | (apply Bb; (· rfl); (· rfl)) | (apply Bc; (· exact nxE)) | (apply Bd; (· rfl); (· rfl); (· exact nxE))); (· first | exact Ok.ldTn rfl rfl rfl hrw hlr | exact OpOk.callS ([(⟨0, []⟩, ⟨0, []⟩, ⟨1, [[TL (tabF q q f)]]⟩)]) rfl rfl (tuFn_ac f q i j (by omega) (by omega)) (by intro p hp; simp only [List.mem_cons, List.not_mem_nil, or_false] at hp; rcases hp with rfl <;> rfl) hs1_ok (.d _) (.cons (.dd _) (.cons (.dd _) (.cons (AR.ptr _ _ _ _ (by simp)) .nil))) | exact Ok.st1 rfl rfl (congrArg (Option.map (dobj 1)) hrw) (by simp [rowF_len]; omega) (by rw [IRF_get hlt2]; rfl) rfl rfl IR_set | exact Ok.pe)) | ((first | apply Ca | (apply Cb; (· exact nxE))); (· first | exact Ok.st1 rfl rfl (congrArg (Option.map (dobj 1)) hrw) (by simp [rowF_len]; omega) (by rw [IRF_get hlt2]; rfl) rfl rfl IR_set | exact Ok.e0)) | refine Sx ?_ | (refine Sy (fun h => ?_) (fun h => ?_) <;> try (exfalso; omega; done)) | refine Sz (fun h => ?_) (fun h => ?_))
      refine ⟨⟨j + 1, by omega⟩, ?_, by simp only; omega⟩
      (apply Le.headG [_] [{ l := ⟨1, []⟩, k := 1, R := TR (tabF (i + 1) n (mixF (tuF f) zz i (j + 1))), nils := m - (i + 1), src := ⟨1, []⟩, base := ⟨1, []⟩ }] (fun _ => False))
      (case' hlen => rfl)
      (case' hms => rfl)
      all_goals (try dsimp only [srcs])
      (case' hfr | hob => (repeat' (first | refine La ?_ ?_ | exact Lc | refine Lo ?_ | refine ⟨⟨_, rfl, ?_⟩, ?_⟩ | refine Lx ?_)))
      (case' hok => first | exact ⟨MI.ok_row (tabF_set (fun a b _ _ => mixF_set)) hrw (by simp) rfl (Cg), trivial⟩ | exact trivial)
      (case' hN => rfl)
      (case' hS => rfl)
      all_goals (first | exact Ld | (rfl))
    ·
      have hjn : j = n := by omega
      subst hjn
      rw [mixF_row]
      repeat' (first | ((first | apply Ba | (apply Bb; (· rfl); (· rfl)) | (apply Bc; (· exact nxE)) | (apply Bd; (· rfl); (· rfl); (· exact nxE))); (· first | exact Ok.pe)) | ((first | apply Ca | (apply Cb; (· exact nxE))); (· first | exact Ok.e0)) | refine Sx ?_ | (refine Sy (fun h => ?_) (fun h => ?_) <;> try (exfalso; omega; done)) | refine Sz (fun h => ?_) (fun h => ?_))
      refine ⟨⟨i + 1, by omega⟩, ?_, by simp only; omega⟩
      (apply Le.headG [_] [{ l := ⟨1, []⟩, k := 1, R := TR (tabF (i + 1) j (mixF (tuF f) zz (i + 1) 0)), nils := m - (i + 1), src := ⟨1, []⟩, base := ⟨1, []⟩ }] (fun _ => False))
      (case' hlen => rfl)
      (case' hms => rfl)
      all_goals (try dsimp only [srcs])
      (case' hfr | hob => (repeat' (first | refine La ?_ ?_ | exact Lc | refine Lo ?_ | refine ⟨⟨_, rfl, ?_⟩, ?_⟩ | refine Lx ?_)))
      (case' hok => first | exact ⟨MI.ok_same rfl (Cg), trivial⟩ | exact trivial)
      (case' hN => rfl)
      (case' hS => rfl)
      all_goals (first | exact Ld | (rfl))
  ·
    have him : i = m := by omega
    subst him
    rw [Nat.sub_self, mixF_all]
    repeat' (first | ((first | apply Ba | (apply Bb; (· rfl); (· rfl)) | (apply Bc; (· exact nxE)) | (apply Bd; (· rfl); (· rfl); (· exact nxE))); (· first | exact Ok.pe)) | ((first | apply Ca | (apply Cb; (· exact nxE))); (· first | exact Ok.e0)) | refine Sx ?_ | (refine Sy (fun h => ?_) (fun h => ?_) <;> try (exfalso; omega; done)) | refine Sz (fun h => ?_) (fun h => ?_))
    refine Ya ?_
    (apply Le.headG [⟨0, []⟩] [mi1 ⟨1, []⟩ (TR (tabF i n (tuF f)))] (fun _ => False))
    (case' hlen => rfl)
    (case' hms => rfl)
    all_goals (try dsimp only [srcs])
    (case' hfr | hob => (repeat' (first | refine La ?_ ?_ | exact Lc | refine Lo ?_ | refine ⟨⟨_, rfl, ?_⟩, ?_⟩ | refine Lx ?_)))
    (case' hok => first | exact ⟨MI.ok_same rfl (Cg), trivial⟩ | exact trivial)
    (case' hN => rfl)
    (case' hS => rfl)
    all_goals (first | exact Ld | (rfl))
set_option maxHeartbeats 1000000 in
theorem transposed_ac [Mode] (f : Nat → Nat → Int) (n : Nat) (h0 : 0 < n) (hn : n ≤ 1000) : AC Try.prog 79 [TL (tabF n n f)] H0 (own1 1 n) (hpM 1 (TR (tabF n n (tuF f)))) := by
  have hlen : (mRows 1 (TR (tabF n n f))).length = n := by rw [mTR_len, tabF_len]
  have hR0 : (mRows 1 (TR (tabF n n f)))[(0 : Int).toNat]? = some [.sl 1 (IR (rowF n (f 0)))] := TR_get (tabF_get h0)
  have hR0l : (IR (rowF n (f 0))).length = n := by rw [IR_len, rowF_len]
  have hF := mbyTu_ac n n n rfl rfl f hn hn
  refine AC.of_body 0 Try.func79 rfl (fun l h => absurd rfl h) (fun C hC => ?_)
  have hD : ∀ l, ¬ C.D0 l := fun l h => (hC l).1 h rfl
  simp only [startFr, Try.ntmps79, List.length_cons, List.length_nil, Nat.reduceAdd, Nat.reduceSub, List.replicate_succ, List.replicate_zero, List.cons_append, List.nil_append]
  repeat' (first | ((first | apply Ba | (apply Bb; (· rfl); (· rfl)) | (apply Bc; (· exact nxE)) | (apply Bd; (· rfl); (· rfl); (· exact nxE))); (· first | exact Ok.lenD rfl rfl hlen | exact Ok.lenD rfl rfl hR0l | exact OpOk.callSX (hs1 (TD (tabF n n f))) [mi1 ⟨1, []⟩ (TR (tabF n n (tuF f)))] rfl rfl hF (by intro p hp; simp only [List.mem_cons, List.not_mem_nil, or_false] at hp; rcases hp with rfl; rfl) hs1_ok (by simp [Loc.cov]) (.cons (.dd _) (.cons (.dd _) (.cons (AR.clo' .nil (.cons (AR.ptr _ _ _ _ (by simp)) .nil)) .nil))) (by simp [rn, emb]; rfl) | exact Ok.pe)) | ((first | apply Ca | (apply Cb; (· exact nxE))); (· first | exact OpOk.callSX (hs1 (TD (tabF n n f))) [mi1 ⟨1, []⟩ (TR (tabF n n (tuF f)))] rfl rfl hF (by intro p hp; simp only [List.mem_cons, List.not_mem_nil, or_false] at hp; rcases hp with rfl; rfl) hs1_ok (by simp [Loc.cov]) (.cons (.dd _) (.cons (.dd _) (.cons (AR.clo' .nil (.cons (AR.ptr _ _ _ _ (by simp)) .nil)) .nil))) (by simp [rn, emb]; rfl) | exact Ok.e0)) | refine Sx ?_ | (refine Sy (fun h => ?_) (fun h => ?_) <;> try (exfalso; omega; done)) | refine Sz (fun h => ?_) (fun h => ?_))
  refine Ya ?_
  (apply Le.headG [] [{ l := ⟨0, []⟩, k := 1, R := TR (tabF n n (tuF f)), src := ⟨9, [1]⟩, base := ⟨9, [1]⟩ }] (fun _ => False))
  (case' hlen => rfl)
  (case' hms => rfl)
  all_goals (try dsimp only [srcs])
  (case' hfr | hob => (repeat' (first | refine La ?_ ?_ | exact Lc | refine Lo ?_ | refine ⟨⟨_, rfl, ?_⟩, ?_⟩ | refine Lx ?_)))
  (case' hok => first | exact ⟨MI.ok_same rfl (Cg), trivial⟩ | exact trivial)
  (case' hN => rfl)
  (case' hS => rfl)
  all_goals (first | exact Ld | (rfl))
end Go.Proofs.Ytkpoclbnnpglfaa
end

section
namespace Go.Proofs.Ytkpoclbnnpglfaa
set_option linter.unusedSimpArgs false
set_option linter.unusedVariables false
open Go Go.RowKit
attribute [local irreducible] AL AD AW OpOk Le AC thenQ blockQ EndQ

/-! ### Rows of truth values -/
/-! ### The search -/
section
variable (a : Nat → Nat → Int)
variable {a}
section
variable {n : Nat} {R : Nat → Prop} (hR : ∀ i k, i < n → k < n → R k → a i k ≠ BOT → R i)
include hR
end
end
end Go.Proofs.Ytkpoclbnnpglfaa
end

section
namespace Go.Proofs.Ytkpoclbnnpglfaa
set_option linter.unusedSimpArgs false
set_option linter.unusedVariables false
open Go Go.RowKit

def RchP (W : Nat → Nat → Int) (n u e : Nat) : Prop := ∃ l : List Nat, (∀ x ∈ l, x < n) ∧ kP W u l ∧ kE u l = e
section
variable {W : Nat → Nat → Int} {n : Nat}
theorem RchP.refl {u : Nat} : RchP W n u u := ⟨[], by simp, trivial, rfl⟩
theorem RchP.one {u v : Nat} (hv : v < n) (h : W v u ≠ BOT) : RchP W n u v := ⟨[v], by simpa using hv, ⟨h, trivial⟩, rfl⟩
theorem RchP.trans {u v w : Nat} (h : RchP W n u v) (h' : RchP W n v w) : RchP W n u w := by
  obtain ⟨a, a1, a2, rfl⟩ := h
  obtain ⟨b, b1, b2, rfl⟩ := h'
  exact ⟨a ++ b, fun x hx => (List.mem_append.1 hx).elim (a1 x) (b1 x), (kP_app a b u).2 ⟨a2, b2⟩, kE_app a b u⟩
/-! ### By middle nodes -/
/-! ### The matrix of the nodes that reach one -/
end
end Go.Proofs.Ytkpoclbnnpglfaa
end

section
namespace Go.Proofs.Ytkpoclbnnpglfaa
set_option linter.unusedSimpArgs false
set_option linter.unusedVariables false
open Go Go.RowKit
attribute [local irreducible] AL AD AW OpOk Le AC thenQ blockQ EndQ

end Go.Proofs.Ytkpoclbnnpglfaa
end

section
namespace Go.Proofs.Ytkpoclbnnpglfaa
set_option linter.unusedSimpArgs false
set_option linter.unusedVariables false
open Go Go.RowKit
attribute [local irreducible] AL AD AW OpOk Le AC thenQ blockQ EndQ

/-! ### Nodes -/
def nodB (t : List (List Int)) (e : Int) : Bool := wi e 0 ((t.length : Int) - 1)
theorem l03Node_ac [Mode] (t : List (List Int)) (e : Int) (ht : t.length ≤ 100000000) : AC Try.prog 84 [TL t, I e] H0 (Bo (nodB t e)) H0 := by
  have hW := l01In_ac e 0 ((t.length : Int) - 1)
  have hlen : (mRows 1 (TR t)).length = t.length := mTR_len
  refine AC.of_body 0 Try.func84 rfl (fun l h => absurd rfl h) (fun C hC => ?_)
  have hD : ∀ l, ¬ C.D0 l := fun l h => (hC l).1 h rfl
  simp only [startFr, Try.ntmps84, List.length_cons, List.length_nil, Nat.reduceAdd, Nat.reduceSub, List.replicate_succ, List.replicate_zero, List.cons_append, List.nil_append]
  repeat' (first | ((first | apply Ba | (apply Bb; (· rfl); (· rfl)) | (apply Bc; (· exact nxE)) | (apply Bd; (· rfl); (· rfl); (· exact nxE))); (· first | exact Ok.lenD rfl rfl hlen | exact Kz rfl rfl (hW) (Ad (Ad (Ad An))) | exact Ok.pe)) | ((first | apply Ca | (apply Cb; (· exact nxE))); (· first | exact Ok.e0)) | refine Sx ?_ | (refine Sy (fun h => ?_) (fun h => ?_) <;> try (exfalso; omega; done)) | refine Sz (fun h => ?_) (fun h => ?_))
  refine Ya ?_
  (apply Le.headZ (hs := []) [] rfl)
  all_goals (try dsimp only [srcs])
  (case' hfr => (repeat' (first | refine La ?_ ?_ | exact Lc | refine Lo ?_ | refine ⟨⟨_, rfl, ?_⟩, ?_⟩ | refine Lx ?_)))
  all_goals (first | exact Ld | exact trivial | (rfl))
theorem colN_tab [Mode] {n : Nat} {f : Nat → Nat → Int} (h : 1 ≤ n) : colN (tabF n n f) = n := by
  unfold colN
  cases hn : tabF n n f with
  | nil => have := congrArg List.length hn; rw [tabF_len] at this; simp at this; omega
  | cons a q => exact tabF_row2 a (by rw [hn]; simp)
theorem isSq_tab [Mode] {n : Nat} {f : Nat → Nat → Int} (h1 : 1 ≤ n) (h2 : n ≤ 10) (hv : ∀ i j, i < n → j < n → isVal (f i j) = true) : isSq (tabF n n f) = true := by
  unfold isSq isMat
  rw [colN_tab h1, tabF_len, Bool.and_eq_true, Bool.and_eq_true, decide_eq_true_eq, decide_eq_true_eq, Bool.not_eq_true', List.any_eq_false]
  refine ⟨⟨by omega, fun r hr => ?_⟩, rfl⟩
  obtain ⟨i, hi, rfl⟩ := List.mem_map.1 hr
  unfold badM
  rw [rowF_len]
  simp only [decide_true, Bool.not_true, Bool.false_or, Bool.not_eq_true, Bool.not_eq_false', List.all_eq_true]
  intro x hx
  obtain ⟨j, hj, rfl⟩ := List.mem_map.1 hx
  exact hv i j (List.mem_range.1 hi) (List.mem_range.1 hj)
/-! ### The mean upstream -/
end Go.Proofs.Ytkpoclbnnpglfaa
end

section
namespace Go.Proofs.Ytkpoclbnnpglfaa
set_option linter.unusedSimpArgs false
set_option linter.unusedVariables false

theorem WM_kP {W : Nat → Nat → Int} : ∀ {c : List Nat} {u v : Nat}, WM W u c v ↔ kP W u (c ++ [v])
  | [], u, v => by simp [WM, kP]
  | m :: c, u, v => by simp only [WM, List.cons_append, kP]; rw [WM_kP (c := c)]
theorem wM_kW {W : Nat → Nat → Int} : ∀ {c : List Nat} {u v : Nat}, wM W u c v = kW W u (c ++ [v])
  | [], u, v => by simp [wM, kW]
  | m :: c, u, v => by simp only [wM, List.cons_append, kW]; rw [wM_kW (c := c)]
theorem over_np {W : Nat → Nat → Int} {n : Nat} : overF W n 0 = [] ↔ NoPos W n := by
  constructor
  · intro h u c hu hc hw
    apply Classical.byContradiction
    intro hn
    have hl : ∀ x ∈ c ++ [u], x < n := fun x hx => by
      rcases List.mem_append.1 hx with hx | hx
      · exact hc x hx
      · simp at hx; omega
    obtain ⟨f, r, hy⟩ := cyw_of (over := 0) (.inl rfl) (c ++ [u]).length u (c ++ [u]) (Nat.le_refl _) hu hl (by simp) (WM_kP.1 hw) (by rw [kE_app]; rfl) (by rw [← wM_kW]; omega)
    exact overF_f hy h
  · intro h
    apply Classical.byContradiction
    intro hn
    obtain ⟨f, r, -, hy⟩ := overF_w hn
    have h1 : WM W f r f := WM_kP.2 ((kP_app r [f] f).2 ⟨hy.path, by simp only [kP]; exact ⟨hy.close, trivial⟩⟩)
    have h2 : wM W f r f = kW W f r + W f (kE f r) := by rw [wM_kW, kW_app]; simp [kW]
    have h3 := h f r hy.lt (fun x hx => (hy.gt x hx).2) h1
    have h4 := hy.more
    omega
end Go.Proofs.Ytkpoclbnnpglfaa
end

section
namespace Go.Proofs.Ytkpoclbnnpglfaa
set_option linter.unusedSimpArgs false
set_option linter.unusedVariables false
open Go Go.RowKit
attribute [local irreducible] AL AD AW OpOk Le AC thenQ blockQ EndQ

/-- A matrix of bonds. -/
structure BmOk (t : List (List Int)) (n : Nat) : Prop where
  sq : Sq t n
  n0 : 1 ≤ n
  nn : n ≤ 10
  bnd : ∀ i j, i < n → j < n → entN t i j = BOT ∨ (-1000000 ≤ entN t i j ∧ entN t i j ≤ 1000000)
theorem bmT_ok [Mode] {n : Nat} {bs : List Bn} (h0 : 1 ≤ n) (hn : n ≤ 10) (hb : ∀ b ∈ bs, bdB n b) : BmOk (bmT n bs) n := ⟨bmT_sq n bs, h0, hn, bmT_bnd hb⟩
theorem BmOk.isSq [Mode] {t : List (List Int)} {n : Nat} (h : BmOk t n) : isSq t = true := by
  rw [← sq_tab h.sq]
  refine isSq_tab h.n0 h.nn fun i j hi hj => ?_
  rcases h.bnd i j hi hj with h1 | h1
  · rw [h1]; rfl
  · unfold isVal; rw [Bool.or_eq_true]; exact .inr (wi_iff.2 h1)
theorem BmOk.out [Mode] {t : List (List Int)} {n : Nat} (h : BmOk t n) {u v : Nat} (ho : n ≤ v ∨ n ≤ u) : entN t v u = 0 := by
  rw [← sq_tab h.sq]
  unfold entN tabF rowF
  rcases ho with ho | ho
  · simp [ho]
  · by_cases hv : v < n
    · simp [hv, ho]
    · simp [Nat.le_of_not_lt hv]
theorem BmOk.sb [Mode] {t : List (List Int)} {n : Nat} (h : BmOk t n) : StarB t n := ⟨⟨h.sq.l, h.sq.r⟩, h.n0, h.nn, fun u v hne => by
  by_cases ho : n ≤ v ∨ n ≤ u
  · rw [h.out ho]; omega
  · have := (h.bnd v u (by omega) (by omega)).resolve_left hne
    omega⟩
theorem BmOk.big [Mode] {t : List (List Int)} {n : Nat} (h : BmOk t n) : bigB t := fun v u => by
  by_cases ho : n ≤ v ∨ n ≤ u
  · rw [h.out ho]; omega
  · rcases h.bnd v u (by omega) (by omega) with h1 | h1
    · exact .inl h1
    · exact .inr (by omega)
end Go.Proofs.Ytkpoclbnnpglfaa
end
