/-
  Walks in the abstract reading, part 7.
-/
import Derived.Test.YtegfjedklebbfaaKU6
import Derived.Test.YtegfjedklebbfaaKU4
import Derived.Test.YtegfjedklebbfaaKA2
import Derived.Test.YtegfjedklebbfaaKU1
import Derived.Test.YtegfjedklebbfaaKA3
import Derived.Test.YtegfjedklebbfaaKU2
import Derived.Test.YtegfjedklebbfaaKU3
section
namespace Go.Proofs.Ytegfjedklebbfaa
set_option linter.unusedSimpArgs false
set_option linter.unusedVariables false
open Go Go.RowKit
attribute [local irreducible] AL AD AW OpOk Le AC thenQ blockQ EndQ

/-- A table of which the first rows, and the first cells of the next one, have been written. -/
def mixF (f g : Nat → Nat → Int) (K J : Nat) : Nat → Nat → Int := fun a b => if a < K ∨ (a = K ∧ b < J) then f a b else g a b
theorem mixF_0 {f g : Nat → Nat → Int} {m n : Nat} : tabF m n (mixF f g 0 0) = tabF m n g := tabF_congr fun i j _ _ => by simp [mixF]
theorem mixF_row {f g : Nat → Nat → Int} {m n K : Nat} : tabF m n (mixF f g K n) = tabF m n (mixF f g (K + 1) 0) := tabF_congr fun i j _ hj => by
  unfold mixF
  by_cases h : i < K ∨ (i = K ∧ j < n)
  · rw [if_pos h, if_pos (by omega)]
  · rw [if_neg h, if_neg (by omega)]
theorem mixF_all {f g : Nat → Nat → Int} {m n : Nat} : tabF m n (mixF f g m 0) = tabF m n f := tabF_congr fun i j hi _ => by simp [mixF, hi]
theorem mixF_set {f g : Nat → Nat → Int} {K J a b : Nat} : mixF f g K (J + 1) a b = if a = K ∧ b = J then f K J else mixF f g K J a b := by
  unfold mixF
  by_cases h : a = K ∧ b = J
  · obtain ⟨rfl, rfl⟩ := h; simp
  · rw [if_neg h]
    by_cases h2 : a < K ∨ (a = K ∧ b < J)
    · rw [if_pos h2, if_pos (by omega)]
    · rw [if_neg h2, if_neg (by omega)]
abbrev alFn (t : List (List Int)) (xs : List Pl) : Nat → Nat → Int := fun a b => alT t (a + 1) b xs
theorem alTab_tabF {t : List (List Int)} {xs : List Pl} {m n : Nat} : alTab t xs m n = tabF m n (alFn t xs) := rfl
set_option maxHeartbeats 1000000 in
theorem allowedTimes_ac (n m : Nat) (xs : List Pl) (t : List (List Int)) (hx : xs.length ≤ 100000000) (hv : ∀ p ∈ xs, okPl n p) (ht : Rc t m n) (hb : bndT t) (hn : n ≤ 10) (hm : m ≤ 1000000) : AC Try.prog 149 [grD n xs, TL t] H0 (own1 1 m) (hpM 1 (TR (alTab t xs m n))) := by
  have htl := ht.l
  have hcl := cloneMatrix_ac t (by omega) (fun r hr => by rw [ht.r r hr]; omega)
  rw [htl] at hcl
  refine AC.of_body 0 Try.func149 rfl (fun l h => absurd rfl h) (fun C hC => ?_)
  have hD : ∀ l, ¬ C.D0 l := fun l h => (hC l).1 h rfl
  simp only [startFr, Try.ntmps149, List.length_cons, List.length_nil, Nat.reduceAdd, Nat.reduceSub, List.replicate_succ, List.replicate_zero, List.cons_append, List.nil_append]
  repeat' (first | refine Qa ?_ | ((first | apply Ba | (apply Bb; (· rfl); (· rfl)) | (apply Bc; (· exact nxE)) | (apply Bd; (· rfl); (· rfl); (· exact nxE))); (· first | exact Tb rfl rfl (hcl) (Sd Sn) | exact Ok.pe); (first | refine Na ?_ | refine Nb ?_)) | ((first | apply Ca | (apply Cb; (· exact nxE))); (· first | exact Tb rfl rfl (hcl) (Sd Sn) | exact Ok.e0); (first | refine Nc ?_ | refine Nd ?_)) | refine Oa ?_ | refine Ob ?_ | ((first | refine Ga (fun h => ?_) (fun h => ?_) | refine AD.gsplit rfl rfl (fun h => ?_) (fun h => ?_)) <;> try (exfalso; omega; done)) | (first | refine AL.gsplitB rfl rfl (fun h => ?_) (fun h => ?_) | refine AD.gsplitB rfl rfl (fun h => ?_) (fun h => ?_)) | refine Fa ?_ | refine Qb ?_ | refine Qc ?_ | refine Qd ?_ | refine Fb ?_ | refine Qe ?_ | refine Wa ?_ | refine Wb ?_ | (refine AW.ite rfl (fun h => ?_) (fun h => ?_) <;> try (exfalso; omega; done)) | refine AW.cond _ rfl (fun h => ?_) (fun h => ?_) | refine Qf ?_ | refine Qg ?_ | refine Qh ?_ | refine Qi ?_ | refine Xa ?_ | refine Xb ?_ | refine Xc ?_ | refine Xd ?_ | refine Fc ?_)
  refine AW.loop (X := {k : Nat // k ≤ m}) (fun k => ⟨[Oo, TL t, Bx 2 0, Oo, Oo, .own 1 ⟨1, []⟩ 0 m, Oo, Oo, Oo, Oo, Oo, .own 1 ⟨1, []⟩ 0 m, I m, I (k.1 : Nat), Oo, Oo, Oo, Oo, Oo, Oo, Oo, Oo, Oo, Oo, Oo, Oo, Oo, Oo, Oo, Oo, Oo, Oo, Oo, Oo], heapX [(⟨0, []⟩, ⟨0, []⟩, ⟨2, [[I n, PL xs]]⟩)] [mi1 ⟨1, []⟩ (TR (tabF m n (mixF (alFn t xs) (entN t) k.1 0)))], 900⟩) (fun k => m - k.1) ⟨0, Nat.zero_le _⟩ ?_ (fun k => ?_)
  ·
    (apply Le.headG [_] [{ l := ⟨1, []⟩, k := 1, R := TR (tabF m n (mixF (alFn t xs) (entN t) 0 0)), src := ⟨3, [0]⟩, base := ⟨3, [0]⟩ }] (fun _ => False))
    (case' hlen => rfl)
    (case' hms => rfl)
    all_goals (try dsimp only [srcs])
    (case' hfr | hob => (repeat' (first | refine La ?_ ?_ | exact Lc | refine Lo ?_ | refine ⟨⟨_, rfl, ?_⟩, ?_⟩ | refine ObA.box ?_ | refine ObA.frE ?_ | refine ObA.dataE ?_ | refine ARs.agg ?_ | refine ARs.tup ?_ | refine AR.b ?_ | refine AR.iE ?_ | refine AR.e ?_ | refine AR.clo' ARs.nil ?_)))
    (case' hok => first | exact ⟨by rw [mixF_0, tabF_self ht]; exact MI.ok_same rfl (Cg), trivial⟩ | exact trivial)
    (case' hN => rfl)
    (case' hS => rfl)
    all_goals (first | exact Ld | (rfl))
  obtain ⟨i, hi⟩ := k
  simp only
  by_cases hlt : i < m
  ·
    repeat' (first | refine Qa ?_ | ((first | apply Ba | (apply Bb; (· rfl); (· rfl)) | (apply Bc; (· exact nxE)) | (apply Bd; (· rfl); (· rfl); (· exact nxE))); (· first | exact Ok.ldT rfl rfl rfl (TRF_get hlt) | exact Ok.pe); (first | refine Na ?_ | refine Nb ?_)) | ((first | apply Ca | (apply Cb; (· exact nxE))); (· first | exact Ok.e0); (first | refine Nc ?_ | refine Nd ?_)) | refine Oa ?_ | refine Ob ?_ | ((first | refine Ga (fun h => ?_) (fun h => ?_) | refine AD.gsplit rfl rfl (fun h => ?_) (fun h => ?_)) <;> try (exfalso; omega; done)) | (first | refine AL.gsplitB rfl rfl (fun h => ?_) (fun h => ?_) | refine AD.gsplitB rfl rfl (fun h => ?_) (fun h => ?_)) | refine Fa ?_ | refine Qb ?_ | refine Qc ?_ | refine Qd ?_ | refine Fb ?_ | refine Qe ?_ | refine Wa ?_ | refine Wb ?_ | (refine AW.ite rfl (fun h => ?_) (fun h => ?_) <;> try (exfalso; omega; done)) | refine AW.cond _ rfl (fun h => ?_) (fun h => ?_) | refine Qf ?_ | refine Qg ?_ | refine Qh ?_ | refine Qi ?_ | refine Xa ?_ | refine Xb ?_ | refine Xc ?_ | refine Xd ?_ | refine Fc ?_)
    refine AW.loop (X := {k : Nat // k ≤ n}) (fun k => ⟨[Oo, TL t, Bx 2 0, Oo, Oo, .own 1 ⟨1, []⟩ 0 m, I i, .own 1 (Loc.at ⟨1, []⟩ i) 0 n, Oo, Oo, Oo, .own 1 ⟨1, []⟩ 0 m, I m, I i, Oo, Oo, Oo, Oo, Oo, I n, I (k.1 : Nat), Oo, Oo, Oo, Oo, Oo, Oo, Oo, Oo, Oo, Oo, Oo, Oo, Oo], heapX [(⟨0, []⟩, ⟨0, []⟩, ⟨2, [[I n, PL xs]]⟩)] [mi1 ⟨1, []⟩ (TR (tabF m n (mixF (alFn t xs) (entN t) i k.1)))], 900⟩) (fun k => n - k.1) ⟨0, Nat.zero_le _⟩ ?_ (fun k => ?_)
    ·
      (apply Le.headG [_] [mi1 ⟨1, []⟩ (TR (tabF m n (mixF (alFn t xs) (entN t) i 0)))] (fun _ => False))
      (case' hlen => rfl)
      (case' hms => rfl)
      all_goals (try dsimp only [srcs])
      (case' hfr | hob => (repeat' (first | refine La ?_ ?_ | exact Lc | refine Lo ?_ | refine ⟨⟨_, rfl, ?_⟩, ?_⟩ | refine ObA.box ?_ | refine ObA.frE ?_ | refine ObA.dataE ?_ | refine ARs.agg ?_ | refine ARs.tup ?_ | refine AR.b ?_ | refine AR.iE ?_ | refine AR.e ?_ | refine AR.clo' ARs.nil ?_)))
      (case' hok => first | exact ⟨MI.ok_same rfl (Cg), trivial⟩ | exact trivial)
      (case' hN => rfl)
      (case' hS => rfl)
      all_goals (first | exact Ld | ((simp [rowF_len]; done)))
    obtain ⟨j, hj⟩ := k
    simp only
    have hrw := TRF_get (n := n) (f := mixF (alFn t xs) (entN t) i j) hlt
    by_cases hlt2 : j < n
    ·
      have hA := allowedTime_ac n m xs t i j hx hv ht hb hlt hm
      repeat' (first | refine Qa ?_ | ((first | apply Ba | (apply Bb; (· rfl); (· rfl)) | (apply Bc; (· exact nxE)) | (apply Bd; (· rfl); (· rfl); (· exact nxE))); (· first | exact Kz rfl rfl (hA) (Aa (Ad (Ad An)) (Ad (Ad (Ad An)))) | exact Ok.st1 rfl rfl (congrArg (Option.map (dobj 1)) hrw) (by simp [rowF_len]; omega) (by rw [IRF_get hlt2]; rfl) rfl rfl IR_set | exact Ok.pe); (first | refine Na ?_ | refine Nb ?_)) | ((first | apply Ca | (apply Cb; (· exact nxE))); (· first | exact Ok.st1 rfl rfl (congrArg (Option.map (dobj 1)) hrw) (by simp [rowF_len]; omega) (by rw [IRF_get hlt2]; rfl) rfl rfl IR_set | exact Ok.e0); (first | refine Nc ?_ | refine Nd ?_)) | refine Oa ?_ | refine Ob ?_ | ((first | refine Ga (fun h => ?_) (fun h => ?_) | refine AD.gsplit rfl rfl (fun h => ?_) (fun h => ?_)) <;> try (exfalso; omega; done)) | (first | refine AL.gsplitB rfl rfl (fun h => ?_) (fun h => ?_) | refine AD.gsplitB rfl rfl (fun h => ?_) (fun h => ?_)) | refine Fa ?_ | refine Qb ?_ | refine Qc ?_ | refine Qd ?_ | refine Fb ?_ | refine Qe ?_ | refine Wa ?_ | refine Wb ?_ | (refine AW.ite rfl (fun h => ?_) (fun h => ?_) <;> try (exfalso; omega; done)) | refine AW.cond _ rfl (fun h => ?_) (fun h => ?_) | refine Qf ?_ | refine Qg ?_ | refine Qh ?_ | refine Qi ?_ | refine Xa ?_ | refine Xb ?_ | refine Xc ?_ | refine Xd ?_ | refine Fc ?_)
      refine ⟨⟨j + 1, by omega⟩, ?_, by simp only; omega⟩
      (apply Le.headG [_] [mi1 ⟨1, []⟩ (TR (tabF m n (mixF (alFn t xs) (entN t) i (j + 1))))] (fun _ => False))
      (case' hlen => rfl)
      (case' hms => rfl)
      all_goals (try dsimp only [srcs])
      (case' hfr | hob => (repeat' (first | refine La ?_ ?_ | exact Lc | refine Lo ?_ | refine ⟨⟨_, rfl, ?_⟩, ?_⟩ | refine ObA.box ?_ | refine ObA.frE ?_ | refine ObA.dataE ?_ | refine ARs.agg ?_ | refine ARs.tup ?_ | refine AR.b ?_ | refine AR.iE ?_ | refine AR.e ?_ | refine AR.clo' ARs.nil ?_)))
      (case' hok => first | exact ⟨MI.ok_row (tabF_set (fun a b _ _ => mixF_set)) hrw (by simp) rfl (Cg), trivial⟩ | exact trivial)
      (case' hN => rfl)
      (case' hS => rfl)
      all_goals (first | exact Ld | (rfl))
    ·
      have hjn : j = n := by omega
      subst hjn
      rw [mixF_row]
      repeat' (first | refine Qa ?_ | ((first | apply Ba | (apply Bb; (· rfl); (· rfl)) | (apply Bc; (· exact nxE)) | (apply Bd; (· rfl); (· rfl); (· exact nxE))); (· first | exact Ok.pe); (first | refine Na ?_ | refine Nb ?_)) | ((first | apply Ca | (apply Cb; (· exact nxE))); (· first | exact Ok.e0); (first | refine Nc ?_ | refine Nd ?_)) | refine Oa ?_ | refine Ob ?_ | ((first | refine Ga (fun h => ?_) (fun h => ?_) | refine AD.gsplit rfl rfl (fun h => ?_) (fun h => ?_)) <;> try (exfalso; omega; done)) | (first | refine AL.gsplitB rfl rfl (fun h => ?_) (fun h => ?_) | refine AD.gsplitB rfl rfl (fun h => ?_) (fun h => ?_)) | refine Fa ?_ | refine Qb ?_ | refine Qc ?_ | refine Qd ?_ | refine Fb ?_ | refine Qe ?_ | refine Wa ?_ | refine Wb ?_ | (refine AW.ite rfl (fun h => ?_) (fun h => ?_) <;> try (exfalso; omega; done)) | refine AW.cond _ rfl (fun h => ?_) (fun h => ?_) | refine Qf ?_ | refine Qg ?_ | refine Qh ?_ | refine Qi ?_ | refine Xa ?_ | refine Xb ?_ | refine Xc ?_ | refine Xd ?_ | refine Fc ?_)
      refine ⟨⟨i + 1, by omega⟩, ?_, by simp only; omega⟩
      (apply Le.headG [_] [mi1 ⟨1, []⟩ (TR (tabF m j (mixF (alFn t xs) (entN t) (i + 1) 0)))] (fun _ => False))
      (case' hlen => rfl)
      (case' hms => rfl)
      all_goals (try dsimp only [srcs])
      (case' hfr | hob => (repeat' (first | refine La ?_ ?_ | exact Lc | refine Lo ?_ | refine ⟨⟨_, rfl, ?_⟩, ?_⟩ | refine ObA.box ?_ | refine ObA.frE ?_ | refine ObA.dataE ?_ | refine ARs.agg ?_ | refine ARs.tup ?_ | refine AR.b ?_ | refine AR.iE ?_ | refine AR.e ?_ | refine AR.clo' ARs.nil ?_)))
      (case' hok => first | exact ⟨MI.ok_same rfl (Cg), trivial⟩ | exact trivial)
      (case' hN => rfl)
      (case' hS => rfl)
      all_goals (first | exact Ld | (rfl))
  ·
    have him : i = m := by omega
    subst him
    rw [mixF_all]
    repeat' (first | refine Qa ?_ | ((first | apply Ba | (apply Bb; (· rfl); (· rfl)) | (apply Bc; (· exact nxE)) | (apply Bd; (· rfl); (· rfl); (· exact nxE))); (· first | exact Ok.pe); (first | refine Na ?_ | refine Nb ?_)) | ((first | apply Ca | (apply Cb; (· exact nxE))); (· first | exact Ok.e0); (first | refine Nc ?_ | refine Nd ?_)) | refine Oa ?_ | refine Ob ?_ | ((first | refine Ga (fun h => ?_) (fun h => ?_) | refine AD.gsplit rfl rfl (fun h => ?_) (fun h => ?_)) <;> try (exfalso; omega; done)) | (first | refine AL.gsplitB rfl rfl (fun h => ?_) (fun h => ?_) | refine AD.gsplitB rfl rfl (fun h => ?_) (fun h => ?_)) | refine Fa ?_ | refine Qb ?_ | refine Qc ?_ | refine Qd ?_ | refine Fb ?_ | refine Qe ?_ | refine Wa ?_ | refine Wb ?_ | (refine AW.ite rfl (fun h => ?_) (fun h => ?_) <;> try (exfalso; omega; done)) | refine AW.cond _ rfl (fun h => ?_) (fun h => ?_) | refine Qf ?_ | refine Qg ?_ | refine Qh ?_ | refine Qi ?_ | refine Xa ?_ | refine Xb ?_ | refine Xc ?_ | refine Xd ?_ | refine Fc ?_)
    refine Ya ?_
    (apply Le.headG [] [{ l := ⟨0, []⟩, k := 1, R := TR (alTab t xs i n), src := ⟨1, []⟩, base := ⟨1, []⟩ }] (fun _ => False))
    (case' hlen => rfl)
    (case' hms => rfl)
    all_goals (try dsimp only [srcs])
    (case' hfr | hob => (repeat' (first | refine La ?_ ?_ | exact Lc | refine Lo ?_ | refine ⟨⟨_, rfl, ?_⟩, ?_⟩ | refine ObA.box ?_ | refine ObA.frE ?_ | refine ObA.dataE ?_ | refine ARs.agg ?_ | refine ARs.tup ?_ | refine AR.b ?_ | refine AR.iE ?_ | refine AR.e ?_ | refine AR.clo' ARs.nil ?_)))
    (case' hok => first | exact ⟨MI.ok_same rfl (Cg), trivial⟩ | exact trivial)
    (case' hN => rfl)
    (case' hS => rfl)
    all_goals (first | exact Ld | (rfl))
theorem dueB_ok {n : Nat} {t : List (List Int)} (h : dueB n t = true) : Rc t t.length n ∧ t.length ≤ 50 ∧ ∀ i j, 0 ≤ entN t i j ∧ entN t i j ≤ 1000000 := by
  simp only [dueB, wiB, Bool.and_eq_true, List.all_eq_true, decide_eq_true_eq, wi_iff] at h
  obtain ⟨h1, h2⟩ := h
  refine ⟨⟨rfl, fun r hr => by have := (h1 r hr).1; omega⟩, by omega, fun i j => ?_⟩
  unfold entN
  by_cases hi : i < t.length
  · rw [List.getElem?_eq_getElem hi, Option.getD_some]
    by_cases hj : j < t[i].length
    · rw [List.getElem?_eq_getElem hj, Option.getD_some]
      exact (h1 _ (List.getElem_mem hi)).2.1 _ (List.getElem_mem hj)
    · rw [List.getElem?_eq_none (by omega)]; exact ⟨Int.le_refl _, by simp⟩
  · rw [show t[i]? = none from List.getElem?_eq_none (by omega)]; exact ⟨Int.le_refl _, by simp⟩
theorem dueB_bnd {n : Nat} {t : List (List Int)} (h : dueB n t = true) : bndT t := fun i j => by have := (dueB_ok h).2.2 i j; omega
theorem code_ok {ev : Int} {xs : List Pl} {t : List (List Int)} (h : goodI ev xs t = 0) : ∃ n : Nat, ev = n ∧ 1 ≤ n ∧ n ≤ 10 ∧ xs.length ≤ 30 ∧ (∀ p ∈ xs, okPl n p) ∧ dueB n t = true ∧ liveB n xs = true := by
  unfold goodI codeI liveI at h
  by_cases hg : isEG ev xs = true
  · obtain ⟨n, rfl, h1, h2, h3, h4⟩ := isEG_ok hg
    refine ⟨n, rfl, h1, h2, h3, h4, ?_⟩
    rw [if_pos hg] at h
    cases hd : dueB n t <;> cases hl : liveB n xs <;> rw [hd, hl] at h <;> simp at h ⊢
  · rw [if_neg hg] at h; simp at h
theorem hpM_nil {k : Nat} : hpM k [] = upd H0 ⟨0, []⟩ (some ⟨1, []⟩) := by
  funext l
  by_cases e : l = ⟨0, []⟩
  · subst e; rw [upd_same]; rfl
  · rw [upd_ne e]
    obtain ⟨id, sub⟩ := l
    show (if (Loc.cov ⟨0, []⟩ ⟨id, sub⟩) = true then matG ⟨0, []⟩ k [] 0 ⟨id, sub⟩ else none) = none
    split
    · unfold matG
      rw [if_neg e]
      split <;> simp
    · rfl
/-- What AllowedTimes answers. -/
def alOut (ev : Int) (xs : List Pl) (t : List (List Int)) : List (List Int) := if goodI ev xs t = 0 then alTab t xs t.length ev.toNat else []
set_option maxHeartbeats 1000000 in
theorem iAllowedTimes_ac (ev : Int) (xs : List Pl) (t : List (List Int)) (hx : xs.length ≤ 100000000) (ht : t.length ≤ 100000000) (hr : ∀ r ∈ t, r.length ≤ 100000000) : AC Try.prog 44 [grD ev xs, TL t] H0 (.tup [own1 1 (alOut ev xs t).length, I (goodI ev xs t)]) (hpM 1 (TR (alOut ev xs t))) := by
  have hc := checkDue_ac ev xs t hx ht hr
  by_cases h0 : goodI ev xs t = 0
  · obtain ⟨n, rfl, h1, h2, h3, h4, h5, h6⟩ := code_ok h0
    have hmm : t.length ≤ 1000000 := by have := (dueB_ok h5).2.1; omega
    unfold alOut
    rw [if_pos h0, h0, Int.toNat_natCast]
    have hal : (TR (alTab t xs t.length n)).length = t.length := by rw [TR_len, alTab_len]
    rw [h0] at hc
    refine AC.of_body 0 Try.func44 rfl (fun l h => absurd rfl h) (fun C hC => ?_)
    have hD : ∀ l, ¬ C.D0 l := fun l h => (hC l).1 h rfl
    simp only [startFr, Try.ntmps44, List.length_cons, List.length_nil, Nat.reduceAdd, Nat.reduceSub, List.replicate_succ, List.replicate_zero, List.cons_append, List.nil_append]
    repeat' (first | refine Qa ?_ | ((first | apply Ba | (apply Bb; (· rfl); (· rfl)) | (apply Bc; (· exact nxE)) | (apply Bd; (· rfl); (· rfl); (· exact nxE))); (· first | exact Kz rfl rfl (hc) (Aa (Ad (Ad An)) (Ad An)) | exact Tb rfl rfl (allowedTimes_ac n t.length xs t hx h4 (dueB_ok h5).1 (dueB_bnd h5) h2 hmm) (Sa (Sd (Sd Sn)) (Sd Sn)) | exact Ok.pe); (first | refine Na ?_ | refine Nb ?_)) | ((first | apply Ca | (apply Cb; (· exact nxE))); (· first | exact Tb rfl rfl (allowedTimes_ac n t.length xs t hx h4 (dueB_ok h5).1 (dueB_bnd h5) h2 hmm) (Sa (Sd (Sd Sn)) (Sd Sn)) | exact Ok.e0); (first | refine Nc ?_ | refine Nd ?_)) | refine Oa ?_ | refine Ob ?_ | ((first | refine Ga (fun h => ?_) (fun h => ?_) | refine AD.gsplit rfl rfl (fun h => ?_) (fun h => ?_)) <;> try (exfalso; omega; done)) | (first | refine AL.gsplitB rfl rfl (fun h => ?_) (fun h => ?_) | refine AD.gsplitB rfl rfl (fun h => ?_) (fun h => ?_)) | refine Fa ?_ | refine Qb ?_ | refine Qc ?_ | refine Qd ?_ | refine Fb ?_ | refine Qe ?_ | refine Wa ?_ | refine Wb ?_ | (refine AW.ite rfl (fun h => ?_) (fun h => ?_) <;> try (exfalso; omega; done)) | refine AW.cond _ rfl (fun h => ?_) (fun h => ?_) | refine Qf ?_ | refine Qg ?_ | refine Qh ?_ | refine Qi ?_ | refine Xa ?_ | refine Xb ?_ | refine Xc ?_ | refine Xd ?_ | refine Fc ?_)
    refine Yb ?_
    (apply Le.headG [] [{ l := ⟨0, []⟩, k := 1, R := TR (alTab t xs t.length n), src := ⟨11, [0]⟩, base := ⟨11, [0]⟩ }] (fun _ => False))
    (case' hlen => rfl)
    (case' hms => rfl)
    all_goals (try dsimp only [srcs])
    (case' hfr | hob => (repeat' (first | refine La ?_ ?_ | exact Lc | refine Lo ?_ | refine ⟨⟨_, rfl, ?_⟩, ?_⟩ | refine ObA.box ?_ | refine ObA.frE ?_ | refine ObA.dataE ?_ | refine ARs.agg ?_ | refine ARs.tup ?_ | refine AR.b ?_ | refine AR.iE ?_ | refine AR.e ?_ | refine AR.clo' ARs.nil ?_)))
    (case' hok => first | exact ⟨MI.ok_same rfl (Cg), trivial⟩ | exact trivial)
    (case' hN => rfl)
    (case' hS => rfl)
    all_goals (first | exact Ld | ((simp [alTab_len]; done)))
  · unfold alOut
    rw [if_neg h0]
    refine AC.of_body 0 Try.func44 rfl (fun l h => absurd rfl h) (fun C hC => ?_)
    have hD : ∀ l, ¬ C.D0 l := fun l h => (hC l).1 h rfl
    simp only [startFr, Try.ntmps44, List.length_cons, List.length_nil, Nat.reduceAdd, Nat.reduceSub, List.replicate_succ, List.replicate_zero, List.cons_append, List.nil_append]
    repeat' (first | refine Qa ?_ | ((first | apply Ba | (apply Bb; (· rfl); (· rfl)) | (apply Bc; (· exact nxE)) | (apply Bd; (· rfl); (· rfl); (· exact nxE))); (· first | exact Kz rfl rfl (hc) (Aa (Ad (Ad An)) (Ad An)) | exact Ok.pe); (first | refine Na ?_ | refine Nb ?_)) | ((first | apply Ca | (apply Cb; (· exact nxE))); (· first | exact Ok.e0); (first | refine Nc ?_ | refine Nd ?_)) | refine Oa ?_ | refine Ob ?_ | ((first | refine Ga (fun h => ?_) (fun h => ?_) | refine AD.gsplit rfl rfl (fun h => ?_) (fun h => ?_)) <;> try (exfalso; omega; done)) | (first | refine AL.gsplitB rfl rfl (fun h => ?_) (fun h => ?_) | refine AD.gsplitB rfl rfl (fun h => ?_) (fun h => ?_)) | refine Fa ?_ | refine Qb ?_ | refine Qc ?_ | refine Qd ?_ | refine Fb ?_ | refine Qe ?_ | refine Wa ?_ | refine Wb ?_ | (refine AW.ite rfl (fun h => ?_) (fun h => ?_) <;> try (exfalso; omega; done)) | refine AW.cond _ rfl (fun h => ?_) (fun h => ?_) | refine Qf ?_ | refine Qg ?_ | refine Qh ?_ | refine Qi ?_ | refine Xa ?_ | refine Xb ?_ | refine Xc ?_ | refine Xd ?_ | refine Fc ?_)
    rw [show TR ([] : List (List Int)) = [] from rfl, hpM_nil]
    exact end2nil (.inl rfl) rfl (rT rfl) (rT rfl) hD
end Go.Proofs.Ytegfjedklebbfaa
end

section
namespace Go.Proofs.Ytegfjedklebbfaa
set_option linter.unusedSimpArgs false
set_option linter.unusedVariables false
open Go Go.RowKit
attribute [local irreducible] AL AD AW OpOk Le AC thenQ blockQ EndQ

def valP (t : List (List Int)) (r : Nat) (p : Pl) : Int := entN t (r - 1 - p.k.toNat) p.f.toNat + p.d
def okP (r e : Nat) (p : Pl) : Prop := p.t = e ∧ p.k + 1 ≤ r
instance {r e : Nat} {p : Pl} : Decidable (okP r e p) := by unfold okP; exact inferInstance
theorem alS_eq {t : List (List Int)} {r e : Nat} {a : Int × Int} {p : Pl} {i : Nat} : alS t r e a p i = if okP r e p then (if a.1 < valP t r p ∨ (valP t r p = a.1 ∧ a.2 < 0) then (valP t r p, (i : Int)) else a) else a := rfl
/-- What the reference's search has found among the first k places. -/
theorem alA_spec {t : List (List Int)} {r e : Nat} {xs : List Pl} (h0 : ∀ p ∈ xs, okP r e p → 0 ≤ valP t r p) : ∀ k, k ≤ xs.length →
    (alA t r e xs k = (0, -1) ∧ ∀ j p, j < k → xs[j]? = some p → ¬ okP r e p) ∨
    ∃ (i : Nat) (p : Pl), i < k ∧ xs[i]? = some p ∧ okP r e p ∧ alA t r e xs k = (valP t r p, (i : Int)) ∧ (∀ j q, j < i → xs[j]? = some q → okP r e q → valP t r q ≠ valP t r p) ∧ ∀ j q, j < k → xs[j]? = some q → okP r e q → valP t r q ≤ valP t r p
  | 0, _ => .inl ⟨rfl, fun j p h => absurd h (Nat.not_lt_zero _)⟩
  | k + 1, hk => by
    obtain ⟨x, hx⟩ : ∃ x, xs[k]? = some x := ⟨xs[k], by simp⟩
    rw [alA_step hx, alS_eq]
    rcases alA_spec h0 k (by omega) with ⟨h1, h2⟩ | ⟨i, p, h1, h2, h3, h4, h5, h6⟩
    · rw [h1]
      by_cases hv : okP r e x
      · have := h0 x (List.mem_of_getElem? hx) hv
        rw [if_pos hv, if_pos (by simp only; omega)]
        refine .inr ⟨k, x, by omega, hx, hv, rfl, fun j q hj hq ho => absurd ho (h2 j q hj hq), fun j q hj hq ho => ?_⟩
        by_cases e : j < k
        · exact absurd ho (h2 j q e hq)
        · have : j = k := by omega
          subst this; rw [hx] at hq; cases hq; exact Int.le_refl _
      · rw [if_neg hv]
        refine .inl ⟨rfl, fun j q hj hq ho => ?_⟩
        by_cases e : j < k
        · exact h2 j q e hq ho
        · have : j = k := by omega
          subst this; rw [hx] at hq; cases hq; exact hv ho
    · rw [h4]
      by_cases hv : okP r e x
      · rw [if_pos hv]
        by_cases hlt : valP t r p < valP t r x
        · rw [if_pos (.inl hlt)]
          refine .inr ⟨k, x, by omega, hx, hv, rfl, fun j q hj hq ho e => ?_, fun j q hj hq ho => ?_⟩
          · have := h6 j q hj hq ho; omega
          · by_cases e : j < k
            · have := h6 j q e hq ho; omega
            · have : j = k := by omega
              subst this; rw [hx] at hq; cases hq; exact Int.le_refl _
        · rw [if_neg (by simp only; omega)]
          refine .inr ⟨i, p, by omega, h2, h3, rfl, h5, fun j q hj hq ho => ?_⟩
          by_cases e : j < k
          · exact h6 j q e hq ho
          · have : j = k := by omega
            subst this; rw [hx] at hq; cases hq; omega
      · rw [if_neg hv]
        refine .inr ⟨i, p, by omega, h2, h3, rfl, h5, fun j q hj hq ho => ?_⟩
        by_cases e : j < k
        · exact h6 j q e hq ho
        · have : j = k := by omega
          subst this; rw [hx] at hq; cases hq; exact absurd ho hv
/-- What the program's search has found among the first k places: the first one that gives the time v. -/
def atA (t : List (List Int)) (r e : Nat) (v : Int) (xs : List Pl) : Nat → Int
  | 0 => -1
  | k + 1 => match xs[k]? with
    | some p => if atA t r e v xs k < 0 ∧ okP r e p ∧ valP t r p = v then (k : Int) else atA t r e v xs k
    | none => atA t r e v xs k
theorem atA_step {t : List (List Int)} {r e k : Nat} {v : Int} {xs : List Pl} {p : Pl} (h : xs[k]? = some p) : atA t r e v xs (k + 1) = if atA t r e v xs k < 0 ∧ okP r e p ∧ valP t r p = v then (k : Int) else atA t r e v xs k := by rw [atA, h]
theorem atA_spec {t : List (List Int)} {r e : Nat} {v : Int} {xs : List Pl} : ∀ k, k ≤ xs.length →
    (atA t r e v xs k = -1 ∧ ∀ j p, j < k → xs[j]? = some p → okP r e p → valP t r p ≠ v) ∨
    ∃ (i : Nat) (p : Pl), i < k ∧ xs[i]? = some p ∧ okP r e p ∧ valP t r p = v ∧ atA t r e v xs k = (i : Int) ∧ ∀ j q, j < i → xs[j]? = some q → okP r e q → valP t r q ≠ v
  | 0, _ => .inl ⟨rfl, fun j p h => absurd h (Nat.not_lt_zero _)⟩
  | k + 1, hk => by
    obtain ⟨x, hx⟩ : ∃ x, xs[k]? = some x := ⟨xs[k], by simp⟩
    rw [atA_step hx]
    rcases atA_spec (t := t) (r := r) (e := e) (v := v) (xs := xs) k (by omega) with ⟨h1, h2⟩ | ⟨i, p, h1, h2, h3, h4, h5, h6⟩
    · rw [h1]
      by_cases hv : okP r e x ∧ valP t r x = v
      · rw [if_pos ⟨by decide, hv⟩]
        exact .inr ⟨k, x, by omega, hx, hv.1, hv.2, rfl, h2⟩
      · rw [if_neg (fun h => hv h.2)]
        refine .inl ⟨rfl, fun j q hj hq ho e => ?_⟩
        by_cases e2 : j < k
        · exact h2 j q e2 hq ho e
        · have : j = k := by omega
          subst this; rw [hx] at hq; cases hq; exact hv ⟨ho, e⟩
    · rw [h5, if_neg (by omega)]
      exact .inr ⟨i, p, by omega, h2, h3, h4, rfl, h6⟩
theorem atA_eq {t : List (List Int)} {r e : Nat} {xs : List Pl} (h0 : ∀ p ∈ xs, okP r e p → 0 ≤ valP t r p) : atA t r e (alA t r e xs xs.length).1 xs xs.length = (alA t r e xs xs.length).2 := by
  rcases alA_spec (t := t) h0 xs.length (Nat.le_refl _) with ⟨h1, h2⟩ | ⟨i, p, h1, h2, h3, h4, h5, h6⟩
  · rcases atA_spec (t := t) (r := r) (e := e) (v := (alA t r e xs xs.length).1) (xs := xs) xs.length (Nat.le_refl _) with ⟨g1, g2⟩ | ⟨j, q, g1, g2, g3, g4, g5, g6⟩
    · rw [g1]; rw [h1]
    · exact absurd g3 (h2 j q g1 g2)
  · rcases atA_spec (t := t) (r := r) (e := e) (v := (alA t r e xs xs.length).1) (xs := xs) xs.length (Nat.le_refl _) with ⟨g1, g2⟩ | ⟨j, q, g1, g2, g3, g4, g5, g6⟩
    · exact absurd (by rw [h4]) (g2 i p h1 h2 h3)
    · rw [g5, h4]
      rw [h4] at g4 g6
      simp only at g4 g6 ⊢
      congr 1
      rcases Nat.lt_trichotomy j i with h | h | h
      · exact absurd g4 (h5 j q h g2 g3)
      · exact h
      · exact absurd rfl (g6 i p h h2 h3)
/-- The place at a firing's end of the search. -/
theorem alA_at {t : List (List Int)} {r e : Nat} {xs : List Pl} (h0 : ∀ p ∈ xs, okP r e p → 0 ≤ valP t r p) (h : 0 ≤ (alA t r e xs xs.length).2) : ∃ (i : Nat) (p : Pl), i < xs.length ∧ xs[i]? = some p ∧ okP r e p ∧ alA t r e xs xs.length = (valP t r p, (i : Int)) := by
  rcases alA_spec (t := t) h0 xs.length (Nat.le_refl _) with ⟨h1, h2⟩ | ⟨i, p, h1, h2, h3, h4, h5, h6⟩
  · rw [h1] at h; simp at h
  · exact ⟨i, p, h1, h2, h3, h4⟩
/-! ### Causes -/
/-- Does a cause end at this firing? -/
def stopC (t : List (List Int)) (xs : List Pl) (r e : Nat) : Prop := (alA t r e xs xs.length).2 < 0 ∨ (alA t r e xs xs.length).1 < entN t (r - 1) e
instance {t : List (List Int)} {xs : List Pl} {r e : Nat} : Decidable (stopC t xs r e) := by unfold stopC; exact inferInstance
def viaC (t : List (List Int)) (xs : List Pl) (r e : Nat) : Pl := xs.getD (alA t r e xs xs.length).2.toNat ⟨0, 0, 0, 0⟩
/-- A measure that falls from firing to firing. -/
def mesC (n : Nat) (ord : List Nat) (r e : Nat) : Nat := r * (n + 1) + ord.idxOf e
theorem ord_idx {n : Nat} {xs : List Pl} {ord : List Nat} (h : ordR n xs = some ord) : ord.length = n ∧ (∀ e u, e < n → u < n → wPl xs e u = true → ord.idxOf u < ord.idxOf e) ∧ ∀ e, e < n → ord.idxOf e < n := by
  obtain ⟨h1, h2⟩ := ordF_some OrdOk.nil h
  have hl : ord.length = n := by simpa using h2
  have hm : ∀ e, e < n → e ∈ ord := fun e he => nodup_full h1.nd h1.lt hl he
  refine ⟨hl, fun e u he hu hw => ?_, fun e he => by have := List.idxOf_lt_length_iff.2 (hm e he); omega⟩
  have hi := List.idxOf_lt_length_iff.2 (hm e he)
  have hg : ord.getD (ord.idxOf e) 0 = e := by rw [List.getD_eq_getElem?_getD, List.getElem?_eq_getElem hi, Option.getD_some]; exact List.getElem_idxOf hi
  have hu2 := h1.wait _ hi u hu (by rw [hg]; exact hw)
  obtain ⟨j, hj, hj2⟩ := List.getElem_of_mem hu2
  simp only [List.length_take] at hj
  rw [List.getElem_take] at hj2
  have h3 : ord.idxOf u ≤ j := by
    refine Nat.le_of_not_lt fun h => ?_
    have h4 := List.not_of_lt_findIdx (p := fun x => x == u) (xs := ord) (i := j) h
    rw [hj2] at h4; simp at h4
  omega
theorem mesC_lt {n m : Nat} {xs : List Pl} {t : List (List Int)} {ord : List Nat} {r e : Nat} (ho : ordR n xs = some ord) (hv : ∀ p ∈ xs, okPl n p) (h0 : ∀ i j, 0 ≤ entN t i j) (he : e < n) (hs : ¬ stopC t xs r e) :
    ∃ (i : Nat) (p : Pl), xs[i]? = some p ∧ (alA t r e xs xs.length).2 = (i : Int) ∧ viaC t xs r e = p ∧ p.t = e ∧ p.k + 1 ≤ r ∧ mesC n ord (r - p.k.toNat) p.f.toNat < mesC n ord r e := by
  have h1 : ∀ p ∈ xs, okP r e p → 0 ≤ valP t r p := fun p hp _ => by have := (hv p hp).2.2.1; have := h0 (r - 1 - p.k.toNat) p.f.toNat; unfold valP; omega
  obtain ⟨i, p, hi, hp, hk, ha⟩ := alA_at (t := t) (r := r) (e := e) (xs := xs) h1 (by unfold stopC at hs; omega)
  have hvia : viaC t xs r e = p := by
    unfold viaC
    rw [ha]; simp only [Int.toNat_natCast]
    rw [List.getD_eq_getElem?_getD, hp, Option.getD_some]
  obtain ⟨g1, g2, g3⟩ := ord_idx ho
  refine ⟨i, p, hp, by rw [ha], hvia, hk.1, hk.2, ?_⟩
  obtain ⟨⟨a1, a2⟩, ⟨a3, a4⟩, _, ⟨a5, a6⟩⟩ := hv p (List.mem_of_getElem? hp)
  have hf := g3 p.f.toNat (by omega)
  unfold mesC
  by_cases hz : p.k = 0
  · have hw : wPl xs e p.f.toNat = true := by
      unfold wPl
      rw [List.any_eq_true]
      exact ⟨p, List.mem_of_getElem? hp, by have := hk.1; simp [hz, this]; omega⟩
    have := g2 e p.f.toNat he (by omega) hw
    rw [hz]; simp only [Int.toNat_zero, Nat.sub_zero]; omega
  · have h2 : (r - p.k.toNat) + 1 ≤ r := by have := hk.2; omega
    have h3 : (r - p.k.toNat) * (n + 1) + (n + 1) ≤ r * (n + 1) := by
      calc (r - p.k.toNat) * (n + 1) + (n + 1) = ((r - p.k.toNat) + 1) * (n + 1) := by rw [Nat.add_mul, Nat.one_mul]
        _ ≤ r * (n + 1) := Nat.mul_le_mul_right _ h2
    omega
end Go.Proofs.Ytegfjedklebbfaa
end

section
namespace Go.Proofs.Ytegfjedklebbfaa
set_option linter.unusedSimpArgs false
set_option linter.unusedVariables false
open Go Go.RowKit
attribute [local irreducible] AL AD AW OpOk Le AC thenQ blockQ EndQ

/-! ### Fractions -/
/-! ### Live graphs -/
theorem Live.over {n : Nat} {xs : List Pl} (hl : Live xs n) {u1 u2 over : Int} {c : List Nat} (hc : Circ xs c) (hw : over < wgt xs u1 u2 c) : overC xs u1 u2 over n ≠ [] := overC_finds hc (hl.circ hc).1 hw
end Go.Proofs.Ytegfjedklebbfaa
end

section
namespace Go.Proofs.Ytegfjedklebbfaa
open Go Go.RowKit
set_option linter.unusedSimpArgs false
set_option linter.unusedVariables false
attribute [local irreducible] AL AD AW OpOk Le AC thenQ blockQ EndQ

end Go.Proofs.Ytegfjedklebbfaa
end

section
namespace Go.Proofs.Ytegfjedklebbfaa
set_option linter.unusedSimpArgs false
set_option linter.unusedVariables false
open Go Go.RowKit
attribute [local irreducible] AL AD AW OpOk Le AC thenQ blockQ EndQ

/-! ### Chapter 27 -/
theorem ownPl_row {xs : List Pl} {i : Nat} (hi : i < xs.length) : (dobj 4 (xs.map Pl.row)).rows[0 + ((i : Nat) : Int).toNat]? = some [I (plA xs i).f, I (plA xs i).t, I (plA xs i).d, I (plA xs i).k] := by
  simp [dobj, plA, hi, Pl.row]
theorem ownPl_set {xs : List Pl} {i : Nat} {p : Pl} : (dobj 4 (xs.map Pl.row)).rows.set (0 + ((i : Nat) : Int).toNat) [I p.f, I p.t, I p.d, I p.k] = ((xs.set i p).map Pl.row).map fun r => r.map .d := by
  simp [dobj, List.map_set, Pl.row]
end Go.Proofs.Ytegfjedklebbfaa
end

section
namespace Go.Proofs.Ytegfjedklebbfaa
set_option linter.unusedSimpArgs false
set_option linter.unusedVariables false
open Go Go.RowKit
attribute [local irreducible] AL AD AW OpOk Le AC thenQ blockQ EndQ

abbrev srcO (code : List Int) (s : Src) : AObj := dobj 3 (srcR code s)
abbrev PO (xs : List Pl) : AObj := dobj 4 (xs.map Pl.row)
theorem next_ex {code : List Int} (hc : CodeOk code) {s : Src} (hs : SrcOk code s) (n : Int) : ∃ a s', 0 ≤ a ∧ a ≤ max (n - 1) 0 ∧ SrcOk code s' ∧ nxt code s n = (a, s') ∧ AC Try.prog 110 [Bx 3 0, I n] (srcH code s) (I a) (srcH code s') :=
  ⟨(nxt code s n).1, (nxt code s n).2, (nxt_ok hc hs n).1, (nxt_ok hc hs n).2.1, (nxt_ok hc hs n).2.2, rfl, l01Next_ac code hc s hs n⟩
theorem pick_ex {code : List Int} (hc : CodeOk code) {s : Src} (hs : SrcOk code s) (xs : List Int) (n : Int) (hn : (xs.length : Int) = n) (h0 : 0 < xs.length := by simp) (hx : xs.length ≤ 100 := by simp) :
    ∃ v s', v ∈ xs ∧ SrcOk code s' ∧ pick code s xs = v ∧ (nxt code s n).2 = s' ∧ AC Try.prog 120 [Bx 3 0, .own 1 ⟨1, []⟩ 0 xs.length] (upd (upd H0 ⟨1, []⟩ (some (IO xs))) ⟨0, []⟩ (some (dobj 3 (srcR code s)))) (I v) (srcH code s') := by
  subst hn
  refine ⟨pick code s xs, (nxt code s xs.length).2, ?_, (nxt_ok hc hs _).2.2, rfl, rfl, l01Pick_ac code hc s hs xs h0 hx⟩
  obtain ⟨b1, b2, b3⟩ := nxt_ok hc hs xs.length
  unfold pick
  rw [List.getElem?_eq_getElem (by omega), Option.getD_some]
  exact List.getElem_mem _
def itr {S : Type} (f : S → S) : Nat → S → S
  | 0, s => s
  | n + 1, s => f (itr f n s)
theorem itr_ok {S : Type} {f : S → S} {p : Nat → S → Prop} {s : S} (h0 : p 0 s) (h : ∀ k x, p k x → p (k + 1) (f x)) : ∀ n, p n (itr f n s)
  | 0 => h0
  | n + 1 => h n _ (itr_ok h0 h n)
/-- A place drawn. -/
def drPl (code : List Int) (ev : Int) (s : Src) : Pl × Src :=
  let a := nxt code s ev
  let b := nxt code a.2 ev
  let d := nxt code b.2 12
  let q := nxt code d.2 4
  let t := if b.1 ≤ a.1 then d.2 else q.2
  let x := nxt code t 2
  let y := nxt code x.2 3
  let k : Int × Src := if b.1 ≤ a.1 ∨ q.1 = 0 then (1 + x.1 * y.1, y.2) else (0, t)
  let z := nxt code k.2 30
  (⟨a.1, b.1, d.1, if z.1 = 0 then 0 else k.1⟩, z.2)
abbrev RSt := Src × List Pl
def drF (code : List Int) (ev : Int) (q : RSt) : RSt := ((drPl code ev q.1).2, q.2 ++ [(drPl code ev q.1).1])
/-- Places one behind the other: at most 31. -/
def drMany (code : List Int) : Nat → Nat → RSt → RSt
  | 0, _, q => q
  | f + 1, k, q => if (k : Int) < 22 + (nxt code q.1 9).1 then drMany code f (k + 1) ((nxt code q.1 9).2, q.2 ++ [⟨0, 0, k, 1⟩]) else ((nxt code q.1 9).2, q.2)
structure DrG where
  ev : Int
  xs : List Pl
  s : Src
def drEnd (code : List Int) (ev : Int) (q : RSt) : DrG :=
  let z := nxt code q.1 60
  let a := nxt code z.2 3
  if z.1 = 0 then ⟨pick code z.2 [0, 10, 11], q.2, a.2⟩
  else if z.1 = 1 then ⟨ev, q.2 ++ [⟨pick code z.2 [-1, 0, ev], 0, pick code a.2 [-1, 1000, 1001], 1⟩], (nxt code a.2 3).2⟩
  else if z.1 = 2 then ⟨ev, q.2 ++ [⟨0, 0, 0, pick code z.2 [5, 6, -1]⟩], a.2⟩
  else if z.1 = 3 then ⟨ev, (drMany code 31 0 (z.2, q.2)).2, (drMany code 31 0 (z.2, q.2)).1⟩
  else ⟨ev, q.2, z.2⟩
def dr11 (code : List Int) (s : Src) : DrG :=
  let e := nxt code s 5
  let n := nxt code e.2 9
  drEnd code (1 + e.1) (itr (drF code (1 + e.1)) n.1.toNat (n.2, []))
/-! ### Their sizes -/
structure DrPl (p : Pl) : Prop where
  f : -1 ≤ p.f ∧ p.f ≤ 100
  t : -1 ≤ p.t ∧ p.t ≤ 100
  d : -1 ≤ p.d ∧ p.d ≤ 1001
  k : -1 ≤ p.k ∧ p.k ≤ 6
structure RStOk (code : List Int) (m : Nat) (q : RSt) : Prop where
  s : SrcOk code q.1
  xs : ∀ p ∈ q.2, DrPl p
  len : q.2.length ≤ m
theorem RStOk.app {code : List Int} {m : Nat} {q : RSt} {p : Pl} {s : Src} (h : RStOk code m q) (hp : DrPl p) (hs : SrcOk code s) : RStOk code (m + 1) (s, q.2 ++ [p]) :=
  ⟨hs, fun p' hp' => by
    rcases List.mem_append.1 hp' with h' | h'
    · exact h.xs p' h'
    · simp at h'; subst h'; exact hp, by have := h.len; simp; omega⟩
theorem drPl_ok {code : List Int} (hc : CodeOk code) {s : Src} (hs : SrcOk code s) {ev : Int} (he : ev ≤ 100) : DrPl (drPl code ev s).1 ∧ SrcOk code (drPl code ev s).2 := by
  obtain ⟨a1, a2, a3⟩ := nxt_ok hc hs ev
  obtain ⟨b1, b2, b3⟩ := nxt_ok hc a3 ev
  obtain ⟨d1, d2, d3⟩ := nxt_ok hc b3 12
  obtain ⟨q1, q2, q3⟩ := nxt_ok hc d3 4
  have ht : SrcOk code (if (nxt code (nxt code s ev).2 ev).1 ≤ (nxt code s ev).1 then (nxt code (nxt code (nxt code s ev).2 ev).2 12).2 else (nxt code (nxt code (nxt code (nxt code s ev).2 ev).2 12).2 4).2) := by split <;> assumption
  obtain ⟨x1, x2, x3⟩ := nxt_ok hc ht 2
  obtain ⟨y1, y2, y3⟩ := nxt_ok hc x3 3
  unfold drPl
  simp only
  generalize (nxt code (if (nxt code (nxt code s ev).2 ev).1 ≤ (nxt code s ev).1 then (nxt code (nxt code (nxt code s ev).2 ev).2 12).2 else (nxt code (nxt code (nxt code (nxt code s ev).2 ev).2 12).2 4).2) 2) = X at *
  generalize (nxt code X.2 3) = Y at *
  have hxy : 0 ≤ X.1 * Y.1 ∧ X.1 * Y.1 ≤ 2 := by
    have e1 : X.1 ≤ 1 := by omega
    have e2 : Y.1 ≤ 2 := by omega
    have := Int.mul_nonneg x1 y1
    have := Int.mul_le_mul_of_nonneg_right e1 y1
    omega
  generalize X.1 * Y.1 = m at *
  split
  · obtain ⟨z1, z2, z3⟩ := nxt_ok hc y3 30
    exact ⟨⟨by simp only; omega, by simp only; omega, by simp only; omega, by simp only; split <;> omega⟩, z3⟩
  · obtain ⟨z1, z2, z3⟩ := nxt_ok hc ht 30
    exact ⟨⟨by simp only; omega, by simp only; omega, by simp only; omega, by simp only; split <;> omega⟩, z3⟩
theorem drF_ok {code : List Int} (hc : CodeOk code) {ev : Int} (he : ev ≤ 100) {m : Nat} {q : RSt} (h : RStOk code m q) : RStOk code (m + 1) (drF code ev q) :=
  h.app (drPl_ok hc h.s he).1 (drPl_ok hc h.s he).2
theorem drMany_ok {code : List Int} (hc : CodeOk code) : ∀ (f k : Nat) (q : RSt) (m : Nat), f + k = 31 → RStOk code m q → RStOk code (m + f) (drMany code f k q)
  | 0, k, q, m, _, h => h
  | f + 1, k, q, m, hk, h => by
    obtain ⟨a1, a2, a3⟩ := nxt_ok hc h.s 9
    unfold drMany
    split
    · have := drMany_ok hc f (k + 1) ((nxt code q.1 9).2, q.2 ++ [⟨0, 0, k, 1⟩]) (m + 1) (by omega) (h.app ⟨by simp, by simp, by simp only; omega, by simp⟩ a3)
      rwa [show m + 1 + f = m + (f + 1) by omega] at this
    · exact ⟨a3, h.xs, by have := h.len; simp only; omega⟩
theorem pick_mem {code : List Int} (hc : CodeOk code) {s : Src} (hs : SrcOk code s) {xs : List Int} (h0 : 0 < xs.length) : pick code s xs ∈ xs := by
  obtain ⟨b1, b2, b3⟩ := nxt_ok hc hs xs.length
  unfold pick
  rw [List.getElem?_eq_getElem (by omega), Option.getD_some]
  exact List.getElem_mem _
structure DrOk (code : List Int) (g : DrG) : Prop where
  ev : 0 ≤ g.ev ∧ g.ev ≤ 11
  xs : ∀ p ∈ g.xs, DrPl p
  len : g.xs.length ≤ 40
  s : SrcOk code g.s
theorem drEnd_ok {code : List Int} (hc : CodeOk code) {ev : Int} (he : 0 ≤ ev ∧ ev ≤ 5) {q : RSt} (h : RStOk code 8 q) : DrOk code (drEnd code ev q) := by
  obtain ⟨z1, z2, z3⟩ := nxt_ok hc h.s 60
  obtain ⟨y1, y2, y3⟩ := nxt_ok hc z3 3
  obtain ⟨x1, x2, x3⟩ := nxt_ok hc y3 3
  have hl := h.len
  unfold drEnd
  simp only
  split
  · have := pick_mem hc z3 (xs := [0, 10, 11]) (by simp)
    simp at this
    exact ⟨by simp only; omega, h.xs, by simp only; omega, y3⟩
  · split
    · have h1 := pick_mem hc z3 (xs := [-1, 0, ev]) (by simp)
      have h2 := pick_mem hc y3 (xs := [-1, 1000, 1001]) (by simp)
      simp at h1 h2
      have := h.app (p := ⟨pick code (nxt code q.1 60).2 [-1, 0, ev], 0, pick code (nxt code (nxt code q.1 60).2 3).2 [-1, 1000, 1001], 1⟩) (s := (nxt code (nxt code (nxt code q.1 60).2 3).2 3).2) ⟨by simp only; omega, by simp, by simp only; omega, by simp⟩ x3
      exact ⟨by simp only; omega, this.xs, by have := this.len; simp only at this ⊢; omega, x3⟩
    · split
      · have h1 := pick_mem hc z3 (xs := [5, 6, -1]) (by simp)
        simp at h1
        have := h.app (p := ⟨0, 0, 0, pick code (nxt code q.1 60).2 [5, 6, -1]⟩) (s := (nxt code (nxt code q.1 60).2 3).2) ⟨by simp, by simp, by simp, by simp only; omega⟩ y3
        exact ⟨by simp only; omega, this.xs, by have := this.len; simp only at this ⊢; omega, y3⟩
      · split
        · have := drMany_ok hc 31 0 ((nxt code q.1 60).2, q.2) 8 rfl ⟨z3, h.xs, hl⟩
          exact ⟨by simp only; omega, this.xs, by have := this.len; simp only; omega, this.s⟩
        · exact ⟨by simp only; omega, h.xs, by simp only; omega, z3⟩
theorem drI_ok {code : List Int} (hc : CodeOk code) {ev : Int} (he : ev ≤ 100) {s : Src} (hs : SrcOk code s) (n : Nat) : RStOk code n (itr (drF code ev) n (s, [])) :=
  itr_ok (p := fun k q => RStOk code k q) ⟨hs, by simp, by simp⟩ (fun k x h => drF_ok hc he h) n
theorem dr11_ok {code : List Int} (hc : CodeOk code) {s : Src} (hs : SrcOk code s) : DrOk code (dr11 code s) := by
  obtain ⟨e1, e2, e3⟩ := nxt_ok hc hs 5
  obtain ⟨n1, n2, n3⟩ := nxt_ok hc e3 9
  have h := drI_ok hc (ev := 1 + (nxt code s 5).1) (by omega) n3 (nxt code (nxt code s 5).2 9).1.toNat
  exact drEnd_ok hc (by omega) ⟨h.s, h.xs, by have := h.len; omega⟩
end Go.Proofs.Ytegfjedklebbfaa
end

section
namespace Go.Proofs.Ytegfjedklebbfaa
set_option linter.unusedSimpArgs false
set_option linter.unusedVariables false
open Go Go.RowKit
attribute [local irreducible] AL AD AW OpOk Le AC thenQ blockQ EndQ

section
variable {P : Program} {o : Oper} {A : Operand → AV} {H : Heap} {new : Nat}
theorem Ok.bs3 {t e : TypeId} {k b : Nat} {z : Value} {x y w : Operand} {n1 n2 n3 : Int} (ho : o.op = .buildSlice t 3 #[(0, x), (1, y), (2, w)]) [h : TySlice P t e k b z] (hx : A x = I n1) (hy : A y = I n2) (hw : A w = I n3) (hk : k = 1) :
    OpOk P o A [] H new (.own k ⟨new, []⟩ 0 3) [.one ⟨new, []⟩ (some (IO [n1, n2, n3]))] := by
  subst hk
  have := OpOk.buildSlice (P := P) (H := H) (new := new) (A := A) [x, y, w] ho rfl rfl (by decide) (by intro p hp; simp at hp; rcases hp with rfl | rfl | rfl <;> simp only [hx, hy, hw] <;> rfl) (by intro p hp; simp at hp; rcases hp with rfl | rfl | rfl <;> simp only [hx, hy, hw] <;> rfl)
  simpa [hx, hy, hw, AV.cells, dobj] using this
/-- The draw of a number. -/
theorem Nx {fo x y : Operand} {ts : Array TypeId} {f : FuncId} {code : List Int} {s s' : Src} {n a : Int} (hc : AC P f [Bx 3 0, I n] (srcH code s) (I a) (srcH code s')) (ho : o.op = .call { callee := .value fo, args := #[x, y], argTypes := ts }) [FnBody P f] (hfo : A fo = .clo (.func f) [] [])
    (hx : A x = Bx 3 0) (hy : A y = I n) (hl : H ⟨0, []⟩ = some (srcO code s)) : OpOk P o A [⟨0, []⟩] H new (I a) [.one ⟨0, []⟩ (some (srcO code s'))] :=
  OpOk.callM (xs := [x, y]) ho hfo hc hl rfl (by
    show ARs _ _ _ _ _ [A x, A y]
    rw [hx, hy]; exact .cons (AR.ptr 3 ⟨0, []⟩ 0 0 rfl) (.cons (.dd _) .nil))
/-- One of some numbers. -/
theorem Kx {fo x y : Operand} {ts : Array TypeId} {f : FuncId} {code : List Int} {s s' : Src} {m : Nat} {xs : List Int} {a : Int} {l : Loc} (hc : AC P f [Bx 3 0, .own 1 ⟨1, []⟩ 0 m] (upd (upd H0 ⟨1, []⟩ (some (IO xs))) ⟨0, []⟩ (some (srcO code s))) (I a) (srcH code s')) (ho : o.op = .call { callee := .value fo, args := #[x, y], argTypes := ts }) [FnBody P f] (hfo : A fo = .clo (.func f) [] [])
    (hx : A x = Bx 3 0) (hy : A y = .own 1 l 0 m) (hl : H ⟨0, []⟩ = some (srcO code s)) (hl2 : H l = some (IO xs)) (hne : (⟨0, []⟩ : Loc) ≠ l) : OpOk P o A [⟨0, []⟩, l] H new (I a) [.one l none, .one ⟨0, []⟩ (some (srcO code s'))] :=
  OpOk.callM2 (xs := [x, y]) ho hfo hc hl hl2 hne rfl (by
    show ARs _ _ _ _ _ [A x, A y]
    rw [hx, hy]
    refine .cons ?_ (.cons ?_ .nil)
    · have := AR.ptr (H := H) (lent := fun _ => False) (τ := two ⟨0, []⟩ l) (L := (· ∈ [(⟨0, []⟩ : Loc), ⟨1, []⟩])) 3 ⟨0, []⟩ 0 0 (by simp)
      rwa [show two ⟨0, []⟩ l ⟨0, []⟩ = ⟨0, []⟩ from if_pos rfl] at this
    · have := AR.own (H := H) (lent := fun _ => False) (τ := two ⟨0, []⟩ l) (L := (· ∈ [(⟨0, []⟩ : Loc), ⟨1, []⟩])) 1 ⟨1, []⟩ 0 m (by simp)
      rwa [show two ⟨0, []⟩ l ⟨1, []⟩ = l from if_neg (by decide)] at this)
end
set_option maxHeartbeats 2000000 in
theorem l11Draw_ac (code : List Int) (hc : CodeOk code) (s : Src) (hs : SrcOk code s) : AC Try.prog 158 [Bx 3 0] (srcH code s) (.agg [I (dr11 code s).ev, .own 4 ⟨1, []⟩ 0 (dr11 code s).xs.length]) (heapL [(⟨0, []⟩, ⟨0, []⟩, srcO code (dr11 code s).s), (⟨1, []⟩, ⟨1, []⟩, PO (dr11 code s).xs)]) := by
  unfold dr11
  obtain ⟨e, s1, e1, e2, h1, q1, N1⟩ := next_ex hc hs 5
  rw [q1]; simp only
  obtain ⟨m, s2, m1, m2, h2, q2, N2⟩ := next_ex hc h1 9
  rw [q2]; simp only
  obtain ⟨n, rfl⟩ : ∃ n : Nat, m = n := ⟨m.toNat, by omega⟩
  rw [Int.toNat_natCast]
  have hF := drI_ok hc (ev := 1 + e) (by omega) h2 n
  generalize hqF : itr (drF code (1 + e)) n (s2, []) = qF at hF
  show AC _ _ _ (heapL [(⟨0, []⟩, ⟨0, []⟩, srcO code s)]) _ _
  refine AC.of_body 1 Try.func158 rfl (fun l h => by simp [heapL, upd] at h; simp [h]) (fun C hC => ?_)
  simp only [startFr, Try.ntmps158, List.length_cons, List.length_nil, Nat.reduceAdd, Nat.reduceSub, List.replicate_succ, List.replicate_zero, List.cons_append, List.nil_append]
  have hD : ∀ l, C.D0 l → l = ⟨0, []⟩ := fun l h => by have := (hC l).1 h; simp [heapL, upd] at this; exact this
  repeat' (first | refine Qa ?_ | ((first | apply Ba | (apply Bb; (· rfl); (· rfl)) | (apply Bc; (· exact nxE)) | (apply Bd; (· rfl); (· rfl); (· exact nxE))); (· first | exact Nx N1 rfl rfl rfl rfl rfl | exact Nx N2 rfl rfl rfl rfl rfl | exact Ok.pe); (first | refine Na ?_ | refine Nb ?_)) | ((first | apply Ca | (apply Cb; (· exact nxE))); (· first | exact Nx N1 rfl rfl rfl rfl rfl | exact Nx N2 rfl rfl rfl rfl rfl | exact Ok.e0); (first | refine Nc ?_ | refine Nd ?_)) | refine Oa ?_ | refine Ob ?_ | ((first | refine Ga (fun h => ?_) (fun h => ?_) | refine AD.gsplit rfl rfl (fun h => ?_) (fun h => ?_)) <;> try (exfalso; omega; done)) | (first | refine AL.gsplitB rfl rfl (fun h => ?_) (fun h => ?_) | refine AD.gsplitB rfl rfl (fun h => ?_) (fun h => ?_)) | refine Fa ?_ | refine Qb ?_ | refine Qc ?_ | refine Qd ?_ | refine Fb ?_ | refine Qe ?_ | refine Wa ?_ | refine Wb ?_ | (refine AW.ite rfl (fun h => ?_) (fun h => ?_) <;> try (exfalso; omega; done)) | refine AW.cond _ rfl (fun h => ?_) (fun h => ?_) | refine Qf ?_ | refine Qg ?_ | refine Qh ?_ | refine Qi ?_ | refine Xa ?_ | refine Xb ?_ | refine Xc ?_ | refine Xd ?_ | refine Fc ?_)
  refine AW.loop (X := {k : Nat // k ≤ n}) (fun k => ⟨[Bx 3 0, Oo, Bx 2 1, Bx 2 2, I ((n : Int) - (k.1 : Nat)), Oo, Oo, Oo, Oo, Oo, Oo, Oo, Oo, Oo, Oo, Oo, Oo, Oo, Oo, Oo, Oo, Oo, Oo, Oo, Oo, Oo, Oo, Oo, Oo, Oo, Oo, Oo, Oo, Oo, Oo, Oo, Oo, Oo, Oo, Oo, Oo, Oo, Oo, Oo, Oo, Oo, Oo, Oo, Oo, Oo, Oo, Oo, Oo, Oo, Oo, Oo, Oo, Oo, Oo, Oo, Oo, Oo, Oo, Oo, Oo, Oo, Oo, Oo, Oo, Oo, Oo, Oo, Oo, Oo, Oo, Oo, Oo, Oo, Oo, Oo, Oo, Oo, Oo, Oo, Oo, Oo, Oo, Oo, Oo, Oo, Oo, Oo, Oo, Oo, Oo, Oo, Oo, Oo, Oo, Oo, Oo, Oo, Oo, Oo, Oo, Oo, Oo, Oo], heapL [(⟨0, []⟩, ⟨0, []⟩, srcO code (itr (drF code (1 + e)) k.1 (s2, [])).1), (⟨1, []⟩, ⟨1, []⟩, ⟨2, [[I 0, nilS]]⟩), (⟨2, []⟩, ⟨2, []⟩, ⟨2, [[I (1 + e), .own 4 ⟨3, []⟩ 0 (itr (drF code (1 + e)) k.1 (s2, [])).2.length]]⟩), (⟨3, []⟩, ⟨3, []⟩, PO (itr (drF code (1 + e)) k.1 (s2, [])).2)], 900⟩) (fun k => n - k.1) ⟨0, Nat.zero_le _⟩ ?_ (fun k => ?_)
  ·
    (apply Le.headZ [_, _, _, _] rfl)
    all_goals (try dsimp only [srcs])
    (case' hfr | hob => (repeat' (first | refine La ?_ ?_ | exact Lc | refine Lo ?_ | refine ⟨⟨_, rfl, ?_⟩, ?_⟩ | refine ObA.box ?_ | refine ObA.frE ?_ | refine ObA.dataE ?_ | refine ARs.agg ?_ | refine ARs.tup ?_ | refine AR.b ?_ | refine AR.iE ?_ | refine AR.e ?_ | refine AR.clo' ARs.nil ?_)))
    all_goals (first | (rfl) | exact Ld)
  obtain ⟨k, hk⟩ := k
  simp only
  by_cases hlt : k < n
  · have hI := drI_ok hc (ev := 1 + e) (by omega) h2 k
    have hst : itr (drF code (1 + e)) (k + 1) (s2, []) = drF code (1 + e) (itr (drF code (1 + e)) k (s2, [])) := rfl
    generalize itr (drF code (1 + e)) k (s2, []) = q at hI hst ⊢
    obtain ⟨s3, ys⟩ := q
    obtain ⟨i1, i2, i3⟩ := hI
    simp only at i1 i2 i3 ⊢
    obtain ⟨a, s4, a1, a2, h4, q4, N4⟩ := next_ex hc i1 (1 + e)
    obtain ⟨b, s5, b1, b2, h5, q5, N5⟩ := next_ex hc h4 (1 + e)
    obtain ⟨d, s6, d1, d2, h6, q6, N6⟩ := next_ex hc h5 12
    obtain ⟨f, s7, f1, f2, h7, q7, N7⟩ := next_ex hc h6 4
    obtain ⟨t, ht⟩ : ∃ t, t = if b ≤ a then s6 else s7 := ⟨_, rfl⟩
    have h8 : SrcOk code t := by rw [ht]; split <;> assumption
    obtain ⟨x, s9, x1, x2, h9, q9, N9⟩ := next_ex hc h8 2
    obtain ⟨y, s10, y1, y2, h10, q10, N10⟩ := next_ex hc h9 3
    have hxy : 0 ≤ x * y ∧ x * y ≤ 2 := by
      have e1 : x ≤ 1 := by omega
      have := Int.mul_nonneg x1 y1
      have := Int.mul_le_mul_of_nonneg_right e1 y1
      omega
    obtain ⟨u, hu⟩ : ∃ u, u = if b ≤ a ∨ f = 0 then s10 else t := ⟨_, rfl⟩
    have h11 : SrcOk code u := by rw [hu]; split <;> assumption
    obtain ⟨z, s12, z1, z2, h12, q12, N12⟩ := next_ex hc h11 30
    have hp : drPl code (1 + e) s3 = (⟨a, b, d, if z = 0 then 0 else if b ≤ a ∨ f = 0 then 1 + x * y else 0⟩, s12) := by
      have h20 : (if b ≤ a ∨ f = 0 then ((1 + x * y, s10) : Int × Src) else (0, t)) = (if b ≤ a ∨ f = 0 then 1 + x * y else 0, u) := by rw [hu]; split <;> rfl
      unfold drPl
      simp only [q4, q5, q6, q7, ← ht, q9, q10, h20, q12]
    have hst2 : itr (drF code (1 + e)) (k + 1) (s2, []) = (s12, ys ++ [⟨a, b, d, if z = 0 then 0 else if b ≤ a ∨ f = 0 then 1 + x * y else 0⟩]) := by
      rw [hst]; unfold drF; rw [hp]
    clear hst hp
    have hyl : (ys.map Pl.row).length = ys.length := List.length_map _
    have hcs : (t = s6 ∧ b ≤ a) ∨ (t = s7 ∧ ¬ b ≤ a) := by rw [ht]; by_cases hb : b ≤ a <;> simp [hb]
    have hcu : (u = s10 ∧ (b ≤ a ∨ f = 0)) ∨ (u = t ∧ ¬ (b ≤ a ∨ f = 0)) := by rw [hu]; by_cases hb : b ≤ a ∨ f = 0 <;> simp [hb]
    clear ht hu
    rcases hcs with ⟨rfl, hb1⟩ | ⟨rfl, hb1⟩ <;> rcases hcu with ⟨rfl, hb2⟩ | ⟨rfl, hb2⟩ <;> try (exfalso; omega; done)
    all_goals
      repeat' (first | refine Qa ?_ | ((first | apply Ba | (apply Bb; (· rfl); (· rfl)) | (apply Bc; (· exact nxE)) | (apply Bd; (· rfl); (· rfl); (· exact nxE))); (· first | exact Nx N4 rfl rfl rfl rfl rfl | exact Nx N5 rfl rfl rfl rfl rfl | exact Nx N6 rfl rfl rfl rfl rfl | exact Nx N7 rfl rfl rfl rfl rfl | exact Nx N9 rfl rfl rfl rfl rfl | exact Nx N10 rfl rfl rfl rfl rfl | exact Nx N12 rfl rfl rfl rfl rfl | exact Ok.append1 (row := [DI a, DI b, DI d, DI _]) rfl rfl (by decide) rfl rfl hyl rfl rfl rfl (by rfl) (by omega) (by omega) | exact Ok.pe); (first | refine Na ?_ | refine Nb ?_)) | ((first | apply Ca | (apply Cb; (· exact nxE))); (· first | exact Nx N4 rfl rfl rfl rfl rfl | exact Nx N5 rfl rfl rfl rfl rfl | exact Nx N6 rfl rfl rfl rfl rfl | exact Nx N7 rfl rfl rfl rfl rfl | exact Nx N9 rfl rfl rfl rfl rfl | exact Nx N10 rfl rfl rfl rfl rfl | exact Nx N12 rfl rfl rfl rfl rfl | exact Ok.append1 (row := [DI a, DI b, DI d, DI _]) rfl rfl (by decide) rfl rfl hyl rfl rfl rfl (by rfl) (by omega) (by omega) | exact Ok.e0); (first | refine Nc ?_ | refine Nd ?_)) | refine Oa ?_ | refine Ob ?_ | ((first | refine Ga (fun h => ?_) (fun h => ?_) | refine AD.gsplit rfl rfl (fun h => ?_) (fun h => ?_)) <;> try (exfalso; omega; done)) | (first | refine AL.gsplitB rfl rfl (fun h => ?_) (fun h => ?_) | refine AD.gsplitB rfl rfl (fun h => ?_) (fun h => ?_)) | refine Fa ?_ | refine Qb ?_ | refine Qc ?_ | refine Qd ?_ | refine Fb ?_ | refine Qe ?_ | refine Wa ?_ | refine Wb ?_ | (refine AW.ite rfl (fun h => ?_) (fun h => ?_) <;> try (exfalso; omega; done)) | refine AW.cond _ rfl (fun h => ?_) (fun h => ?_) | refine Qf ?_ | refine Qg ?_ | refine Qh ?_ | refine Qi ?_ | refine Xa ?_ | refine Xb ?_ | refine Xc ?_ | refine Xd ?_ | refine Fc ?_)
    all_goals
      refine ⟨⟨k + 1, by omega⟩, ?_, by simp only; omega⟩
      simp only [hst2]
      (apply Le.headZ [_, _, _, _] rfl)
      all_goals (try dsimp only [srcs])
      (case' hfr | hob => (repeat' (first | refine La ?_ ?_ | exact Lc | refine Lo ?_ | refine ⟨⟨_, rfl, ?_⟩, ?_⟩ | refine ObA.box ?_ | refine ObA.frE ?_ | refine ObA.dataE ?_ | refine ARs.agg ?_ | refine ARs.tup ?_ | refine AR.b ?_ | refine AR.iE ?_ | refine AR.e ?_ | refine AR.clo' ARs.nil ?_)))
      all_goals (first | ((simp [Pl.row, *]; done)) | exact Ld)
  · obtain rfl : k = n := by omega
    rw [hqF]
    obtain ⟨s3, ys⟩ := qF
    obtain ⟨i1, i2, i3⟩ := hF
    simp only at i1 i2 i3 ⊢
    have hyl : (ys.map Pl.row).length = ys.length := List.length_map _
    obtain ⟨z, s4, z1, z2, h4, q4, N4⟩ := next_ex hc i1 60
    obtain ⟨a1, s5, _, h5, p1, q5, K1⟩ := pick_ex hc h4 [0, 10, 11] 3 rfl
    obtain ⟨a2, s6, _, h6, p2, q6, K2⟩ := pick_ex hc h4 [-1, 0, 1 + e] 3 rfl
    obtain ⟨a4, s8, _, h8, p4, q8, K4⟩ := pick_ex hc h4 [5, 6, -1] 3 rfl
    obtain rfl : s5 = s6 := q5.symm.trans q6
    obtain rfl : s5 = s8 := q5.symm.trans q8
    obtain ⟨a3, s7, _, h7, p3, q7, K3⟩ := pick_ex hc h5 [-1, 1000, 1001] 3 rfl
    unfold drEnd
    simp only [q4, q5, q7, p1, p2, p3, p4]
    have hm := drMany_ok hc 31 0 (s4, ys) k (by omega) ⟨h4, i2, i3⟩
    obtain ⟨R, hR⟩ : ∃ R, R = drMany code 31 0 (s4, ys) := ⟨_, rfl⟩
    rw [← hR] at hm ⊢
    repeat' (first | refine Qa ?_ | ((first | apply Ba | (apply Bb; (· rfl); (· rfl)) | (apply Bc; (· exact nxE)) | (apply Bd; (· rfl); (· rfl); (· exact nxE))); (· first | exact Nx N4 rfl rfl rfl rfl rfl | exact Kx K1 rfl rfl rfl rfl rfl rfl (by decide) | exact Kx K2 rfl rfl rfl rfl rfl rfl (by decide) | exact Kx K3 rfl rfl rfl rfl rfl rfl (by decide) | exact Kx K4 rfl rfl rfl rfl rfl rfl (by decide) | exact Ok.bs3 rfl rfl rfl rfl rfl | exact Ok.append1 (row := [DI _, DI _, DI _, DI _]) rfl rfl (by decide) rfl rfl hyl rfl rfl rfl (by rfl) (by omega) (by omega) | exact Ok.pe); (first | refine Na ?_ | refine Nb ?_)) | ((first | apply Ca | (apply Cb; (· exact nxE))); (· first | exact Nx N4 rfl rfl rfl rfl rfl | exact Kx K1 rfl rfl rfl rfl rfl rfl (by decide) | exact Kx K2 rfl rfl rfl rfl rfl rfl (by decide) | exact Kx K3 rfl rfl rfl rfl rfl rfl (by decide) | exact Kx K4 rfl rfl rfl rfl rfl rfl (by decide) | exact Ok.bs3 rfl rfl rfl rfl rfl | exact Ok.append1 (row := [DI _, DI _, DI _, DI _]) rfl rfl (by decide) rfl rfl hyl rfl rfl rfl (by rfl) (by omega) (by omega) | exact Ok.e0); (first | refine Nc ?_ | refine Nd ?_)) | refine Oa ?_ | refine Ob ?_ | ((first | refine Ga (fun h => ?_) (fun h => ?_) | refine AD.gsplit rfl rfl (fun h => ?_) (fun h => ?_)) <;> try (exfalso; omega; done)) | (first | refine AL.gsplitB rfl rfl (fun h => ?_) (fun h => ?_) | refine AD.gsplitB rfl rfl (fun h => ?_) (fun h => ?_)) | refine Fa ?_ | refine Qb ?_ | refine Qc ?_ | refine Qd ?_ | refine Fb ?_ | refine Qe ?_ | refine Wa ?_ | refine Wb ?_ | (refine AW.ite rfl (fun h => ?_) (fun h => ?_) <;> try (exfalso; omega; done)) | refine AW.cond _ rfl (fun h => ?_) (fun h => ?_) | refine Qf ?_ | refine Qg ?_ | refine Qh ?_ | refine Qi ?_ | refine Xa ?_ | refine Xb ?_ | refine Xc ?_ | refine Xd ?_ | refine Fc ?_)
    rotate_left 3
    · rw [if_neg (by assumption), if_neg (by assumption), if_neg (by assumption), if_pos (by assumption)]
      refine AW.loop (X := {p : Nat × RSt // p.1 ≤ 30 ∧ drMany code (31 - p.1) p.1 p.2 = R ∧ RStOk code (k + p.1) p.2}) (fun p => ⟨[Bx 3 0, Oo, Bx 2 1, Bx 2 2, Oo, Oo, I p.1.1, Oo, Oo, Oo, Oo, Oo, Oo, Oo, Oo, Oo, Oo, Oo, Oo, Oo, Oo, Oo, Oo, Oo, Oo, Oo, Oo, Oo, Oo, Oo, Oo, Oo, Oo, Oo, Oo, Oo, Oo, Oo, Oo, Oo, Oo, Oo, Oo, Oo, Oo, Oo, Oo, Oo, Oo, Oo, Oo, Oo, Oo, Oo, Oo, Oo, Oo, Oo, Oo, Oo, Oo, Oo, Oo, Oo, Oo, Oo, Oo, Oo, Oo, Oo, Oo, Oo, Oo, Oo, Oo, Oo, Oo, Oo, Oo, Oo, Oo, Oo, Oo, Oo, Oo, Oo, Oo, Oo, Oo, Oo, Oo, Oo, Oo, Oo, Oo, Oo, Oo, Oo, Oo, Oo, Oo, Oo, Oo, Oo, Oo, Oo, Oo, Oo], heapL [(⟨0, []⟩, ⟨0, []⟩, srcO code p.1.2.1), (⟨1, []⟩, ⟨1, []⟩, ⟨2, [[I 0, nilS]]⟩), (⟨2, []⟩, ⟨2, []⟩, ⟨2, [[I (1 + e), .own 4 ⟨3, []⟩ 0 p.1.2.2.length]]⟩), (⟨3, []⟩, ⟨3, []⟩, PO p.1.2.2)], 900⟩) (fun p => 31 - p.1.1) ⟨(0, s4, ys), by simp, hR.symm, h4, i2, i3⟩ ?_ (fun p => ?_)
      ·
        (apply Le.headZ [_, _, _, _] rfl)
        all_goals (try dsimp only [srcs])
        (case' hfr | hob => (repeat' (first | refine La ?_ ?_ | exact Lc | refine Lo ?_ | refine ⟨⟨_, rfl, ?_⟩, ?_⟩ | refine ObA.box ?_ | refine ObA.frE ?_ | refine ObA.dataE ?_ | refine ARs.agg ?_ | refine ARs.tup ?_ | refine AR.b ?_ | refine AR.iE ?_ | refine AR.e ?_ | refine AR.clo' ARs.nil ?_)))
        all_goals (first | (rfl) | exact Ld)
      obtain ⟨⟨j, s10, us⟩, j1, j2, ⟨g1, g2, g3⟩⟩ := p
      simp only at j1 j2 g1 g2 g3 ⊢
      obtain ⟨y, s11, y1, y2, h11, q11, N11⟩ := next_ex hc g1 9
      have hul : (us.map Pl.row).length = us.length := List.length_map _
      by_cases hlt2 : (j : Int) < 22 + y
      · have hst : drMany code (31 - j) j (s10, us) = drMany code (31 - (j + 1)) (j + 1) (s11, us ++ [⟨0, 0, j, 1⟩]) := by
          rw [show 31 - j = (31 - (j + 1)) + 1 by omega, drMany]
          simp only [q11]
          rw [if_pos hlt2]
        rw [hst] at j2
        repeat' (first | refine Qa ?_ | ((first | apply Ba | (apply Bb; (· rfl); (· rfl)) | (apply Bc; (· exact nxE)) | (apply Bd; (· rfl); (· rfl); (· exact nxE))); (· first | exact Nx N11 rfl rfl rfl rfl rfl | exact Ok.append1 (row := [DI 0, DI 0, DI j, DI 1]) rfl rfl (by decide) rfl rfl hul rfl rfl rfl (by rfl) (by omega) (by omega) | exact Ok.pe); (first | refine Na ?_ | refine Nb ?_)) | ((first | apply Ca | (apply Cb; (· exact nxE))); (· first | exact Nx N11 rfl rfl rfl rfl rfl | exact Ok.append1 (row := [DI 0, DI 0, DI j, DI 1]) rfl rfl (by decide) rfl rfl hul rfl rfl rfl (by rfl) (by omega) (by omega) | exact Ok.e0); (first | refine Nc ?_ | refine Nd ?_)) | refine Oa ?_ | refine Ob ?_ | ((first | refine Ga (fun h => ?_) (fun h => ?_) | refine AD.gsplit rfl rfl (fun h => ?_) (fun h => ?_)) <;> try (exfalso; omega; done)) | (first | refine AL.gsplitB rfl rfl (fun h => ?_) (fun h => ?_) | refine AD.gsplitB rfl rfl (fun h => ?_) (fun h => ?_)) | refine Fa ?_ | refine Qb ?_ | refine Qc ?_ | refine Qd ?_ | refine Fb ?_ | refine Qe ?_ | refine Wa ?_ | refine Wb ?_ | (refine AW.ite rfl (fun h => ?_) (fun h => ?_) <;> try (exfalso; omega; done)) | refine AW.cond _ rfl (fun h => ?_) (fun h => ?_) | refine Qf ?_ | refine Qg ?_ | refine Qh ?_ | refine Qi ?_ | refine Xa ?_ | refine Xb ?_ | refine Xc ?_ | refine Xd ?_ | refine Fc ?_)
        refine ⟨⟨(j + 1, s11, us ++ [⟨0, 0, j, 1⟩]), by simp only; omega, j2, h11, fun p hp => ?_, by simp; omega⟩, ?_, by simp only; omega⟩
        · rcases List.mem_append.1 hp with h | h
          · exact g2 p h
          · simp at h; subst h; exact ⟨by simp, by simp, by simp only; omega, by simp⟩
        (apply Le.headZ [_, _, _, _] rfl)
        all_goals (try dsimp only [srcs])
        (case' hfr | hob => (repeat' (first | refine La ?_ ?_ | exact Lc | refine Lo ?_ | refine ⟨⟨_, rfl, ?_⟩, ?_⟩ | refine ObA.box ?_ | refine ObA.frE ?_ | refine ObA.dataE ?_ | refine ARs.agg ?_ | refine ARs.tup ?_ | refine AR.b ?_ | refine AR.iE ?_ | refine AR.e ?_ | refine AR.clo' ARs.nil ?_)))
        all_goals (first | ((simp [Pl.row, *]; done)) | exact Ld)
      · have hst : R = (s11, us) := by
          rw [← j2]
          rw [show 31 - j = (31 - (j + 1)) + 1 by omega, drMany]
          simp only [q11]
          rw [if_neg hlt2]
        rw [hst]
        repeat' (first | refine Qa ?_ | ((first | apply Ba | (apply Bb; (· rfl); (· rfl)) | (apply Bc; (· exact nxE)) | (apply Bd; (· rfl); (· rfl); (· exact nxE))); (· first | exact Nx N11 rfl rfl rfl rfl rfl | exact Ok.pe); (first | refine Na ?_ | refine Nb ?_)) | ((first | apply Ca | (apply Cb; (· exact nxE))); (· first | exact Nx N11 rfl rfl rfl rfl rfl | exact Ok.e0); (first | refine Nc ?_ | refine Nd ?_)) | refine Oa ?_ | refine Ob ?_ | ((first | refine Ga (fun h => ?_) (fun h => ?_) | refine AD.gsplit rfl rfl (fun h => ?_) (fun h => ?_)) <;> try (exfalso; omega; done)) | (first | refine AL.gsplitB rfl rfl (fun h => ?_) (fun h => ?_) | refine AD.gsplitB rfl rfl (fun h => ?_) (fun h => ?_)) | refine Fa ?_ | refine Qb ?_ | refine Qc ?_ | refine Qd ?_ | refine Fb ?_ | refine Qe ?_ | refine Wa ?_ | refine Wb ?_ | (refine AW.ite rfl (fun h => ?_) (fun h => ?_) <;> try (exfalso; omega; done)) | refine AW.cond _ rfl (fun h => ?_) (fun h => ?_) | refine Qf ?_ | refine Qg ?_ | refine Qh ?_ | refine Qi ?_ | refine Xa ?_ | refine Xb ?_ | refine Xc ?_ | refine Xd ?_ | refine Fc ?_)
        refine Ya ?_
        (apply Le.head [(⟨0, []⟩, ⟨0, []⟩, srcO code s11), (⟨1, []⟩, ⟨3, []⟩, PO us)])
        (case' hfr | hob => (repeat' (first | refine La ?_ ?_ | exact Lc | refine Lo ?_ | refine ⟨⟨_, rfl, ?_⟩, ?_⟩ | refine ObA.box ?_ | refine ObA.frE ?_ | refine ObA.dataE ?_ | refine ARs.agg ?_ | refine ARs.tup ?_ | refine AR.b ?_ | refine AR.iE ?_ | refine AR.e ?_ | refine AR.clo' ARs.nil ?_)))
        all_goals (first | exact Ld | ((simp [Pl.row, *]; done)))
    rotate_left 1
    all_goals (first | rw [if_pos (by assumption)] | rw [if_neg (by assumption), if_pos (by assumption)] | rw [if_neg (by assumption), if_neg (by assumption), if_pos (by assumption)] | rw [if_neg (by assumption), if_neg (by assumption), if_neg (by assumption), if_neg (by assumption)])
    (·
      refine Ya ?_
      (apply Le.head [(⟨0, []⟩, ⟨0, []⟩, srcO code s5), (⟨1, []⟩, ⟨3, []⟩, PO ys)])
      (case' hfr | hob => (repeat' (first | refine La ?_ ?_ | exact Lc | refine Lo ?_ | refine ⟨⟨_, rfl, ?_⟩, ?_⟩ | refine ObA.box ?_ | refine ObA.frE ?_ | refine ObA.dataE ?_ | refine ARs.agg ?_ | refine ARs.tup ?_ | refine AR.b ?_ | refine AR.iE ?_ | refine AR.e ?_ | refine AR.clo' ARs.nil ?_)))
      all_goals (first | exact Ld | ((simp [Pl.row, *]; done))))
    (·
      refine Ya ?_
      (apply Le.head [(⟨0, []⟩, ⟨0, []⟩, srcO code s7), (⟨1, []⟩, ⟨920, []⟩, PO _)])
      (case' hfr | hob => (repeat' (first | refine La ?_ ?_ | exact Lc | refine Lo ?_ | refine ⟨⟨_, rfl, ?_⟩, ?_⟩ | refine ObA.box ?_ | refine ObA.frE ?_ | refine ObA.dataE ?_ | refine ARs.agg ?_ | refine ARs.tup ?_ | refine AR.b ?_ | refine AR.iE ?_ | refine AR.e ?_ | refine AR.clo' ARs.nil ?_)))
      all_goals (first | exact Ld | ((simp [Pl.row, *]; done))))
    (·
      refine Ya ?_
      (apply Le.head [(⟨0, []⟩, ⟨0, []⟩, srcO code s5), (⟨1, []⟩, ⟨917, []⟩, PO _)])
      (case' hfr | hob => (repeat' (first | refine La ?_ ?_ | exact Lc | refine Lo ?_ | refine ⟨⟨_, rfl, ?_⟩, ?_⟩ | refine ObA.box ?_ | refine ObA.frE ?_ | refine ObA.dataE ?_ | refine ARs.agg ?_ | refine ARs.tup ?_ | refine AR.b ?_ | refine AR.iE ?_ | refine AR.e ?_ | refine AR.clo' ARs.nil ?_)))
      all_goals (first | exact Ld | ((simp [Pl.row, *]; done))))
    (·
      refine Ya ?_
      (apply Le.head [(⟨0, []⟩, ⟨0, []⟩, srcO code s4), (⟨1, []⟩, ⟨3, []⟩, PO ys)])
      (case' hfr | hob => (repeat' (first | refine La ?_ ?_ | exact Lc | refine Lo ?_ | refine ⟨⟨_, rfl, ?_⟩, ?_⟩ | refine ObA.box ?_ | refine ObA.frE ?_ | refine ObA.dataE ?_ | refine ARs.agg ?_ | refine ARs.tup ?_ | refine AR.b ?_ | refine AR.iE ?_ | refine AR.e ?_ | refine AR.clo' ARs.nil ?_)))
      all_goals (first | exact Ld | ((simp [Pl.row, *]; done))))
end Go.Proofs.Ytegfjedklebbfaa
end
