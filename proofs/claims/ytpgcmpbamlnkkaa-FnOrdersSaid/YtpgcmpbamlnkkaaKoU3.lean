/-
  Walks in the abstract reading, part 3.
-/
import Derived.Test.YtpgcmpbamlnkkaaKoU2
import Derived.Test.YtpgcmpbamlnkkaaKoA2
import Derived.Test.YtpgcmpbamlnkkaaKoU1
section
namespace Go.Proofs.Ytpgcmpbamlnkkaa
set_option linter.unusedSimpArgs false
set_option linter.unusedVariables false
open Go Go.RowKit
attribute [local irreducible] AL AD AW OpOk Le AC thenQ blockQ EndQ

abbrev mi1 (l : Loc) (R : List (List (List D))) : MI := { l := l, k := 1, R := R, src := l, base := l }
def botT (m n : Nat) : List (List Int) := List.replicate m (List.replicate n BOT)
theorem botT_succ {i n : Nat} : TR (botT (i + 1) n) = TR (botT i n) ++ [IR (List.replicate n BOT)] := by
  simp [botT, List.replicate_succ']
theorem repl_succ {i : Nat} {b : Int} : IR (List.replicate (i + 1) b) = IR (List.replicate i b) ++ [[DI b]] := by
  simp [List.replicate_succ']
theorem IR_len_repl {i : Nat} {b : Int} : (IR (List.replicate i b)).length = i := by simp
theorem l02Bottom_ac (m n : Nat) (hm : m ≤ 1000000) (hn : n ≤ 1000000) : AC Try.prog 204 [I m, I n] H0 (own1 1 m) (hpM 1 (TR (botT m n))) := by
  refine AC.of_body 0 Try.func204 rfl (fun l h => absurd rfl h) (fun C hC => ?_)
  have hD : ∀ l, ¬ C.D0 l := fun l h => (hC l).1 h rfl
  simp only [startFr, Try.ntmps204, List.length_cons, List.length_nil, Nat.reduceAdd, Nat.reduceSub, List.replicate_succ, List.replicate_zero, List.cons_append, List.nil_append]
  repeat' (first | ((first | apply Ba | (apply Bb; (· rfl); (· rfl)) | (apply Bc; (· exact nxE)) | (apply Bd; (· rfl); (· rfl); (· exact nxE))); (· first | exact Ok.pe)) | ((first | apply Ca | (apply Cb; (· exact nxE))); (· first | exact Ok.e0)) | refine Sx ?_ | (refine Sy (fun h => ?_) (fun h => ?_) <;> try (exfalso; omega; done)) | refine Sz (fun h => ?_) (fun h => ?_))
  refine AW.loop (X := {k : Nat // k ≤ m}) (fun k => ⟨[I m, I n, Oo, Oo, Oo, .own 1 ⟨1, []⟩ 0 (k.1 : Nat), I (k.1 : Nat), Oo, Oo, Oo, Oo, Oo, Oo, Oo, Oo, Oo, Oo, Oo, Oo, Oo, Oo, Oo, Oo, Oo, Oo, Oo, Oo, Oo, Oo], heapX [] [mi1 ⟨1, []⟩ (TR (botT k.1 n))], 900⟩) (fun k => m - k.1) ⟨0, Nat.zero_le _⟩ ?_ (fun k => ?_)
  ·
    (apply Le.headG [] [{ l := ⟨1, []⟩, k := 1, R := TR (botT 0 n), src := ⟨1, []⟩, base := ⟨1, []⟩ }] (fun _ => False))
    (case' hlen => rfl)
    (case' hms => rfl)
    all_goals (try dsimp only [srcs])
    (case' hfr | hob => (repeat' (first | refine La ?_ ?_ | exact Lc | refine Lo ?_ | refine ⟨⟨_, rfl, ?_⟩, ?_⟩ | refine Lx ?_)))
    (case' hok => first | exact ⟨MI.ok_same rfl (fun i x hx => by simp [botT] at hx), trivial⟩ | exact trivial)
    (case' hN => rfl)
    (case' hS => rfl)
    all_goals (first | exact Ld | (rfl))
  obtain ⟨i, hi⟩ := k
  simp only
  by_cases hlt : i < m
  ·
    repeat' (first | ((first | apply Ba | (apply Bb; (· rfl); (· rfl)) | (apply Bc; (· exact nxE)) | (apply Bd; (· rfl); (· rfl); (· exact nxE))); (· first | exact Ok.pe)) | ((first | apply Ca | (apply Cb; (· exact nxE))); (· first | exact Ok.e0)) | refine Sx ?_ | (refine Sy (fun h => ?_) (fun h => ?_) <;> try (exfalso; omega; done)) | refine Sz (fun h => ?_) (fun h => ?_))
    refine AW.loop (X := {k : Nat // k ≤ n}) (fun k => ⟨[I m, I n, Oo, Oo, Oo, .own 1 ⟨1, []⟩ 0 i, I i, .own 1 ⟨2, []⟩ 0 (k.1 : Nat), I (k.1 : Nat), Oo, Oo, Oo, Oo, Oo, Oo, Oo, Oo, Oo, Oo, Oo, Oo, Oo, Oo, Oo, Oo, Oo, Oo, Oo, Oo], heapX [(⟨2, []⟩, ⟨2, []⟩, IO (List.replicate k.1 BOT))] [mi1 ⟨1, []⟩ (TR (botT i n))], 900⟩) (fun k => n - k.1) ⟨0, Nat.zero_le _⟩ ?_ (fun k => ?_)
    ·
      (apply Le.headG [_] [mi1 ⟨1, []⟩ (TR (botT i n))] (fun _ => False))
      (case' hlen => rfl)
      (case' hms => rfl)
      all_goals (try dsimp only [srcs])
      (case' hfr | hob => (repeat' (first | refine La ?_ ?_ | exact Lc | refine Lo ?_ | refine ⟨⟨_, rfl, ?_⟩, ?_⟩ | refine Lx ?_)))
      (case' hok => first | exact ⟨MI.ok_same rfl (Cg), trivial⟩ | exact trivial)
      (case' hN => rfl)
      (case' hS => rfl)
      all_goals (first | exact Ld | (rfl))
    obtain ⟨j, hj⟩ := k
    simp only
    by_cases hlt2 : j < n
    ·
      repeat' (first | ((first | apply Ba | (apply Bb; (· rfl); (· rfl)) | (apply Bc; (· exact nxE)) | (apply Bd; (· rfl); (· rfl); (· exact nxE))); (· first | exact Ok.append1 (row := [DI BOT]) rfl rfl (by decide) rfl rfl IR_len_repl rfl rfl rfl (by rfl) (by omega) (by omega) | exact Ok.pe)) | ((first | apply Ca | (apply Cb; (· exact nxE))); (· first | exact Ok.append1 (row := [DI BOT]) rfl rfl (by decide) rfl rfl IR_len_repl rfl rfl rfl (by rfl) (by omega) (by omega) | exact Ok.e0)) | refine Sx ?_ | (refine Sy (fun h => ?_) (fun h => ?_) <;> try (exfalso; omega; done)) | refine Sz (fun h => ?_) (fun h => ?_))
      refine ⟨⟨j + 1, by omega⟩, ?_, by simp only; omega⟩
      (apply Le.headG [_] [mi1 ⟨1, []⟩ (TR (botT i n))] (fun _ => False))
      (case' hlen => rfl)
      (case' hms => rfl)
      all_goals (try dsimp only [srcs])
      (case' hfr | hob => (repeat' (first | refine La ?_ ?_ | exact Lc | refine Lo ?_ | refine ⟨⟨_, rfl, ?_⟩, ?_⟩ | refine Lx ?_)))
      (case' hok => first | exact ⟨MI.ok_same rfl (Cg), trivial⟩ | exact trivial)
      (case' hN => rfl)
      (case' hS => rfl)
      all_goals (first | exact Ld | ((rw [repl_succ])))
    ·
      have hjn : j = n := by omega
      subst hjn
      repeat' (first | ((first | apply Ba | (apply Bb; (· rfl); (· rfl)) | (apply Bc; (· exact nxE)) | (apply Bd; (· rfl); (· rfl); (· exact nxE))); (· first | exact Ok.appendT rfl rfl (by decide) rfl rfl rfl (by simp [outer_len, botT]; done) rfl rfl (by rfl) (by omega) (by omega) rfl | exact Ok.pe)) | ((first | apply Ca | (apply Cb; (· exact nxE))); (· first | exact Ok.appendT rfl rfl (by decide) rfl rfl rfl (by simp [outer_len, botT]; done) rfl rfl (by rfl) (by omega) (by omega) rfl | exact Ok.e0)) | refine Sx ?_ | (refine Sy (fun h => ?_) (fun h => ?_) <;> try (exfalso; omega; done)) | refine Sz (fun h => ?_) (fun h => ?_))
      refine ⟨⟨i + 1, by omega⟩, ?_, by simp only; omega⟩
      (apply Le.headG [] [{ l := ⟨1, []⟩, k := 1, R := TR (botT (i + 1) j), src := ⟨906, []⟩, base := ⟨1, []⟩, cut := i, ext := some ⟨2, []⟩ }] (fun _ => False))
      (case' hlen => rfl)
      (case' hms => rfl)
      all_goals (try dsimp only [srcs])
      (case' hfr | hob => (repeat' (first | refine La ?_ ?_ | exact Lc | refine Lo ?_ | refine ⟨⟨_, rfl, ?_⟩, ?_⟩ | refine Lx ?_)))
      (case' hok => first | exact ⟨MI.ok_app botT_succ (by simp [botT]) IR_len_repl rfl (Cg) rfl, trivial⟩ | exact trivial)
      (case' hN => rfl)
      (case' hS => rfl)
      all_goals (first | exact Ld | ((simp [AllP, botT]; done)))
  ·
    repeat' (first | ((first | apply Ba | (apply Bb; (· rfl); (· rfl)) | (apply Bc; (· exact nxE)) | (apply Bd; (· rfl); (· rfl); (· exact nxE))); (· first | exact Ok.pe)) | ((first | apply Ca | (apply Cb; (· exact nxE))); (· first | exact Ok.e0)) | refine Sx ?_ | (refine Sy (fun h => ?_) (fun h => ?_) <;> try (exfalso; omega; done)) | refine Sz (fun h => ?_) (fun h => ?_))
    have him : i = m := by omega
    subst him
    refine Ya ?_
    (apply Le.headG [] [{ l := ⟨0, []⟩, k := 1, R := TR (botT i n), src := ⟨1, []⟩, base := ⟨1, []⟩ }] (fun _ => False))
    (case' hlen => rfl)
    (case' hms => rfl)
    all_goals (try dsimp only [srcs])
    (case' hfr | hob => (repeat' (first | refine La ?_ ?_ | exact Lc | refine Lo ?_ | refine ⟨⟨_, rfl, ?_⟩, ?_⟩ | refine Lx ?_)))
    (case' hok => first | exact ⟨MI.ok_same rfl (Cg), trivial⟩ | exact trivial)
    (case' hN => rfl)
    (case' hS => rfl)
    all_goals (first | exact Ld | (rfl))
end Go.Proofs.Ytpgcmpbamlnkkaa
end

section
namespace Go.Proofs.Ytpgcmpbamlnkkaa
set_option linter.unusedSimpArgs false
set_option linter.unusedVariables false
open Go Go.RowKit
attribute [local irreducible] AL AD AW OpOk Le AC thenQ blockQ EndQ

def setT (t : List (List Int)) (i j : Nat) (v : Int) : List (List Int) := t.set i ((t.getD i []).set j v)
theorem setT_TR {t : List (List Int)} {i j : Nat} {v : Int} {r : List Int} (h : t[i]? = some r) : TR (setT t i j v) = (TR t).set i (IR (r.set j v)) := by
  simp [setT, List.map_set, List.getD_eq_getElem?_getD, h]
theorem IR_set {r : List Int} {j : Nat} {v : Int} : (IR r).set j [DI v] = IR (r.set j v) := by simp [List.map_set]
theorem Sq.setT {t : List (List Int)} {n i j : Nat} {v : Int} (h : Sq t n) : Sq (setT t i j v) n := by
  refine ⟨by simp [Go.Proofs.Ytpgcmpbamlnkkaa.setT, h.l], fun r hr => ?_⟩
  rcases List.mem_or_eq_of_mem_set hr with hr | rfl
  · exact h.r r hr
  · rw [List.length_set]
    cases hg : t[i]? with
    | none =>
      exfalso
      have : t.length ≤ i := by simpa using hg
      unfold Go.Proofs.Ytpgcmpbamlnkkaa.setT at hr
      rw [List.set_eq_of_length_le this] at hr
      rw [List.getD_eq_getElem?_getD, hg] at hr
      have h1 := h.r _ hr
      simp at h1
      have h2 := List.length_pos_of_mem hr
      rw [h.l] at h2; omega
    | some x => rw [List.getD_eq_getElem?_getD, hg]; exact h.r x (List.mem_of_getElem? hg)
theorem entN_setT {t : List (List Int)} {n i j : Nat} {v : Int} (h : Sq t n) (hi : i < n) (hj : j < n) (a b : Nat) : entN (setT t i j v) a b = if a = i ∧ b = j then v else entN t a b := by
  obtain ⟨r, h1, h2, h3⟩ := h.get hi hj
  unfold entN setT
  by_cases e : a = i
  · subst e
    rw [List.getElem?_set_self (by rw [h.l]; exact hi), Option.getD_some, List.getD_eq_getElem?_getD, h1, Option.getD_some]
    by_cases e2 : b = j
    · subst e2; rw [List.getElem?_set_self (by rw [h3]; exact hj)]; simp
    · rw [List.getElem?_set_ne (fun h => e2 h.symm)]; simp [e2]
  · rw [List.getElem?_set_ne (fun h => e h.symm)]; simp [e]
theorem Sq.bot (n : Nat) : Sq (botT n n) n := ⟨by simp [botT], fun r hr => by obtain ⟨_, rfl⟩ := List.mem_replicate.1 hr; simp⟩
theorem entN_bot {n a b : Nat} (ha : a < n) (hb : b < n) : entN (botT n n) a b = BOT := by
  unfold entN botT
  simp [ha, hb]
/-- Rows of a table, one after the other. -/
theorem take_fold {α β : Type} {f : β → α → β} {b : β} {xs : List α} {k : Nat} {x : α} (h : xs[k]? = some x) : (xs.take (k + 1)).foldl f b = f ((xs.take k).foldl f b) x := by
  obtain ⟨hk, rfl⟩ := List.getElem?_eq_some_iff.1 h
  rw [List.take_succ_eq_append_getElem hk, List.foldl_append]; rfl
def okPl (n : Nat) (p : Pl) : Prop := (0 ≤ p.f ∧ p.f < n) ∧ (0 ≤ p.t ∧ p.t < n) ∧ (0 ≤ p.d ∧ p.d ≤ 10000) ∧ (0 ≤ p.k ∧ p.k ≤ 5)
def freeS (t : List (List Int)) (p : Pl) : List (List Int) := if p.k = 0 then setT t p.t.toNat p.f.toNat 0 else t
def freeT (n : Nat) (xs : List Pl) : List (List Int) := xs.foldl freeS (botT n n)
theorem freeS_sq {n : Nat} {t : List (List Int)} {p : Pl} (h : Sq t n) : Sq (freeS t p) n := by
  unfold freeS; split
  · exact h.setT
  · exact h
theorem free_sq {n : Nat} : ∀ {xs : List Pl} {t : List (List Int)}, Sq t n → Sq (xs.foldl freeS t) n
  | [], _, h => h
  | _ :: r, _, h => free_sq (xs := r) (freeS_sq h)
set_option maxHeartbeats 1000000 in
theorem l12Free_ac (n : Nat) (xs : List Pl) (hn : n ≤ 10) (hx : xs.length ≤ 100000000) (hv : ∀ p ∈ xs, okPl n p) : AC Try.prog 100 [grD n xs] H0 (own1 1 n) (hpM 1 (TR (freeT n xs))) := by
  refine AC.of_body 0 Try.func100 rfl (fun l h => absurd rfl h) (fun C hC => ?_)
  have hD : ∀ l, ¬ C.D0 l := fun l h => (hC l).1 h rfl
  simp only [startFr, Try.ntmps100, List.length_cons, List.length_nil, Nat.reduceAdd, Nat.reduceSub, List.replicate_succ, List.replicate_zero, List.cons_append, List.nil_append]
  repeat' (first | ((first | apply Ba | (apply Bb; (· rfl); (· rfl)) | (apply Bc; (· exact nxE)) | (apply Bd; (· rfl); (· rfl); (· exact nxE))); (· first | exact Tb rfl rfl (l02Bottom_ac n n (by omega) (by omega)) (Sd (Sd Sn)) | exact Ok.pe)) | ((first | apply Ca | (apply Cb; (· exact nxE))); (· first | exact Tb rfl rfl (l02Bottom_ac n n (by omega) (by omega)) (Sd (Sd Sn)) | exact Ok.e0)) | refine Sx ?_ | (refine Sy (fun h => ?_) (fun h => ?_) <;> try (exfalso; omega; done)) | refine Sz (fun h => ?_) (fun h => ?_))
  refine AW.loop (X := {k : Nat // k ≤ xs.length}) (fun k => ⟨[Oo, Bx 2 0, Oo, .own 1 ⟨1, []⟩ 0 n, I (k.1 : Nat), Oo, Oo, Oo, Oo, Oo, Oo, Oo, Oo, Oo, Oo, Oo, Oo, Oo, Oo, Oo, Oo, Oo, Oo, Oo, Oo, Oo, Oo, Oo, Oo, Oo, Oo, Oo, Oo, Oo, Oo, Oo, Oo, Oo, Oo, Oo, Oo], heapX [(⟨0, []⟩, ⟨0, []⟩, ⟨2, [[I n, PL xs]]⟩)] [mi1 ⟨1, []⟩ (TR ((xs.take k.1).foldl freeS (botT n n)))], 900⟩) (fun k => xs.length - k.1) ⟨0, Nat.zero_le _⟩ ?_ (fun k => ?_)
  ·
    (apply Le.headG [_] [{ l := ⟨1, []⟩, k := 1, R := TR (botT n n), src := ⟨6, [0]⟩, base := ⟨6, [0]⟩ }] (fun _ => False))
    (case' hlen => rfl)
    (case' hms => rfl)
    all_goals (try dsimp only [srcs])
    (case' hfr | hob => (repeat' (first | refine La ?_ ?_ | exact Lc | refine Lo ?_ | refine ⟨⟨_, rfl, ?_⟩, ?_⟩ | refine Lx ?_)))
    (case' hok => first | exact ⟨MI.ok_same rfl (Cg), trivial⟩ | exact trivial)
    (case' hN => rfl)
    (case' hS => rfl)
    all_goals (first | exact Ld | (rfl))
  obtain ⟨k, hk⟩ := k
  simp only
  by_cases hlt : k < xs.length
  · obtain ⟨p, hp⟩ : ∃ p, xs[k]? = some p := ⟨xs[k], by simp⟩
    obtain ⟨⟨h1, h2⟩, ⟨h3, h4⟩, ⟨h5, h6⟩, ⟨h7, h8⟩⟩ := hv p (List.mem_of_getElem? hp)
    obtain ⟨pf, pt, pd, pk⟩ := p
    obtain ⟨f, rfl⟩ : ∃ f : Nat, pf = f := ⟨pf.toNat, by simp at h1; omega⟩
    obtain ⟨t, rfl⟩ : ∃ t : Nat, pt = t := ⟨pt.toNat, by simp at h3; omega⟩
    simp only at h2 h4
    have hst := take_fold (f := freeS) (b := botT n n) hp
    have hrow : (xs.map Pl.row)[((k : Nat) : Int).toNat]? = some [DI f, DI t, DI pd, DI pk] := row_get hp
    have hsq : Sq ((xs.take k).foldl freeS (botT n n)) n := free_sq (Sq.bot n)
    generalize hT : (xs.take k).foldl freeS (botT n n) = T at hst hsq
    obtain ⟨r, hr1, hr2, hr3⟩ := hsq.get (show t < n by omega) (show f < n by omega)
    have hr1' : (TR T)[t]? = some (IR r) := by simp [hr1]
    have hrl : (IR r).length = n := by rw [IR_len, hr3]
    repeat' (first | ((first | apply Ba | (apply Bb; (· rfl); (· rfl)) | (apply Bc; (· exact nxE)) | (apply Bd; (· rfl); (· rfl); (· exact nxE))); (· first | exact Ok.ldT rfl rfl rfl hr1' | exact Ok.st1 rfl rfl (congrArg (Option.map (dobj 1)) hr1') (by omega) (by simp [hr2]; done) rfl rfl IR_set | exact Ok.pe)) | ((first | apply Ca | (apply Cb; (· exact nxE))); (· first | exact Ok.st1 rfl rfl (congrArg (Option.map (dobj 1)) hr1') (by omega) (by simp [hr2]; done) rfl rfl IR_set | exact Ok.e0)) | refine Sx ?_ | (refine Sy (fun h => ?_) (fun h => ?_) <;> try (exfalso; omega; done)) | refine Sz (fun h => ?_) (fun h => ?_))
    · refine ⟨⟨k + 1, by omega⟩, ?_, by simp only; omega⟩
      (apply Le.headG [_] [{ l := ⟨1, []⟩, k := 1, R := TR ((xs.take (k + 1)).foldl freeS (botT n n)), src := ⟨1, []⟩, base := ⟨1, []⟩ }] (fun _ => False))
      (case' hlen => rfl)
      (case' hms => rfl)
      all_goals (try dsimp only [srcs])
      (case' hfr | hob => (repeat' (first | refine La ?_ ?_ | exact Lc | refine Lo ?_ | refine ⟨⟨_, rfl, ?_⟩, ?_⟩ | refine Lx ?_)))
      (case' hok => first | exact ⟨MI.ok_row (r0 := IR r) (r := IR (r.set f 0)) (by rw [hst, freeS, if_pos h]; exact setT_TR hr1) hr1' (by simp) rfl (Cg), trivial⟩ | exact trivial)
      (case' hN => rfl)
      (case' hS => rfl)
      all_goals (first | exact Ld | (rfl))
    · refine ⟨⟨k + 1, by omega⟩, ?_, by simp only; omega⟩
      (apply Le.headG [_] [{ l := ⟨1, []⟩, k := 1, R := TR ((xs.take (k + 1)).foldl freeS (botT n n)), src := ⟨1, []⟩, base := ⟨1, []⟩ }] (fun _ => False))
      (case' hlen => rfl)
      (case' hms => rfl)
      all_goals (try dsimp only [srcs])
      (case' hfr | hob => (repeat' (first | refine La ?_ ?_ | exact Lc | refine Lo ?_ | refine ⟨⟨_, rfl, ?_⟩, ?_⟩ | refine Lx ?_)))
      (case' hok => first | exact ⟨by rw [hst, freeS, if_neg h]; exact MI.ok_same rfl (Cg), trivial⟩ | exact trivial)
      (case' hN => rfl)
      (case' hS => rfl)
      all_goals (first | exact Ld | (rfl))
  ·
    have hkn : k = xs.length := by omega
    subst hkn
    rw [List.take_length]
    repeat' (first | ((first | apply Ba | (apply Bb; (· rfl); (· rfl)) | (apply Bc; (· exact nxE)) | (apply Bd; (· rfl); (· rfl); (· exact nxE))); (· first | exact Ok.pe)) | ((first | apply Ca | (apply Cb; (· exact nxE))); (· first | exact Ok.e0)) | refine Sx ?_ | (refine Sy (fun h => ?_) (fun h => ?_) <;> try (exfalso; omega; done)) | refine Sz (fun h => ?_) (fun h => ?_))
    refine Ya ?_
    (apply Le.headG [] [{ l := ⟨0, []⟩, k := 1, R := TR (freeT n xs), src := ⟨1, []⟩, base := ⟨1, []⟩ }] (fun _ => False))
    (case' hlen => rfl)
    (case' hms => rfl)
    all_goals (try dsimp only [srcs])
    (case' hfr | hob => (repeat' (first | refine La ?_ ?_ | exact Lc | refine Lo ?_ | refine ⟨⟨_, rfl, ?_⟩, ?_⟩ | refine Lx ?_)))
    (case' hok => first | exact ⟨MI.ok_same rfl (Cg), trivial⟩ | exact trivial)
    (case' hN => rfl)
    (case' hS => rfl)
    all_goals (first | exact Ld | (rfl))
end Go.Proofs.Ytpgcmpbamlnkkaa
end

section
namespace Go.Proofs.Ytpgcmpbamlnkkaa
set_option linter.unusedSimpArgs false
set_option linter.unusedVariables false
open Go Go.RowKit
attribute [local irreducible] AL AD AW OpOk Le AC thenQ blockQ EndQ

set_option maxHeartbeats 1000000 in
theorem l03Over_ac (t : List (List Int)) (n : Nat) (ht : Sq t n) (hn : n ≤ 1000) (hb : bigB t) (over : Int) : AC Try.prog 192 [TL t, I over] H0 (IL (cN (overF (entN t) n over))) H0 := by
  have htl := ht.l
  refine AC.of_body 0 Try.func192 rfl (fun l h => absurd rfl h) (fun C hC => ?_)
  have hD : ∀ l, ¬ C.D0 l := fun l h => (hC l).1 h rfl
  simp only [startFr, Try.ntmps192, List.length_cons, List.length_nil, Nat.reduceAdd, Nat.reduceSub, List.replicate_succ, List.replicate_zero, List.cons_append, List.nil_append]
  repeat' (first | ((first | apply Ba | (apply Bb; (· rfl); (· rfl)) | (apply Bc; (· exact nxE)) | (apply Bd; (· rfl); (· rfl); (· exact nxE))); (· first | exact Ok.pe)) | ((first | apply Ca | (apply Cb; (· exact nxE))); (· first | exact Ok.e0)) | refine Sx ?_ | (refine Sy (fun h => ?_) (fun h => ?_) <;> try (exfalso; omega; done)) | refine Sz (fun h => ?_) (fun h => ?_))
  refine AW.loop (X := {k : Nat // k ≤ n ∧ overF (entN t) n over = tryAll (fun v => growF (entN t) n over n [v] 0) (List.range' k (n - k))}) (fun k => ⟨[TL t, I over, Oo, Oo, Oo, I (k.1 : Nat), Oo, Oo, Oo, Oo, Oo, Oo, Oo, Oo, Oo, Oo, Oo, Oo, Oo, Oo, Oo, Oo], heapL [], 900⟩) (fun k => n - k.1) ⟨0, Nat.zero_le _, rfl⟩ ?_ (fun k => ?_)
  ·
    (apply Le.headZ [] rfl)
    all_goals (try dsimp only [srcs])
    (case' hfr | hob => (repeat' (first | refine La ?_ ?_ | exact Lc | refine Lo ?_ | refine ⟨⟨_, rfl, ?_⟩, ?_⟩ | refine Lx ?_)))
    all_goals (first | (rfl) | exact Ld)
  obtain ⟨v, hv1, hv2⟩ := k
  simp only
  by_cases hlt : v < n
  · rw [range'_cons hlt, tryAll] at hv2
    have hG := l03Grow_ac t n ht hn hb over n [v] 0 (by simp) (by simpa using hlt) (by simp) (by simp; omega) (by simp)
    repeat' (first | ((first | apply Ba | (apply Bb; (· rfl); (· rfl)) | (apply Bc; (· exact nxE)) | (apply Bd; (· rfl); (· rfl); (· exact nxE))); (· first | exact Zf rfl rfl (hG) (Sd (Sw (Sd (Sd Sn)))) | exact Ok.pe)) | ((first | apply Ca | (apply Cb; (· exact nxE))); (· first | exact Ok.e0)) | refine Sx ?_ | (refine Sy (fun h => ?_) (fun h => ?_) <;> try (exfalso; omega; done)) | refine Sz (fun h => ?_) (fun h => ?_))
    ·
      refine Ya ?_
      (apply Le.headZ (hs := []) [] rfl)
      all_goals (try dsimp only [srcs])
      (case' hfr => (repeat' (first | refine La ?_ ?_ | exact Lc | refine Lo ?_ | refine ⟨⟨_, rfl, ?_⟩, ?_⟩ | refine Lx ?_)))
      all_goals (first | exact Ld | exact trivial | ((rw [hv2, if_pos (by intro e; rw [e] at h; simp at h)]; done)))
    · refine ⟨⟨v + 1, by omega, by rw [hv2, if_neg (by intro e; exact h (by have := List.length_pos_iff.2 e; simp; omega))]⟩, ?_, by simp only; omega⟩
      (apply Le.headZ [] rfl)
      all_goals (try dsimp only [srcs])
      (case' hfr | hob => (repeat' (first | refine La ?_ ?_ | exact Lc | refine Lo ?_ | refine ⟨⟨_, rfl, ?_⟩, ?_⟩ | refine Lx ?_)))
      all_goals (first | (rfl) | exact Ld)
  ·
    rw [show n - v = 0 by omega, List.range'_zero] at hv2
    rw [hv2]
    repeat' (first | ((first | apply Ba | (apply Bb; (· rfl); (· rfl)) | (apply Bc; (· exact nxE)) | (apply Bd; (· rfl); (· rfl); (· exact nxE))); (· first | exact Ok.pe)) | ((first | apply Ca | (apply Cb; (· exact nxE))); (· first | exact Ok.e0)) | refine Sx ?_ | (refine Sy (fun h => ?_) (fun h => ?_) <;> try (exfalso; omega; done)) | refine Sz (fun h => ?_) (fun h => ?_))
    refine Ya ?_
    (apply Le.headZ (hs := []) [] rfl)
    all_goals (try dsimp only [srcs])
    (case' hfr => (repeat' (first | refine La ?_ ?_ | exact Lc | refine Lo ?_ | refine ⟨⟨_, rfl, ?_⟩, ?_⟩ | refine Lx ?_)))
    all_goals (first | exact Ld | exact trivial | (rfl))
theorem free_ent {n : Nat} {xs : List Pl} {t : List (List Int)} (hs : Sq t n) (h : bigB t) (hv : ∀ p ∈ xs, okPl n p) : bigB (xs.foldl freeS t) := by
  induction xs generalizing t with
  | nil => exact h
  | cons p r ih =>
    refine ih (freeS_sq hs) ?_ fun q hq => hv q (by simp [hq])
    obtain ⟨⟨h1, h2⟩, ⟨h3, h4⟩, _⟩ := hv p (by simp)
    unfold freeS
    split
    · intro i j
      rw [entN_setT hs (by omega) (by omega)]
      split
      · exact .inr ⟨by omega, by omega⟩
      · exact h i j
    · exact h
theorem bot_big (n : Nat) : bigB (botT n n) := fun i j => by
  unfold entN botT
  by_cases hi : i < n
  · by_cases hj : j < n
    · simp [hi, hj]
    · simp [hi, hj]
  · simp [hi]
def deadC (n : Nat) (xs : List Pl) : List Nat := overF (entN (freeT n xs)) n (-1)
theorem l12Dead_ac (n : Nat) (xs : List Pl) (hn : n ≤ 10) (hx : xs.length ≤ 100000000) (hv : ∀ p ∈ xs, okPl n p) : AC Try.prog 99 [grD n xs] H0 (IL (cN (deadC n xs))) H0 := by
  have hl : (TR (freeT n xs)).length = n := by rw [TR_len]; exact (free_sq (Sq.bot n)).l
  refine AC.of_body 0 Try.func99 rfl (fun l h => absurd rfl h) (fun C hC => ?_)
  have hD : ∀ l, ¬ C.D0 l := fun l h => (hC l).1 h rfl
  simp only [startFr, Try.ntmps99, List.length_cons, List.length_nil, Nat.reduceAdd, Nat.reduceSub, List.replicate_succ, List.replicate_zero, List.cons_append, List.nil_append]
  repeat' (first | ((first | apply Ba | (apply Bb; (· rfl); (· rfl)) | (apply Bc; (· exact nxE)) | (apply Bd; (· rfl); (· rfl); (· exact nxE))); (· first | exact Zf rfl rfl (l03Over_ac (freeT n xs) n (free_sq (Sq.bot n)) (by omega) (free_ent (Sq.bot n) (bot_big n) hv) (-1)) (Sm (Sd Sn)) | exact Tb rfl rfl (l12Free_ac n xs hn hx hv) (Sa (Sd (Sd Sn)) Sn) | exact Ok.pe)) | ((first | apply Ca | (apply Cb; (· exact nxE))); (· first | exact Tb rfl rfl (l12Free_ac n xs hn hx hv) (Sa (Sd (Sd Sn)) Sn) | exact Ok.e0)) | refine Sx ?_ | (refine Sy (fun h => ?_) (fun h => ?_) <;> try (exfalso; omega; done)) | refine Sz (fun h => ?_) (fun h => ?_))
  all_goals
    refine Ya ?_
    (apply Le.headZ (hs := []) [] rfl)
    all_goals (try dsimp only [srcs])
    (case' hfr => (repeat' (first | refine La ?_ ?_ | exact Lc | refine Lo ?_ | refine ⟨⟨_, rfl, ?_⟩, ?_⟩ | refine Lx ?_)))
    all_goals (first | exact Ld | exact trivial | (rfl))
theorem isEG_ok {ev : Int} {xs : List Pl} (h : isEG ev xs = true) : ∃ n : Nat, ev = n ∧ 1 ≤ n ∧ n ≤ 10 ∧ xs.length ≤ 30 ∧ ∀ p ∈ xs, okPl n p := by
  simp only [isEG, Bool.and_eq_true, decide_eq_true_eq, List.all_eq_true, wi_iff] at h
  obtain ⟨⟨⟨h1, h2⟩, h3⟩, h4⟩ := h
  refine ⟨ev.toNat, by omega, by omega, by omega, h3, fun p hp => ?_⟩
  have := h4 p hp
  simp only [plB, Bool.and_eq_true, wi_iff] at this
  unfold okPl
  omega
def liveB (ev : Int) (xs : List Pl) : Bool := decide (deadC ev.toNat xs = [])
def liveI (ev : Int) (xs : List Pl) : Int := if isEG ev xs = true then (if liveB ev xs = true then 0 else 5) else 1
theorem l12Live_ac (ev : Int) (xs : List Pl) (hx : xs.length ≤ 100000000) : AC Try.prog 93 [grD ev xs] H0 (I (liveI ev xs)) H0 := by
  by_cases hg : isEG ev xs = true
  · obtain ⟨n, rfl, h1, h2, h3, h4⟩ := isEG_ok hg
    have hE := sIsEventGraph_ac n xs hx
    rw [hg] at hE
    refine AC.of_body 0 Try.func93 rfl (fun l h => absurd rfl h) (fun C hC => ?_)
    have hD : ∀ l, ¬ C.D0 l := fun l h => (hC l).1 h rfl
    simp only [startFr, Try.ntmps93, List.length_cons, List.length_nil, Nat.reduceAdd, Nat.reduceSub, List.replicate_succ, List.replicate_zero, List.cons_append, List.nil_append]
    repeat' (first | ((first | apply Ba | (apply Bb; (· rfl); (· rfl)) | (apply Bc; (· exact nxE)) | (apply Bd; (· rfl); (· rfl); (· exact nxE))); (· first | exact Kz rfl rfl (hE) (Aa (Ad (Ad An)) An) | exact Kz rfl rfl (l12Dead_ac n xs h2 hx h4) (Aa (Ad (Ad An)) An) | exact Ok.pe)) | ((first | apply Ca | (apply Cb; (· exact nxE))); (· first | exact Ok.e0)) | refine Sx ?_ | (refine Sy (fun h => ?_) (fun h => ?_) <;> try (exfalso; omega; done)) | refine Sz (fun h => ?_) (fun h => ?_))
    ·
      refine Ya ?_
      (apply Le.headZ (hs := []) [] rfl)
      all_goals (try dsimp only [srcs])
      (case' hfr => (repeat' (first | refine La ?_ ?_ | exact Lc | refine Lo ?_ | refine ⟨⟨_, rfl, ?_⟩, ?_⟩ | refine Lx ?_)))
      all_goals (first | exact Ld | exact trivial | ((unfold liveI liveB; rw [if_pos hg, if_neg (by simp at h ⊢; intro e; rw [e] at h; simp at h)]; done)))
    ·
      refine Ya ?_
      (apply Le.headZ (hs := []) [] rfl)
      all_goals (try dsimp only [srcs])
      (case' hfr => (repeat' (first | refine La ?_ ?_ | exact Lc | refine Lo ?_ | refine ⟨⟨_, rfl, ?_⟩, ?_⟩ | refine Lx ?_)))
      all_goals (first | exact Ld | exact trivial | ((unfold liveI liveB; rw [if_pos hg, if_pos (by simp at h ⊢; exact h)]; done)))
  · have hE := sIsEventGraph_ac ev xs hx
    rw [Bool.not_eq_true] at hg
    rw [hg] at hE
    refine AC.of_body 0 Try.func93 rfl (fun l h => absurd rfl h) (fun C hC => ?_)
    have hD : ∀ l, ¬ C.D0 l := fun l h => (hC l).1 h rfl
    simp only [startFr, Try.ntmps93, List.length_cons, List.length_nil, Nat.reduceAdd, Nat.reduceSub, List.replicate_succ, List.replicate_zero, List.cons_append, List.nil_append]
    repeat' (first | ((first | apply Ba | (apply Bb; (· rfl); (· rfl)) | (apply Bc; (· exact nxE)) | (apply Bd; (· rfl); (· rfl); (· exact nxE))); (· first | exact Kz rfl rfl (hE) (Aa (Ad (Ad An)) An) | exact Ok.pe)) | ((first | apply Ca | (apply Cb; (· exact nxE))); (· first | exact Ok.e0)) | refine Sx ?_ | (refine Sy (fun h => ?_) (fun h => ?_) <;> try (exfalso; omega; done)) | refine Sz (fun h => ?_) (fun h => ?_))
    all_goals
      refine Ya ?_
      (apply Le.headZ (hs := []) [] rfl)
      all_goals (try dsimp only [srcs])
      (case' hfr => (repeat' (first | refine La ?_ ?_ | exact Lc | refine Lo ?_ | refine ⟨⟨_, rfl, ?_⟩, ?_⟩ | refine Lx ?_)))
      all_goals (first | exact Ld | exact trivial | ((unfold liveI; rw [hg]; rfl)))
end Go.Proofs.Ytpgcmpbamlnkkaa
end

section
namespace Go.Proofs.Ytpgcmpbamlnkkaa
set_option linter.unusedSimpArgs false
set_option linter.unusedVariables false
open Go Go.RowKit
attribute [local irreducible] AL AD AW OpOk Le AC thenQ blockQ EndQ

theorem okPl_at {n : Nat} {xs : List Pl} (hv : ∀ p ∈ xs, okPl n p) (i : Nat) (hi : i < xs.length) : okPl n (plA xs i) := by
  unfold plA
  rw [List.getElem?_eq_getElem hi]
  exact hv _ (List.getElem_mem hi)
theorem pl_row {n : Nat} {xs : List Pl} {i : Nat} (hi : i < xs.length) : (xs.map Pl.row)[((i : Nat) : Int).toNat]? = some [DI (plA xs i).f, DI (plA xs i).t, DI (plA xs i).d, DI (plA xs i).k] := by
  have h : xs[i]? = some (plA xs i) := by unfold plA; rw [List.getElem?_eq_getElem hi]; rfl
  exact row_get h
end Go.Proofs.Ytpgcmpbamlnkkaa
end

section
namespace Go.Proofs.Ytpgcmpbamlnkkaa
set_option linter.unusedSimpArgs false
set_option linter.unusedVariables false
open Go Go.RowKit
attribute [local irreducible] AL AD AW OpOk Le AC thenQ blockQ EndQ

theorem PathC.len {xs : List Pl} {n : Nat} {c : List Nat} (hv : ∀ p ∈ xs, okPl n p) (h : PathC xs c) : c.length ≤ n := by
  have hlt := h.wk.lt
  have hnd : (c.map fun i => (plA xs i).f.toNat).Nodup := by
    have := h.nd
    rw [List.nodup_iff_pairwise_ne, List.pairwise_map] at this ⊢
    refine List.Pairwise.imp_of_mem (R := fun a b => (plA xs a).f ≠ (plA xs b).f) ?_ this
    intro a b ha hb hne e
    have h1 := (okPl_at hv a (hlt a ha)).1
    have h2 := (okPl_at hv b (hlt b hb)).1
    omega
  have := nodup_le n _ hnd (fun x hx => by
    obtain ⟨i, hi, rfl⟩ := List.mem_map.1 hx
    have := (okPl_at hv i (hlt i hi)).1
    omega)
  simpa using this
theorem hdN_mem {l : List Nat} (h : l ≠ []) : hdN l ∈ l := by cases l with | nil => exact absurd rfl h | cons => simp [hdN]
theorem lsN_mem {l : List Nat} (h : l ≠ []) : lsN l ∈ l := by
  unfold lsN
  rw [List.getLastD_eq_getLast?, List.getLast?_eq_some_getLast h]
  exact List.getLast_mem _
end Go.Proofs.Ytpgcmpbamlnkkaa
end

section
namespace Go.Proofs.Ytpgcmpbamlnkkaa
set_option linter.unusedSimpArgs false
set_option linter.unusedVariables false
open Go Go.RowKit
attribute [local irreducible] AL AD AW OpOk Le AC thenQ blockQ EndQ

/-- A table of m rows of n numbers each. -/
structure Rc (t : List (List Int)) (m n : Nat) : Prop where
  l : t.length = m
  r : ∀ r ∈ t, r.length = n
theorem Rc.get {t : List (List Int)} {m n i j : Nat} (h : Rc t m n) (hi : i < m) (hj : j < n) : ∃ r, t[i]? = some r ∧ r[j]? = some (entN t i j) ∧ r.length = n := by
  have h1 : i < t.length := by rw [h.l]; exact hi
  have h2 := h.r t[i] (List.getElem_mem h1)
  refine ⟨t[i], List.getElem?_eq_getElem h1, ?_, h2⟩
  unfold entN
  rw [List.getElem?_eq_getElem h1, Option.getD_some, List.getElem?_eq_getElem (by rw [h2]; exact hj), Option.getD_some]
def alS (t : List (List Int)) (r e : Nat) (a : Int × Int) (p : Pl) (i : Nat) : Int × Int :=
  if p.t = e ∧ p.k + 1 ≤ r then (if a.1 < entN t (r - 1 - p.k.toNat) p.f.toNat + p.d ∨ (entN t (r - 1 - p.k.toNat) p.f.toNat + p.d = a.1 ∧ a.2 < 0) then (entN t (r - 1 - p.k.toNat) p.f.toNat + p.d, (i : Int)) else a) else a
/-- The allowed time and the place that gives it, off the first k places. -/
def alA (t : List (List Int)) (r e : Nat) (xs : List Pl) : Nat → Int × Int
  | 0 => (0, -1)
  | k + 1 => match xs[k]? with
    | some p => alS t r e (alA t r e xs k) p k
    | none => alA t r e xs k
end Go.Proofs.Ytpgcmpbamlnkkaa
end

section
namespace Go.Proofs.Ytpgcmpbamlnkkaa
open Go Go.RowKit
set_option linter.unusedSimpArgs false
set_option linter.unusedVariables false
attribute [local irreducible] AL AD AW OpOk Le AC thenQ blockQ EndQ

set_option maxHeartbeats 1000000 in
theorem indexFuncPl_ac (xs : List Pl) (hn : xs.length ≤ 100000000) (g : FuncId) [FnBody Try.prog g] (caps : List AV) (hs : HL) (hself : ∀ p ∈ hs, p.2.1 = p.1) (hnd : (hs.map (·.1)).Nodup) (hok : HOk hs) (hcaps : ∀ c ∈ caps, Locs (· ∈ hs.map (·.1)) c) (M : Nat) (hM : ∀ p ∈ hs, p.1.id < M) (pred : Pl → Bool)
    (hg : ∀ p ∈ xs, AC Try.prog g (p.av :: caps) (heapL hs) (Bo (pred p)) (heapL hs)) : AC Try.prog 205 [.d (.sl 4 (xs.map Pl.row)), .clo (.func g) [] caps] (heapL hs) (I (idxOf pred xs 0)) (heapL hs) := by
  refine AC.of_body M Try.func205 rfl (fun l h => by obtain ⟨p, hp, e⟩ := List.mem_map.1 (heapL_iff.1 h); rw [← e]; exact hM p hp) (fun C hC => ?_)
  simp only [startFr, Try.ntmps205, List.length_cons, List.length_nil, Nat.reduceAdd, Nat.reduceSub, List.replicate_succ, List.replicate_zero, List.cons_append, List.nil_append]
  repeat' (first | refine AL.nil ?_ | ((first | apply AL.st | (apply AL.on; (· rfl); (· rfl)) | (apply AD.st; (· exact nxE)) | (apply AD.on; (· rfl); (· rfl); (· exact nxE))); (· first | exact Ok.pe); (· exact setE); (· first | exact updsE | exact rfl); (· exact nxE)) | ((first | apply AL.st0 | (apply AD.st0; (· exact nxE))); (· first | exact Ok.e0); (· exact rfl); (· exact nxE)) | ((first | apply AL.off | apply AD.off); (· rfl); (· rfl); (· rfl); (· exact setE); (· exact nxE)) | ((first | refine AL.gsplit rfl rfl (fun h => ?_) (fun h => ?_) | refine AD.gsplit rfl rfl (fun h => ?_) (fun h => ?_)) <;> try (exfalso; omega; done)) | (first | refine AL.gsplitB rfl rfl (fun h => ?_) (fun h => ?_) | refine AD.gsplitB rfl rfl (fun h => ?_) (fun h => ?_)) | refine AD.fin (by simp only [List.length_cons, List.length_nil, Nat.reduceAdd]; rfl) rfl (by kernel_rfl) ?_ | refine thenN ?_ | refine AW.seq ?_ | refine AW.reg ?_ | refine AW.dr mixedA (by kernel_rfl) ?_ | refine AW.block ?_ | refine AW.condT rfl ?_ | refine AW.condF rfl ?_ | (refine AW.ite rfl (fun h => ?_) (fun h => ?_) <;> try (exfalso; omega; done)) | refine AW.cond _ rfl (fun h => ?_) (fun h => ?_) | refine AW.ret ?_ | refine AW.exit ?_ | refine AW.skip ?_ | refine thenR ?_ | refine thenX ?_ | refine blockN ?_ | refine blockR ?_ | refine blockX ?_ | refine blockY (by decide) ?_)
  have hca : ∀ H lent, ARs H lent id (· ∈ hs.map (·.1)) caps caps := fun H lent => ⟨rfl, fun i c c' h1 h2 => by rw [h1] at h2; cases h2; exact (hcaps c (List.mem_of_getElem? h1)).ar⟩
  have hD : ∀ l, C.D0 l → l.id < M := fun l h => by obtain ⟨p, hp, e⟩ := List.mem_map.1 (heapL_iff.1 ((hC l).1 h)); rw [← e]; exact hM p hp
  refine AW.loop (X := {k : Nat // k ≤ xs.length ∧ idxOf pred xs 0 = idxOf pred (xs.drop k) k}) (fun k => ⟨[PL xs, .clo (.func g) [] caps, .dead, .dead, .dead, .dead, .dead, I xs.length, I (k.1 : Nat), .dead, .dead, .dead, .dead, .dead, .dead, .dead, .dead, .dead, .dead], heapL hs, M⟩) (fun k => xs.length - k.1) ⟨0, Nat.zero_le _, by simp⟩ ?_ (fun k => ?_)
  ·
    refine Le.keep hself hnd hok ?_ hM hD
    repeat' (first | exact trivial | exact ARs.nil | refine ARs.cons ?_ ?_ | exact AR.dead _ | exact AR.dd _ | exact AR.i (by (try dsimp only); omega) | exact AR.ptr _ _ _ _ (by simp [heapL, upd]) | exact AR.own _ _ _ _ (by simp [heapL, upd]) | refine AR.ownE _ _ _ ?_ (by simp [heapL, upd]) | refine ⟨⟨_, rfl, ?_⟩, ?_⟩ | exact ObA.data | refine ObA.box ?_ | refine ObA.frE ?_ | refine ObA.dataE ?_ | refine ARs.agg ?_ | refine ARs.tup ?_ | exact AR.clo' ARs.nil ARs.nil | exact AR.clo' ARs.nil (hca _ _))
  obtain ⟨k, hk, hall⟩ := k
  simp only
  by_cases hlt : k < xs.length
  · obtain ⟨p, hp⟩ : ∃ p, xs[k]? = some p := ⟨xs[k], by simp⟩
    have hrow : (xs.map Pl.row)[((k : Nat) : Int).toNat]? = some [DI p.f, DI p.t, DI p.d, DI p.k] := row_get hp
    have hgp := hg p (List.mem_of_getElem? hp)
    have hst := idxOf_at (f := pred) hp k
    rw [← hall] at hst
    repeat' (first | refine AL.nil ?_ | ((first | apply AL.st | (apply AL.on; (· rfl); (· rfl)) | (apply AD.st; (· exact nxE)) | (apply AD.on; (· rfl); (· rfl); (· exact nxE))); (· first | exact OpOk.callS hs rfl rfl hgp (fun p hp => rfl) hok (.d _) (.cons (ARs.agg (.cons (.dd _) (.cons (.dd _) (.cons (.dd _) (.cons (.dd _) .nil))))) (hca _ _)) | exact Ok.pe); (· exact setE); (· first | exact updsE | exact rfl); (· exact nxE)) | ((first | apply AL.st0 | (apply AD.st0; (· exact nxE))); (· first | exact Ok.e0); (· exact rfl); (· exact nxE)) | ((first | apply AL.off | apply AD.off); (· rfl); (· rfl); (· rfl); (· exact setE); (· exact nxE)) | ((first | refine AL.gsplit rfl rfl (fun h => ?_) (fun h => ?_) | refine AD.gsplit rfl rfl (fun h => ?_) (fun h => ?_)) <;> try (exfalso; omega; done)) | (first | refine AL.gsplitB rfl rfl (fun h => ?_) (fun h => ?_) | refine AD.gsplitB rfl rfl (fun h => ?_) (fun h => ?_)) | refine AD.fin (by simp only [List.length_cons, List.length_nil, Nat.reduceAdd]; rfl) rfl (by kernel_rfl) ?_ | refine thenN ?_ | refine AW.seq ?_ | refine AW.reg ?_ | refine AW.dr mixedA (by kernel_rfl) ?_ | refine AW.block ?_ | refine AW.condT rfl ?_ | refine AW.condF rfl ?_ | (refine AW.ite rfl (fun h => ?_) (fun h => ?_) <;> try (exfalso; omega; done)) | refine AW.cond _ rfl (fun h => ?_) (fun h => ?_) | refine AW.ret ?_ | refine AW.exit ?_ | refine AW.skip ?_ | refine thenR ?_ | refine thenX ?_ | refine blockN ?_ | refine blockR ?_ | refine blockX ?_ | refine blockY (by decide) ?_)
    ·
      (refine end1p (by first | exact .inl rfl | exact .inr rfl) rfl (by first | exact rT rfl | exact rCA rfl rfl rfl rfl (by simp) | exact rCC rfl rfl rfl rfl rfl) ?_ (Le.keep hself hnd hok ?_ hM hD); (· rw [hst, if_pos h])) <;> (repeat' (first | exact trivial | exact ARs.nil | refine ARs.cons ?_ ?_ | exact AR.dead _ | exact AR.dd _ | exact AR.i (by (try dsimp only); omega) | exact AR.ptr _ _ _ _ (by simp [heapL, upd]) | exact AR.own _ _ _ _ (by simp [heapL, upd]) | refine AR.ownE _ _ _ ?_ (by simp [heapL, upd]) | refine ⟨⟨_, rfl, ?_⟩, ?_⟩ | exact ObA.data | refine ObA.box ?_ | refine ObA.frE ?_ | refine ObA.dataE ?_ | refine ARs.agg ?_ | refine ARs.tup ?_ | exact AR.clo' ARs.nil ARs.nil | exact AR.clo' ARs.nil (hca _ _)))
    · refine ⟨⟨k + 1, by omega, by rw [hst, if_neg (by simp [h])]⟩, ?_, by simp only; omega⟩
      refine Le.keep hself hnd hok ?_ hM hD
      repeat' (first | exact trivial | exact ARs.nil | refine ARs.cons ?_ ?_ | exact AR.dead _ | exact AR.dd _ | exact AR.i (by (try dsimp only); omega) | exact AR.ptr _ _ _ _ (by simp [heapL, upd]) | exact AR.own _ _ _ _ (by simp [heapL, upd]) | refine AR.ownE _ _ _ ?_ (by simp [heapL, upd]) | refine ⟨⟨_, rfl, ?_⟩, ?_⟩ | exact ObA.data | refine ObA.box ?_ | refine ObA.frE ?_ | refine ObA.dataE ?_ | refine ARs.agg ?_ | refine ARs.tup ?_ | exact AR.clo' ARs.nil ARs.nil | exact AR.clo' ARs.nil (hca _ _))
  ·
    repeat' (first | refine AL.nil ?_ | ((first | apply AL.st | (apply AL.on; (· rfl); (· rfl)) | (apply AD.st; (· exact nxE)) | (apply AD.on; (· rfl); (· rfl); (· exact nxE))); (· first | exact Ok.pe); (· exact setE); (· first | exact updsE | exact rfl); (· exact nxE)) | ((first | apply AL.st0 | (apply AD.st0; (· exact nxE))); (· first | exact Ok.e0); (· exact rfl); (· exact nxE)) | ((first | apply AL.off | apply AD.off); (· rfl); (· rfl); (· rfl); (· exact setE); (· exact nxE)) | ((first | refine AL.gsplit rfl rfl (fun h => ?_) (fun h => ?_) | refine AD.gsplit rfl rfl (fun h => ?_) (fun h => ?_)) <;> try (exfalso; omega; done)) | (first | refine AL.gsplitB rfl rfl (fun h => ?_) (fun h => ?_) | refine AD.gsplitB rfl rfl (fun h => ?_) (fun h => ?_)) | refine AD.fin (by simp only [List.length_cons, List.length_nil, Nat.reduceAdd]; rfl) rfl (by kernel_rfl) ?_ | refine thenN ?_ | refine AW.seq ?_ | refine AW.reg ?_ | refine AW.dr mixedA (by kernel_rfl) ?_ | refine AW.block ?_ | refine AW.condT rfl ?_ | refine AW.condF rfl ?_ | (refine AW.ite rfl (fun h => ?_) (fun h => ?_) <;> try (exfalso; omega; done)) | refine AW.cond _ rfl (fun h => ?_) (fun h => ?_) | refine AW.ret ?_ | refine AW.exit ?_ | refine AW.skip ?_ | refine thenR ?_ | refine thenX ?_ | refine blockN ?_ | refine blockR ?_ | refine blockX ?_ | refine blockY (by decide) ?_)
    all_goals
      (refine end1p (by first | exact .inl rfl | exact .inr rfl) rfl (by first | exact rT rfl | exact rCA rfl rfl rfl rfl (by simp) | exact rCC rfl rfl rfl rfl rfl) ?_ (Le.keep hself hnd hok ?_ hM hD); (· rw [hall, List.drop_of_length_le (by omega)]; rfl)) <;> (repeat' (first | exact trivial | exact ARs.nil | refine ARs.cons ?_ ?_ | exact AR.dead _ | exact AR.dd _ | exact AR.i (by (try dsimp only); omega) | exact AR.ptr _ _ _ _ (by simp [heapL, upd]) | exact AR.own _ _ _ _ (by simp [heapL, upd]) | refine AR.ownE _ _ _ ?_ (by simp [heapL, upd]) | refine ⟨⟨_, rfl, ?_⟩, ?_⟩ | exact ObA.data | refine ObA.box ?_ | refine ObA.frE ?_ | refine ObA.dataE ?_ | refine ARs.agg ?_ | refine ARs.tup ?_ | exact AR.clo' ARs.nil ARs.nil | exact AR.clo' ARs.nil (hca _ _)))
set_option maxHeartbeats 1000000 in
theorem containsFuncPl_ac (xs : List Pl) (hn : xs.length ≤ 100000000) (g : FuncId) [FnBody Try.prog g] (caps : List AV) (hs : HL) (hself : ∀ p ∈ hs, p.2.1 = p.1) (hnd : (hs.map (·.1)).Nodup) (hok : HOk hs) (hcaps : ∀ c ∈ caps, Locs (· ∈ hs.map (·.1)) c) (M : Nat) (hM : ∀ p ∈ hs, p.1.id < M) (pred : Pl → Bool)
    (hg : ∀ p ∈ xs, AC Try.prog g (p.av :: caps) (heapL hs) (Bo (pred p)) (heapL hs)) : AC Try.prog 102 [PL xs, .clo (.func g) [] caps] (heapL hs) (Bo (xs.any pred)) (heapL hs) := by
  refine AC.of_body M Try.func102 rfl (fun l h => by obtain ⟨p, hp, e⟩ := List.mem_map.1 (heapL_iff.1 h); rw [← e]; exact hM p hp) (fun C hC => ?_)
  simp only [startFr, Try.ntmps102, List.length_cons, List.length_nil, Nat.reduceAdd, Nat.reduceSub, List.replicate_succ, List.replicate_zero, List.cons_append, List.nil_append]
  have hca : ∀ H lent, ARs H lent id (· ∈ hs.map (·.1)) caps caps := fun H lent => ⟨rfl, fun i c c' h1 h2 => by rw [h1] at h2; cases h2; exact (hcaps c (List.mem_of_getElem? h1)).ar⟩
  have hD : ∀ l, C.D0 l → l.id < M := fun l h => by obtain ⟨p, hp, e⟩ := List.mem_map.1 (heapL_iff.1 ((hC l).1 h)); rw [← e]; exact hM p hp
  have hc := indexFuncPl_ac xs hn g caps hs hself hnd hok hcaps M hM pred hg
  repeat' (first | refine AL.nil ?_ | ((first | apply AL.st | (apply AL.on; (· rfl); (· rfl)) | (apply AD.st; (· exact nxE)) | (apply AD.on; (· rfl); (· rfl); (· exact nxE))); (· first | exact OpOk.callS hs rfl rfl hc (fun p hp => rfl) hok (.d _) (.cons (.dd _) (.cons (AR.clo' .nil (hca _ _)) .nil)) | exact Ok.pe); (· exact setE); (· first | exact updsE | exact rfl); (· exact nxE)) | ((first | apply AL.st0 | (apply AD.st0; (· exact nxE))); (· first | exact Ok.e0); (· exact rfl); (· exact nxE)) | ((first | apply AL.off | apply AD.off); (· rfl); (· rfl); (· rfl); (· exact setE); (· exact nxE)) | ((first | refine AL.gsplit rfl rfl (fun h => ?_) (fun h => ?_) | refine AD.gsplit rfl rfl (fun h => ?_) (fun h => ?_)) <;> try (exfalso; omega; done)) | (first | refine AL.gsplitB rfl rfl (fun h => ?_) (fun h => ?_) | refine AD.gsplitB rfl rfl (fun h => ?_) (fun h => ?_)) | refine AD.fin (by simp only [List.length_cons, List.length_nil, Nat.reduceAdd]; rfl) rfl (by kernel_rfl) ?_ | refine thenN ?_ | refine AW.seq ?_ | refine AW.reg ?_ | refine AW.dr mixedA (by kernel_rfl) ?_ | refine AW.block ?_ | refine AW.condT rfl ?_ | refine AW.condF rfl ?_ | (refine AW.ite rfl (fun h => ?_) (fun h => ?_) <;> try (exfalso; omega; done)) | refine AW.cond _ rfl (fun h => ?_) (fun h => ?_) | refine AW.ret ?_ | refine AW.exit ?_ | refine AW.skip ?_ | refine thenR ?_ | refine thenX ?_ | refine blockN ?_ | refine blockR ?_ | refine blockX ?_ | refine blockY (by decide) ?_)
  (refine end1p (by first | exact .inl rfl | exact .inr rfl) rfl (by first | exact rT rfl | exact rCA rfl rfl rfl rfl (by simp) | exact rCC rfl rfl rfl rfl rfl) ?_ (Le.keep hself hnd hok ?_ hM hD); (· rw [idxOf_any])) <;> (repeat' (first | exact trivial | exact ARs.nil | refine ARs.cons ?_ ?_ | exact AR.dead _ | exact AR.dd _ | exact AR.i (by (try dsimp only); omega) | exact AR.ptr _ _ _ _ (by simp [heapL, upd]) | exact AR.own _ _ _ _ (by simp [heapL, upd]) | refine AR.ownE _ _ _ ?_ (by simp [heapL, upd]) | refine ⟨⟨_, rfl, ?_⟩, ?_⟩ | exact ObA.data | refine ObA.box ?_ | refine ObA.frE ?_ | refine ObA.dataE ?_ | refine ARs.agg ?_ | refine ARs.tup ?_ | exact AR.clo' ARs.nil ARs.nil | exact AR.clo' ARs.nil (hca _ _)))
/-- The test of a place in IsEventGraph: its graph lies in the captured variable. -/
theorem isEGfn_ac (ev : Int) (xs : List Pl) (p : Pl) : AC Try.prog 197 [p.av, Bx 2 0] (heapL [(⟨0, []⟩, ⟨0, []⟩, ⟨2, [[I ev, PL xs]]⟩)]) (Bo (!plB (IntKind.i64.wrap (ev - 1)) p)) (heapL [(⟨0, []⟩, ⟨0, []⟩, ⟨2, [[I ev, PL xs]]⟩)]) := by
  refine AC.of_body 1 Try.func197 rfl (fun l h => by simp [heapL, upd] at h; simp [h]) (fun C hC => ?_)
  simp only [startFr, Try.ntmps197, List.length_cons, List.length_nil, Nat.reduceAdd, Nat.reduceSub, List.replicate_succ, List.replicate_zero, List.cons_append, List.nil_append]
  have hD : ∀ l, C.D0 l → l = ⟨0, []⟩ := fun l h => by have := (hC l).1 h; simp [heapL, upd] at this; exact this
  repeat' (first | refine AL.nil ?_ | ((first | apply AL.st | (apply AL.on; (· rfl); (· rfl)) | (apply AD.st; (· exact nxE)) | (apply AD.on; (· rfl); (· rfl); (· exact nxE))); (· first | exact OpOk.call0 [] rfl rfl (isPlace_ac _ _ ⟨_, _, _, _⟩) (.inl rfl) (fun _ => by simp [rn]) (ARs.cons (ARs.agg (ARs.cons (AR.dd _) (ARs.cons (AR.dd _) ARs.nil))) (ARs.cons (ARs.agg (ARs.cons (AR.dd _) (ARs.cons (AR.dd _) (ARs.cons (AR.dd _) (ARs.cons (AR.dd _) ARs.nil))))) ARs.nil)) | exact Ok.pe); (· exact setE); (· first | exact updsE | exact rfl); (· exact nxE)) | ((first | apply AL.st0 | (apply AD.st0; (· exact nxE))); (· first | exact Ok.e0); (· exact rfl); (· exact nxE)) | ((first | apply AL.off | apply AD.off); (· rfl); (· rfl); (· rfl); (· exact setE); (· exact nxE)) | ((first | refine AL.gsplit rfl rfl (fun h => ?_) (fun h => ?_) | refine AD.gsplit rfl rfl (fun h => ?_) (fun h => ?_)) <;> try (exfalso; omega; done)) | (first | refine AL.gsplitB rfl rfl (fun h => ?_) (fun h => ?_) | refine AD.gsplitB rfl rfl (fun h => ?_) (fun h => ?_)) | refine AD.fin (by simp only [List.length_cons, List.length_nil, Nat.reduceAdd]; rfl) rfl (by kernel_rfl) ?_ | refine thenN ?_ | refine AW.seq ?_ | refine AW.reg ?_ | refine AW.dr mixedA (by kernel_rfl) ?_ | refine AW.block ?_ | refine AW.condT rfl ?_ | refine AW.condF rfl ?_ | (refine AW.ite rfl (fun h => ?_) (fun h => ?_) <;> try (exfalso; omega; done)) | refine AW.cond _ rfl (fun h => ?_) (fun h => ?_) | refine AW.ret ?_ | refine AW.exit ?_ | refine AW.skip ?_ | refine thenR ?_ | refine thenX ?_ | refine blockN ?_ | refine blockR ?_ | refine blockX ?_ | refine blockY (by decide) ?_)
  (refine end1p (by first | exact .inl rfl | exact .inr rfl) rfl (by first | exact rT rfl | exact rCA rfl rfl rfl rfl (by simp) | exact rCC rfl rfl rfl rfl rfl) ?_ (Le.head ([(⟨0, []⟩, ⟨0, []⟩, ⟨2, [[I ev, PL xs]]⟩)]) (by first | exact fun l h => absurd h (hD l) | (intro l h; rcases hD l h with rfl; simp [tauL]) | (intro l h; rcases hD l h with rfl | rfl <;> simp [tauL]; done) | (intro l h; rcases hD l h with rfl | rfl | rfl <;> simp [tauL])) ?_ ?_ (by simp) (by simp) (by simp [AllP]) (n' := 1000)); (· rfl)) <;> (repeat' (first | exact trivial | exact ARs.nil | refine ARs.cons ?_ ?_ | exact AR.dead _ | exact AR.dd _ | exact AR.i (by (try dsimp only); omega) | exact AR.ptr _ _ _ _ (by simp [heapL, upd]) | exact AR.own _ _ _ _ (by simp [heapL, upd]) | refine AR.ownE _ _ _ ?_ (by simp [heapL, upd]) | refine ⟨⟨_, rfl, ?_⟩, ?_⟩ | exact ObA.data | refine ObA.box ?_ | refine ObA.frE ?_ | refine ObA.dataE ?_ | refine ARs.agg ?_ | refine ARs.tup ?_ | exact AR.clo' ARs.nil ARs.nil | exact AR.clo' ARs.nil (hca _ _)))
theorem isEG_any (ev : Int) (xs : List Pl) (h : wi ev 1 10 = true) (h30 : (xs.length : Int) ≤ 30) : (!xs.any fun p => !plB (IntKind.i64.wrap (ev - 1)) p) = isEG ev xs := by
  rw [← isEG_wrap, h, decide_eq_true (by omega : xs.length ≤ 30), Bool.true_and, Bool.true_and, List.all_eq_not_any_not]
theorem isEG_no (ev : Int) (xs : List Pl) (h : wi ev 1 10 = false ∨ ¬(xs.length : Int) ≤ 30) : false = isEG ev xs := by
  rw [← isEG_wrap]
  rcases h with h | h
  · rw [h]; rfl
  · rw [decide_eq_false (by omega : ¬ xs.length ≤ 30), Bool.false_and, Bool.and_false]
set_option maxHeartbeats 1000000 in
theorem iIsEventGraph_ac (ev : Int) (xs : List Pl) (hn : xs.length ≤ 100000000) : AC Try.prog 91 [grD ev xs] H0 (Bo (isEG ev xs)) H0 := by
  refine AC.of_body 0 Try.func91 rfl (fun l h => absurd rfl h) (fun C hC => ?_)
  have hD : ∀ l, ¬ C.D0 l := fun l h => (hC l).1 h rfl
  simp only [startFr, Try.ntmps91, List.length_cons, List.length_nil, Nat.reduceAdd, Nat.reduceSub, List.replicate_succ, List.replicate_zero, List.cons_append, List.nil_append]
  have hc := containsFuncPl_ac xs hn 197 [Bx 2 0] [(⟨0, []⟩, ⟨0, []⟩, ⟨2, [[I ev, PL xs]]⟩)] (by simp) (by simp) (by intro p hp r hr c hc; simp at hp; subst hp; simp at hr; subst hr; simp at hc; rcases hc with rfl | rfl <;> exact .d _)
    (by intro c hc; simp at hc; subst hc; exact .ptr _ _ _ _ (by simp)) 1 (by simp) (fun p => !plB (IntKind.i64.wrap (ev - 1)) p) (fun p _ => isEGfn_ac ev xs p)
  repeat' (first | refine AL.nil ?_ | ((first | apply AL.st | (apply AL.on; (· rfl); (· rfl)) | (apply AD.st; (· exact nxE)) | (apply AD.on; (· rfl); (· rfl); (· exact nxE))); (· first | exact OpOk.call0 [] rfl rfl (within_ac _ _ _) (.inl rfl) (fun _ => by simp [rn]) (ARs.cons (AR.dd _) (ARs.cons (AR.dd _) (ARs.cons (AR.dd _) ARs.nil))) | exact OpOk.callS _ rfl rfl hc (by simp [heapL, upd, upds, W.app]) (by intro p hp r hr c hc; simp at hp; subst hp; simp at hr; subst hr; simp at hc; rcases hc with rfl | rfl <;> exact .d _) (.d _) (.cons (.dd _) (.cons (AR.clo' .nil (.cons (AR.ptr _ _ _ _ (by simp)) .nil)) .nil)) | exact Ok.pe); (· exact setE); (· first | exact updsE | exact rfl); (· exact nxE)) | ((first | apply AL.st0 | (apply AD.st0; (· exact nxE))); (· first | exact Ok.e0); (· exact rfl); (· exact nxE)) | ((first | apply AL.off | apply AD.off); (· rfl); (· rfl); (· rfl); (· exact setE); (· exact nxE)) | ((first | refine AL.gsplit rfl rfl (fun h => ?_) (fun h => ?_) | refine AD.gsplit rfl rfl (fun h => ?_) (fun h => ?_)) <;> try (exfalso; omega; done)) | (first | refine AL.gsplitB rfl rfl (fun h => ?_) (fun h => ?_) | refine AD.gsplitB rfl rfl (fun h => ?_) (fun h => ?_)) | refine AD.fin (by simp only [List.length_cons, List.length_nil, Nat.reduceAdd]; rfl) rfl (by kernel_rfl) ?_ | refine thenN ?_ | refine AW.seq ?_ | refine AW.reg ?_ | refine AW.dr mixedA (by kernel_rfl) ?_ | refine AW.block ?_ | refine AW.condT rfl ?_ | refine AW.condF rfl ?_ | (refine AW.ite rfl (fun h => ?_) (fun h => ?_) <;> try (exfalso; omega; done)) | refine AW.cond _ rfl (fun h => ?_) (fun h => ?_) | refine AW.ret ?_ | refine AW.exit ?_ | refine AW.skip ?_ | refine thenR ?_ | refine thenX ?_ | refine blockN ?_ | refine blockR ?_ | refine blockX ?_ | refine blockY (by decide) ?_)
  all_goals
    (refine end1p (by first | exact .inl rfl | exact .inr rfl) rfl (by first | exact rT rfl | exact rCA rfl rfl rfl rfl (by simp) | exact rCC rfl rfl rfl rfl rfl) ?_ (Le.head ([]) (by first | exact fun l h => absurd h (hD l) | (intro l h; rcases hD l h with rfl; simp [tauL]) | (intro l h; rcases hD l h with rfl | rfl <;> simp [tauL]; done) | (intro l h; rcases hD l h with rfl | rfl | rfl <;> simp [tauL])) ?_ ?_ (by simp) (by simp) (by simp [AllP]) (n' := 1000)); (· first | exact congrArg Bo (isEG_any _ _ ‹_› ‹_›) | exact congrArg Bo (isEG_no _ _ (.inl ‹_›)) | exact congrArg Bo (isEG_no _ _ (.inr ‹_›)))) <;> (repeat' (first | exact trivial | exact ARs.nil | refine ARs.cons ?_ ?_ | exact AR.dead _ | exact AR.dd _ | exact AR.i (by (try dsimp only); omega) | exact AR.ptr _ _ _ _ (by simp [heapL, upd]) | exact AR.own _ _ _ _ (by simp [heapL, upd]) | refine AR.ownE _ _ _ ?_ (by simp [heapL, upd]) | refine ⟨⟨_, rfl, ?_⟩, ?_⟩ | exact ObA.data | refine ObA.box ?_ | refine ObA.frE ?_ | refine ObA.dataE ?_ | refine ARs.agg ?_ | refine ARs.tup ?_ | exact AR.clo' ARs.nil ARs.nil | exact AR.clo' ARs.nil (hca _ _)))
end Go.Proofs.Ytpgcmpbamlnkkaa
end
