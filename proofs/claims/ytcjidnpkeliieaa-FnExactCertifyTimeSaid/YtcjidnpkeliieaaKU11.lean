/-
  Walks in the abstract reading, part 11.
-/
import Derived.Test.YtcjidnpkeliieaaKU10
import Derived.Test.YtcjidnpkeliieaaKA3
section
namespace Go.Proofs.Ytcjidnpkeliieaa
set_option linter.unusedSimpArgs false
set_option linter.unusedVariables false
open Go Go.RowKit
attribute [local irreducible] AL AD AW OpOk Le AC thenQ blockQ EndQ

/-- A row of truth values. -/
def boR (n : Nat) (g : Nat → Bool) : List (List D) := (List.range n).map fun e => [D.v (.bool (g e))]
theorem boR_len {n : Nat} {g : Nat → Bool} : (boR n g).length = n := by simp [boR]
theorem boR_get {n e : Nat} {g : Nat → Bool} (h : e < n) : (boR n g)[e]? = some [D.v (.bool (g e))] := by simp [boR, h]
theorem boR_congr {n : Nat} {f g : Nat → Bool} (h : ∀ j, j < n → f j = g j) : boR n f = boR n g := List.map_congr_left fun j hj => by rw [h j (List.mem_range.1 hj)]
theorem boR_set {n j : Nat} {g : Nat → Bool} {v : Bool} : (boR n g).set j [D.v (.bool v)] = boR n (fun b => if b = j then v else g b) := by
  unfold boR
  apply List.ext_getElem?
  intro i
  rw [List.getElem?_set]
  by_cases hi : i < n
  · by_cases e : j = i
    · subst e; simp [hi]
    · simp [hi, e, Ne.symm e]
  · by_cases e : j = i
    · subst e; simp [hi]
    · simp [hi, e]
theorem boR_0 {n : Nat} : dobj 1 (List.replicate n [D.v (.bool false)]) = dobj 1 (boR n fun _ => false) := by
  unfold boR; simp [List.map_const']
theorem tryAll_no {α : Type} {F : Nat → List α} {j m : Nat} (h : j < m) (h0 : F j = []) : tryAll F (List.range' j (m - j)) = tryAll F (List.range' (j + 1) (m - (j + 1))) := by
  rw [range'_cons h, tryAll, if_neg (by rw [h0]; simp)]
theorem tryAll_yes {α : Type} {F : Nat → List α} {j m : Nat} (h : j < m) (h0 : F j ≠ []) : tryAll F (List.range' j (m - j)) = F j := by
  rw [range'_cons h, tryAll, if_pos h0]
abbrev sdD (ev : Int) (xs : List Pl) (cr : Nat → Bool) : List D := [DI ev, .sl 4 (xs.map Pl.row), .sl 1 (boR xs.length cr)]
abbrev seenV (xs : List Pl) (l : List Nat) : Nat → Bool := fun e => visB xs l (e : Int)
abbrev goH (ev : Int) (n : Nat) (xs : List Pl) (cr : Nat → Bool) (l : List Nat) : Heap :=
  upd (upd (upd H0 ⟨2, []⟩ (some (dobj 1 (boR n (seenV xs l))))) ⟨1, []⟩ (some (IO (cN l)))) ⟨0, []⟩ (some ⟨5, [(sdD ev xs cr).map .d ++ [.own 1 ⟨1, []⟩ 0 l.length, .own 1 ⟨2, []⟩ 0 n]]⟩)
abbrev goHF (ev : Int) (n : Nat) (xs : List Pl) (cr : Nat → Bool) (l : List Nat) : Heap :=
  upd (upd (upd H0 ⟨2, []⟩ (some (dobj 1 (boR n (seenV xs l))))) ⟨3, []⟩ (some (IO (cN l)))) ⟨0, []⟩ (some ⟨5, [(sdD ev xs cr).map .d ++ [.own 1 ⟨3, []⟩ 0 l.length, .own 1 ⟨2, []⟩ 0 n]]⟩)
abbrev goHT (ev : Int) (xs : List Pl) (cr : Nat → Bool) (l : List Nat) : Heap :=
  upd (upd (upd H0 ⟨2, []⟩ none) ⟨3, []⟩ (some (IO (cN l)))) ⟨0, []⟩ (some ⟨5, [(sdD ev xs cr).map .d ++ [.own 1 ⟨3, []⟩ 0 l.length, .dead]]⟩)
theorem goHT_eq {ev : Int} {xs : List Pl} {cr : Nat → Bool} {l : List Nat} : goHT ev xs cr l = heapL [(⟨0, []⟩, ⟨0, []⟩, ⟨5, [[I ev, PL xs, .d (.sl 1 (boR xs.length cr)), .own 1 ⟨3, []⟩ 0 l.length, .dead]]⟩), (⟨3, []⟩, ⟨3, []⟩, IO (cN l))] := by
  have e : upd H0 ⟨2, []⟩ none = H0 := by funext l; simp [upd]
  unfold goHT; rw [e]; rfl
theorem visB_snoc {xs : List Pl} {l : List Nat} {i : Nat} {e : Int} : visB xs (l ++ [i]) e = (visB xs l e || (decide ((plA xs i).f = e) || decide ((plA xs i).t = e))) := by
  simp [visB]
theorem visB_last {xs : List Pl} {l : List Nat} (h : l ≠ []) : visB xs l (lastT xs l) = true := by
  unfold visB
  rw [List.any_eq_true]
  refine ⟨lsN l, ?_, by simp [lastT]⟩
  unfold lsN
  rw [List.getLastD_eq_getLast?, List.getLast?_eq_some_getLast h]
  exact List.getLast_mem _
set_option maxHeartbeats 8000000 in
theorem goOn_ac (n : Nat) (xs : List Pl) (cr : Nat → Bool) (hn : n ≤ 10) (hx : xs.length ≤ 1000) (hv : ∀ p ∈ xs, okPl n p) : ∀ (k : Nat) (l : List Nat), PathC xs l → lastT xs l ≠ firstF xs l → k + l.length = n + 1 →
    AC Try.prog 151 [Bx 5 0, I (firstF xs l), I (lastT xs l)] (goH n n xs cr l) (Bo (decide (goC xs cr k l ≠ []))) (if goC xs cr k l = [] then goHF n n xs cr l else goHT n xs cr (goC xs cr k l)) := by
  intro m
  induction m with
  | zero =>
    intro l hp _ hk
    have := hp.len (n := n) hv
    omega
  | succ m ih =>
    intro l hp hne hk
    have hln := hp.len (n := n) hv
    have hvl := visB_last (xs := xs) hp.ne
    obtain ⟨G, hG⟩ : ∃ G, goC xs cr (m + 1) l = G := ⟨_, rfl⟩
    rw [hG]
    unfold goC at hG
    generalize hF : (fun i => if cr i = false ∨ skipC xs l i then [] else if (plA xs i).t = firstF xs l then l ++ [i] else goC xs cr m (l ++ [i])) = F at hG
    have hrg : List.range' 0 xs.length = List.range' 0 (xs.length - 0) := by simp
    rw [hrg] at hG
    generalize hfi : firstF xs l = fi at *
    generalize hla : lastT xs l = la at *
    refine AC.of_body 3 Try.func151 rfl (fun l h => by simp [upd] at h; (repeat' split at h) <;> simp_all) (fun C hC => ?_)
    simp only [startFr, Try.ntmps151, List.length_cons, List.length_nil, Nat.reduceAdd, Nat.reduceSub, List.replicate_succ, List.replicate_zero, List.cons_append, List.nil_append]
    have hD : ∀ l, C.D0 l → l = ⟨0, []⟩ ∨ l = ⟨1, []⟩ ∨ l = ⟨2, []⟩ := fun l h => by have := (hC l).1 h; simp [upd] at this; (repeat' split at this) <;> simp_all
    repeat' (first | refine Qa ?_ | ((first | apply Ba | (apply Bb; (· rfl); (· rfl)) | (apply Bc; (· exact nxE)) | (apply Bd; (· rfl); (· rfl); (· exact nxE))); (· first | exact OpOk.nilCheck rfl rfl | exact Ok.pe); (first | refine Na ?_ | refine Nb ?_)) | ((first | apply Ca | (apply Cb; (· exact nxE))); (· first | exact Ok.e0); (first | refine Nc ?_ | refine Nd ?_)) | refine Oa ?_ | refine Ob ?_ | ((first | refine Ga (fun h => ?_) (fun h => ?_) | refine AD.gsplit rfl rfl (fun h => ?_) (fun h => ?_)) <;> try (exfalso; omega; done)) | (first | refine AL.gsplitB rfl rfl (fun h => ?_) (fun h => ?_) | refine AD.gsplitB rfl rfl (fun h => ?_) (fun h => ?_)) | refine Fa ?_ | refine Qb ?_ | refine Qc ?_ | refine Qd ?_ | refine Fb ?_ | refine Qe ?_ | refine Wa ?_ | refine Wb ?_ | (refine AW.ite rfl (fun h => ?_) (fun h => ?_) <;> try (exfalso; omega; done)) | refine AW.cond _ rfl (fun h => ?_) (fun h => ?_) | refine Qf ?_ | refine Qg ?_ | refine Qh ?_ | refine Qi ?_ | refine Xa ?_ | refine Xb ?_ | refine Xc ?_ | refine Xd ?_ | refine Fc ?_)
    refine AW.loop (X := {k : Nat // k ≤ xs.length ∧ G = tryAll F (List.range' k (xs.length - k))}) (fun k => ⟨[Bx 5 0, I fi, I la, Oo, Oo, Oo, Oo, Oo, Oo, Oo, Oo, Oo, Oo, PL xs, I xs.length, I (k.1 : Nat), Oo, Oo, Oo, Oo, Oo, Oo, Oo, Oo, Oo, Oo, Oo, Oo, Oo, Oo, Oo, Oo, Oo, Oo, Oo, Oo, Oo, Oo, Oo, Oo, Oo, Oo, Oo, Oo, Oo, Oo, Oo, Oo, Oo, Oo, Oo, Oo, Oo, Oo, Oo, Oo, Oo, Oo, Oo, Oo, Oo, Oo, Oo, Oo, Oo, Oo, Oo, Oo, Oo, Oo, Oo, Oo, Oo, Oo, Oo, Oo, Oo, Oo, Oo, Oo, Oo, Oo, Oo, Oo, Oo, Oo, Oo, Oo, Oo, Oo, Oo, Oo, Oo, Oo, Oo, Oo, Oo, Oo, Oo, Oo, Oo, Oo, Oo, Oo], heapL [(⟨0, []⟩, ⟨0, []⟩, ⟨5, [[I n, PL xs, .d (.sl 1 (boR xs.length cr)), .own 1 ⟨3, []⟩ 0 l.length, .own 1 ⟨2, []⟩ 0 n]]⟩), (⟨3, []⟩, ⟨3, []⟩, IO (cN l)), (⟨2, []⟩, ⟨2, []⟩, dobj 1 (boR n (seenV xs l)))], 900⟩) (fun k => xs.length - k.1) ⟨0, Nat.zero_le _, hG.symm⟩ ?_ (fun k => ?_)
    ·
      (apply Le.headZ [_, _, _] rfl)
      all_goals (try dsimp only [srcs])
      (case' hfr | hob => (repeat' (first | refine La ?_ ?_ | exact Lc | refine Lo ?_ | refine ⟨⟨_, rfl, ?_⟩, ?_⟩ | refine ObA.box ?_ | refine ObA.frE ?_ | refine ObA.dataE ?_ | refine ARs.agg ?_ | refine ARs.tup ?_ | refine AR.b ?_ | refine AR.iE ?_ | refine AR.e ?_ | refine AR.clo' ARs.nil ?_)))
      all_goals (first | (rfl) | exact Ld)
    obtain ⟨j, hj, hinv⟩ := k
    simp only
    have hpl : (dobj 1 (IR (cN l))).rows.length = l.length := by simp [dobj]
    by_cases hlt : j < xs.length
    case neg =>
      obtain rfl : j = xs.length := by omega
      rw [Nat.sub_self] at hinv
      have hG0 : G = [] := by rw [hinv]; rfl
      rw [hG0]
      rw [if_pos rfl, decide_eq_false (by simp)]
      repeat' (first | refine Qa ?_ | ((first | apply Ba | (apply Bb; (· rfl); (· rfl)) | (apply Bc; (· exact nxE)) | (apply Bd; (· rfl); (· rfl); (· exact nxE))); (· first | exact OpOk.nilCheck rfl rfl | exact Ok.pe); (first | refine Na ?_ | refine Nb ?_)) | ((first | apply Ca | (apply Cb; (· exact nxE))); (· first | exact Ok.e0); (first | refine Nc ?_ | refine Nd ?_)) | refine Oa ?_ | refine Ob ?_ | ((first | refine Ga (fun h => ?_) (fun h => ?_) | refine AD.gsplit rfl rfl (fun h => ?_) (fun h => ?_)) <;> try (exfalso; omega; done)) | (first | refine AL.gsplitB rfl rfl (fun h => ?_) (fun h => ?_) | refine AD.gsplitB rfl rfl (fun h => ?_) (fun h => ?_)) | refine Fa ?_ | refine Qb ?_ | refine Qc ?_ | refine Qd ?_ | refine Fb ?_ | refine Qe ?_ | refine Wa ?_ | refine Wb ?_ | (refine AW.ite rfl (fun h => ?_) (fun h => ?_) <;> try (exfalso; omega; done)) | refine AW.cond _ rfl (fun h => ?_) (fun h => ?_) | refine Qf ?_ | refine Qg ?_ | refine Qh ?_ | refine Qi ?_ | refine Xa ?_ | refine Xb ?_ | refine Xc ?_ | refine Xd ?_ | refine Fc ?_)
      (refine end1p (by first | exact .inl rfl | exact .inr rfl) rfl (by first | exact rT rfl | exact rCA rfl rfl rfl rfl (by simp) | exact rCC rfl rfl rfl rfl rfl) ?_ (Le.head ([(⟨0, []⟩, ⟨0, []⟩, ⟨5, [[I n, PL xs, .d (.sl 1 (boR xs.length cr)), .own 1 ⟨3, []⟩ 0 l.length, .own 1 ⟨2, []⟩ 0 n]]⟩), (⟨3, []⟩, ⟨3, []⟩, IO (cN l)), (⟨2, []⟩, ⟨2, []⟩, dobj 1 (boR n (seenV xs l)))]) (by first | exact fun l h => absurd h (hD l) | (intro l h; rcases hD l h with rfl; simp [tauL]) | (intro l h; rcases hD l h with rfl | rfl <;> simp [tauL]; done) | (intro l h; rcases hD l h with rfl | rfl | rfl <;> simp [tauL])) ?_ ?_ (by simp) (by simp) (by simp [AllP]) (n' := 1000)); (· rfl)) <;> (repeat' (first | exact trivial | exact ARs.nil | refine ARs.cons ?_ ?_ | exact AR.dead _ | exact AR.dd _ | exact AR.i (by (try dsimp only); omega) | exact AR.ptr _ _ _ _ (by simp [heapL, upd]) | exact AR.own _ _ _ _ (by simp [heapL, upd]) | refine AR.ownE _ _ _ ?_ (by simp [heapL, upd]) | refine ⟨⟨_, rfl, ?_⟩, ?_⟩ | exact ObA.data | refine ObA.box ?_ | refine ObA.frE ?_ | refine ObA.dataE ?_ | refine ARs.agg ?_ | refine ARs.tup ?_ | exact AR.clo' ARs.nil ARs.nil | exact AR.clo' ARs.nil (hca _ _)))
    have hrow := pl_row (n := 0) hlt
    have hcr := boR_get (g := cr) hlt
    obtain ⟨⟨g1, g2⟩, ⟨g3, g4⟩, _⟩ := okPl_at hv j hlt
    have hFj : F j = if cr j = false ∨ skipC xs l j then [] else if (plA xs j).t = fi then l ++ [j] else goC xs cr m (l ++ [j]) := by rw [← hF]
    have hsk : skipC xs l j ↔ ((plA xs j).f ≠ la ∨ (plA xs j).t < fi ∨ ((plA xs j).t ≠ fi ∧ visB xs l (plA xs j).t = true)) := by unfold skipC; rw [hfi, hla]
    have hsn : PathC xs (l ++ [j]) ∨ skipC xs l j := by
      by_cases h : skipC xs l j
      · exact .inr h
      · exact .inl (hp.snoc hlt (by rw [hla, hfi]; exact hne) h)
    have hvs : ∀ e, visB xs (l ++ [j]) e = (visB xs l e || (decide ((plA xs j).f = e) || decide ((plA xs j).t = e))) := fun e => visB_snoc
    have hih := fun h1 h2 h3 => ih (l ++ [j]) h1 h2 h3
    rw [firstF_snoc hp.ne, lastT_snoc, hfi] at hih
    generalize plA xs j = p at *
    obtain ⟨pf, pt, pd, pk⟩ := p
    obtain ⟨a, rfl⟩ : ∃ f : Nat, pf = f := ⟨pf.toNat, by simp at g1; omega⟩
    obtain ⟨t, rfl⟩ : ∃ t : Nat, pt = t := ⟨pt.toNat, by simp at g3; omega⟩
    simp only at hrow g2 g4 hFj hsk hvs hih
    have hseen := boR_get (g := seenV xs l) (show t < n by omega)
    have hskipEnd : F j = [] → G = tryAll F (List.range' (j + 1) (xs.length - (j + 1))) := fun h => by rw [hinv, tryAll_no hlt h]
    by_cases hskip : cr j = false ∨ skipC xs l j
    · have hnx := hskipEnd (by rw [hFj, if_pos hskip])
      rcases Bool.eq_false_or_eq_true (cr j) with hc1 | hc1
      · have h2 := hsk.1 (hskip.resolve_left (by rw [hc1]; decide))
        rw [hc1] at hcr
        rcases Bool.eq_false_or_eq_true (visB xs l (t : Int)) with hv1 | hv1
        · rw [show seenV xs l t = true from hv1] at hseen
          have h3 : (a : Int) ≠ la ∨ (t : Int) < fi ∨ (t : Int) ≠ fi := by rcases h2 with h | h | h; exact .inl h; exact .inr (.inl h); exact .inr (.inr h.1)
          clear h2
          repeat' (first | refine Qa ?_ | ((first | apply Ba | (apply Bb; (· rfl); (· rfl)) | (apply Bc; (· exact nxE)) | (apply Bd; (· rfl); (· rfl); (· exact nxE))); (· first | exact Ok.ld1 rfl rfl rfl hseen | exact OpOk.nilCheck rfl rfl | exact Ok.pe); (first | refine Na ?_ | refine Nb ?_)) | ((first | apply Ca | (apply Cb; (· exact nxE))); (· first | exact Ok.e0); (first | refine Nc ?_ | refine Nd ?_)) | refine Oa ?_ | refine Ob ?_ | ((first | refine Ga (fun h => ?_) (fun h => ?_) | refine AD.gsplit rfl rfl (fun h => ?_) (fun h => ?_)) <;> try (exfalso; omega; done)) | (first | refine AL.gsplitB rfl rfl (fun h => ?_) (fun h => ?_) | refine AD.gsplitB rfl rfl (fun h => ?_) (fun h => ?_)) | refine Fa ?_ | refine Qb ?_ | refine Qc ?_ | refine Qd ?_ | refine Fb ?_ | refine Qe ?_ | refine Wa ?_ | refine Wb ?_ | (refine AW.ite rfl (fun h => ?_) (fun h => ?_) <;> try (exfalso; omega; done)) | refine AW.cond _ rfl (fun h => ?_) (fun h => ?_) | refine Qf ?_ | refine Qg ?_ | refine Qh ?_ | refine Qi ?_ | refine Xa ?_ | refine Xb ?_ | refine Xc ?_ | refine Xd ?_ | refine Fc ?_)
          all_goals
            refine ⟨⟨j + 1, by omega, hnx⟩, ?_, by simp only; omega⟩
            (apply Le.headZ [_, _, _] rfl)
            all_goals (try dsimp only [srcs])
            (case' hfr | hob => (repeat' (first | refine La ?_ ?_ | exact Lc | refine Lo ?_ | refine ⟨⟨_, rfl, ?_⟩, ?_⟩ | refine ObA.box ?_ | refine ObA.frE ?_ | refine ObA.dataE ?_ | refine ARs.agg ?_ | refine ARs.tup ?_ | refine AR.b ?_ | refine AR.iE ?_ | refine AR.e ?_ | refine AR.clo' ARs.nil ?_)))
            all_goals (first | (rfl) | exact Ld)
        · rw [show seenV xs l t = false from hv1] at hseen
          have h3 : (a : Int) ≠ la ∨ (t : Int) < fi := by rcases h2 with h | h | h; exact .inl h; exact .inr h; rw [hv1] at h; cases h.2
          clear h2
          repeat' (first | refine Qa ?_ | ((first | apply Ba | (apply Bb; (· rfl); (· rfl)) | (apply Bc; (· exact nxE)) | (apply Bd; (· rfl); (· rfl); (· exact nxE))); (· first | exact Ok.ld1 rfl rfl rfl hseen | exact OpOk.nilCheck rfl rfl | exact Ok.pe); (first | refine Na ?_ | refine Nb ?_)) | ((first | apply Ca | (apply Cb; (· exact nxE))); (· first | exact Ok.e0); (first | refine Nc ?_ | refine Nd ?_)) | refine Oa ?_ | refine Ob ?_ | ((first | refine Ga (fun h => ?_) (fun h => ?_) | refine AD.gsplit rfl rfl (fun h => ?_) (fun h => ?_)) <;> try (exfalso; omega; done)) | (first | refine AL.gsplitB rfl rfl (fun h => ?_) (fun h => ?_) | refine AD.gsplitB rfl rfl (fun h => ?_) (fun h => ?_)) | refine Fa ?_ | refine Qb ?_ | refine Qc ?_ | refine Qd ?_ | refine Fb ?_ | refine Qe ?_ | refine Wa ?_ | refine Wb ?_ | (refine AW.ite rfl (fun h => ?_) (fun h => ?_) <;> try (exfalso; omega; done)) | refine AW.cond _ rfl (fun h => ?_) (fun h => ?_) | refine Qf ?_ | refine Qg ?_ | refine Qh ?_ | refine Qi ?_ | refine Xa ?_ | refine Xb ?_ | refine Xc ?_ | refine Xd ?_ | refine Fc ?_)
          all_goals
            refine ⟨⟨j + 1, by omega, hnx⟩, ?_, by simp only; omega⟩
            (apply Le.headZ [_, _, _] rfl)
            all_goals (try dsimp only [srcs])
            (case' hfr | hob => (repeat' (first | refine La ?_ ?_ | exact Lc | refine Lo ?_ | refine ⟨⟨_, rfl, ?_⟩, ?_⟩ | refine ObA.box ?_ | refine ObA.frE ?_ | refine ObA.dataE ?_ | refine ARs.agg ?_ | refine ARs.tup ?_ | refine AR.b ?_ | refine AR.iE ?_ | refine AR.e ?_ | refine AR.clo' ARs.nil ?_)))
            all_goals (first | (rfl) | exact Ld)
      · rw [hc1] at hcr
        repeat' (first | refine Qa ?_ | ((first | apply Ba | (apply Bb; (· rfl); (· rfl)) | (apply Bc; (· exact nxE)) | (apply Bd; (· rfl); (· rfl); (· exact nxE))); (· first | exact OpOk.nilCheck rfl rfl | exact Ok.pe); (first | refine Na ?_ | refine Nb ?_)) | ((first | apply Ca | (apply Cb; (· exact nxE))); (· first | exact Ok.e0); (first | refine Nc ?_ | refine Nd ?_)) | refine Oa ?_ | refine Ob ?_ | ((first | refine Ga (fun h => ?_) (fun h => ?_) | refine AD.gsplit rfl rfl (fun h => ?_) (fun h => ?_)) <;> try (exfalso; omega; done)) | (first | refine AL.gsplitB rfl rfl (fun h => ?_) (fun h => ?_) | refine AD.gsplitB rfl rfl (fun h => ?_) (fun h => ?_)) | refine Fa ?_ | refine Qb ?_ | refine Qc ?_ | refine Qd ?_ | refine Fb ?_ | refine Qe ?_ | refine Wa ?_ | refine Wb ?_ | (refine AW.ite rfl (fun h => ?_) (fun h => ?_) <;> try (exfalso; omega; done)) | refine AW.cond _ rfl (fun h => ?_) (fun h => ?_) | refine Qf ?_ | refine Qg ?_ | refine Qh ?_ | refine Qi ?_ | refine Xa ?_ | refine Xb ?_ | refine Xc ?_ | refine Xd ?_ | refine Fc ?_)
        refine ⟨⟨j + 1, by omega, hnx⟩, ?_, by simp only; omega⟩
        (apply Le.headZ [_, _, _] rfl)
        all_goals (try dsimp only [srcs])
        (case' hfr | hob => (repeat' (first | refine La ?_ ?_ | exact Lc | refine Lo ?_ | refine ⟨⟨_, rfl, ?_⟩, ?_⟩ | refine ObA.box ?_ | refine ObA.frE ?_ | refine ObA.dataE ?_ | refine ARs.agg ?_ | refine ARs.tup ?_ | refine AR.b ?_ | refine AR.iE ?_ | refine AR.e ?_ | refine AR.clo' ARs.nil ?_)))
        all_goals (first | (rfl) | exact Ld)
    · have hc1 : cr j = true := by
        rcases Bool.eq_false_or_eq_true (cr j) with h | h
        · exact h
        · exact absurd (.inl h) hskip
      have hns : ¬ skipC xs l j := fun h => hskip (.inr h)
      rw [hc1] at hcr
      rw [if_neg hskip] at hFj
      have hp2 := hsn.resolve_right hns
      have hal : (a : Int) = la := Classical.byContradiction fun h => hns (hsk.2 (.inl h))
      have htf : ¬ (t : Int) < fi := fun h => hns (hsk.2 (.inr (.inl h)))
      have hapl : (IR (cN l)).length = l.length := by simp
      by_cases hcl : (t : Int) = fi
      · rw [if_pos hcl] at hFj
        have hG1 : G = l ++ [j] := by rw [hinv, tryAll_yes hlt (by rw [hFj]; simp), hFj]
        rw [hG1, if_neg (by simp), decide_eq_true (by simp), goHT_eq, show (l ++ [j]).length = l.length + 1 by simp, show IO (cN (l ++ [j])) = dobj 1 (IR (cN l) ++ [[DI (j : Nat)]]) by rw [← cN_snoc]]
        repeat' (first | refine Qa ?_ | ((first | apply Ba | (apply Bb; (· rfl); (· rfl)) | (apply Bc; (· exact nxE)) | (apply Bd; (· rfl); (· rfl); (· exact nxE))); (· first | exact OpOk.nilCheck rfl rfl | exact Ok.append1 (row := [DI (j : Nat)]) rfl rfl (by decide) rfl rfl hapl rfl rfl rfl (by rfl) (by omega) (by omega) | exact Ok.pe); (first | refine Na ?_ | refine Nb ?_)) | ((first | apply Ca | (apply Cb; (· exact nxE))); (· first | exact Ok.append1 (row := [DI (j : Nat)]) rfl rfl (by decide) rfl rfl hapl rfl rfl rfl (by rfl) (by omega) (by omega) | exact Ok.e0); (first | refine Nc ?_ | refine Nd ?_)) | refine Oa ?_ | refine Ob ?_ | ((first | refine Ga (fun h => ?_) (fun h => ?_) | refine AD.gsplit rfl rfl (fun h => ?_) (fun h => ?_)) <;> try (exfalso; omega; done)) | (first | refine AL.gsplitB rfl rfl (fun h => ?_) (fun h => ?_) | refine AD.gsplitB rfl rfl (fun h => ?_) (fun h => ?_)) | refine Fa ?_ | refine Qb ?_ | refine Qc ?_ | refine Qd ?_ | refine Fb ?_ | refine Qe ?_ | refine Wa ?_ | refine Wb ?_ | (refine AW.ite rfl (fun h => ?_) (fun h => ?_) <;> try (exfalso; omega; done)) | refine AW.cond _ rfl (fun h => ?_) (fun h => ?_) | refine Qf ?_ | refine Qg ?_ | refine Qh ?_ | refine Qi ?_ | refine Xa ?_ | refine Xb ?_ | refine Xc ?_ | refine Xd ?_ | refine Fc ?_)
        (refine end1p (by first | exact .inl rfl | exact .inr rfl) rfl (by first | exact rT rfl | exact rCA rfl rfl rfl rfl (by simp) | exact rCC rfl rfl rfl rfl rfl) ?_ (Le.head ([(⟨0, []⟩, ⟨0, []⟩, ⟨5, [[I n, PL xs, .d (.sl 1 (boR xs.length cr)), .own 1 ⟨3, []⟩ 0 (l.length + 1), .dead]]⟩), (⟨3, []⟩, ⟨950, []⟩, dobj 1 (IR (cN l) ++ [[DI (j : Nat)]]))]) (by first | exact fun l h => absurd h (hD l) | (intro l h; rcases hD l h with rfl; simp [tauL]) | (intro l h; rcases hD l h with rfl | rfl <;> simp [tauL]; done) | (intro l h; rcases hD l h with rfl | rfl | rfl <;> simp [tauL])) ?_ ?_ (by simp) (by simp) (by simp [AllP]) (n' := 1000)); (· rfl)) <;> (repeat' (first | exact trivial | exact ARs.nil | refine ARs.cons ?_ ?_ | exact AR.dead _ | exact AR.dd _ | exact AR.i (by (try dsimp only); omega) | exact AR.ptr _ _ _ _ (by simp [heapL, upd]) | exact AR.own _ _ _ _ (by simp [heapL, upd]) | refine AR.ownE _ _ _ ?_ (by simp [heapL, upd]) | refine ⟨⟨_, rfl, ?_⟩, ?_⟩ | exact ObA.data | refine ObA.box ?_ | refine ObA.frE ?_ | refine ObA.dataE ?_ | refine ARs.agg ?_ | refine ARs.tup ?_ | exact AR.clo' ARs.nil ARs.nil | exact AR.clo' ARs.nil (hca _ _)))
      · rw [if_neg hcl] at hFj
        have hvis : visB xs l (t : Int) = false := by
          rcases Bool.eq_false_or_eq_true (visB xs l (t : Int)) with h | h
          · exact absurd (hsk.2 (.inr (.inr ⟨hcl, h⟩))) hns
          · exact h
        rw [show seenV xs l t = false from hvis] at hseen
        have hIH := hih hp2 hcl (by simp; omega)
        have hva : visB xs l (a : Int) = true := by rw [hal]; exact hvl
        have hset1 : (boR n (seenV xs l)).set t [D.v (.bool true)] = boR n (seenV xs (l ++ [j])) := by
          rw [boR_set]
          refine boR_congr fun e _ => ?_
          simp only [seenV, hvs]
          by_cases e1 : e = t
          · subst e1; simp
          · rw [if_neg e1]
            by_cases e2 : a = e
            · subst e2; rw [hva]; rfl
            · rw [decide_eq_false (by omega), decide_eq_false (by omega)]; simp
        have hget2 := boR_get (g := seenV xs (l ++ [j])) (show t < n by omega)
        have hset2 : (boR n (seenV xs (l ++ [j]))).set t [D.v (.bool false)] = boR n (seenV xs l) := by
          rw [boR_set]
          refine boR_congr fun e _ => ?_
          simp only [seenV, hvs]
          by_cases e1 : e = t
          · subst e1; rw [if_pos rfl, hvis]
          · rw [if_neg e1]
            by_cases e2 : a = e
            · subst e2; rw [hva]; rfl
            · rw [decide_eq_false (by omega), decide_eq_false (by omega)]; simp
        have hll : (l ++ [j]).length = l.length + 1 := by simp
        by_cases hg : goC xs cr m (l ++ [j]) = []
        · have hnx := hskipEnd (by rw [hFj, hg])
          rw [if_pos hg, hg, decide_eq_false (by simp)] at hIH
          unfold goH goHF IO at hIH
          rw [cN_snoc, hll] at hIH
          generalize seenV xs (l ++ [j]) = sv at *
          repeat' (first | refine Qa ?_ | ((first | apply Ba | (apply Bb; (· rfl); (· rfl)) | (apply Bc; (· exact nxE)) | (apply Bd; (· rfl); (· rfl); (· exact nxE))); (· first | exact Ok.ld1 rfl rfl rfl hseen | exact Ok.sliceToO rfl rfl rfl (by omega) rfl (by omega) | exact OpOk.nilCheck rfl rfl | exact Ok.append1 (row := [DI (j : Nat)]) rfl rfl (by decide) rfl rfl hapl rfl rfl rfl (by rfl) (by omega) (by omega) | exact Ok.st1 rfl rfl rfl (by rw [boR_len]; omega) (by rw [hseen]; rfl) rfl rfl hset1 | exact Ok.st1 rfl rfl rfl (by rw [boR_len]; omega) (by rw [hget2]; rfl) rfl rfl hset2 | exact OpOk.callB3 (b := ⟨0, []⟩) (p := ⟨950, []⟩) (q := ⟨2, []⟩) (x' := .own 1 ⟨2, []⟩ 0 n) rfl rfl hIH rfl rfl rfl (by decide) (by decide) (by decide) rfl (fun g => congrArg some (rnO_dobj _ _ _)) (by simp [Go.Proofs.Ytcjidnpkeliieaa.rn, emb, thr]) (.cons (AR.ptr _ _ _ _ (by simp)) (.cons (.dd _) (.cons (.dd _) .nil))) | exact Ok.storeC rfl rfl rfl rfl rfl (by simp; done) (by conv => lhs; whnf) (by rfl) (by rfl) rfl | exact Ok.pe); (first | refine Na ?_ | refine Nb ?_)) | ((first | apply Ca | (apply Cb; (· exact nxE))); (· first | exact Ok.append1 (row := [DI (j : Nat)]) rfl rfl (by decide) rfl rfl hapl rfl rfl rfl (by rfl) (by omega) (by omega) | exact Ok.st1 rfl rfl rfl (by rw [boR_len]; omega) (by rw [hseen]; rfl) rfl rfl hset1 | exact Ok.st1 rfl rfl rfl (by rw [boR_len]; omega) (by rw [hget2]; rfl) rfl rfl hset2 | exact OpOk.callB3 (b := ⟨0, []⟩) (p := ⟨950, []⟩) (q := ⟨2, []⟩) (x' := .own 1 ⟨2, []⟩ 0 n) rfl rfl hIH rfl rfl rfl (by decide) (by decide) (by decide) rfl (fun g => congrArg some (rnO_dobj _ _ _)) (by simp [Go.Proofs.Ytcjidnpkeliieaa.rn, emb, thr]) (.cons (AR.ptr _ _ _ _ (by simp)) (.cons (.dd _) (.cons (.dd _) .nil))) | exact Ok.storeC rfl rfl rfl rfl rfl (by simp; done) (by conv => lhs; whnf) (by rfl) (by rfl) rfl | exact Ok.e0); (first | refine Nc ?_ | refine Nd ?_)) | refine Oa ?_ | refine Ob ?_ | ((first | refine Ga (fun h => ?_) (fun h => ?_) | refine AD.gsplit rfl rfl (fun h => ?_) (fun h => ?_)) <;> try (exfalso; omega; done)) | (first | refine AL.gsplitB rfl rfl (fun h => ?_) (fun h => ?_) | refine AD.gsplitB rfl rfl (fun h => ?_) (fun h => ?_)) | refine Fa ?_ | refine Qb ?_ | refine Qc ?_ | refine Qd ?_ | refine Fb ?_ | refine Qe ?_ | refine Wa ?_ | refine Wb ?_ | (refine AW.ite rfl (fun h => ?_) (fun h => ?_) <;> try (exfalso; omega; done)) | refine AW.cond _ rfl (fun h => ?_) (fun h => ?_) | refine Qf ?_ | refine Qg ?_ | refine Qh ?_ | refine Qi ?_ | refine Xa ?_ | refine Xb ?_ | refine Xc ?_ | refine Xd ?_ | refine Fc ?_)
          refine ⟨⟨j + 1, by omega, hnx⟩, ?_, by simp only; omega⟩
          refine (Le.takeL ⟨970, [3]⟩ l.length rfl).trans ?_
          (apply Le.headZ [_, _, _] rfl)
          all_goals (try dsimp only [srcs])
          (case' hfr | hob => (repeat' (first | refine La ?_ ?_ | exact Lc | refine Lo ?_ | refine ⟨⟨_, rfl, ?_⟩, ?_⟩ | refine ObA.box ?_ | refine ObA.frE ?_ | refine ObA.dataE ?_ | refine ARs.agg ?_ | refine ARs.tup ?_ | refine AR.b ?_ | refine AR.iE ?_ | refine AR.e ?_ | refine AR.clo' ARs.nil ?_)))
          all_goals (first | ((first | rfl | (simp [dobj]; done))) | exact Ld)
        · have hG1 : G = goC xs cr m (l ++ [j]) := by rw [hinv, tryAll_yes hlt (by rw [hFj]; exact hg), hFj]
          rw [if_neg hg, decide_eq_true hg] at hIH
          rw [hG1, if_neg hg, decide_eq_true hg, goHT_eq]
          generalize goC xs cr m (l ++ [j]) = c at *
          unfold goH goHT IO at hIH
          rw [cN_snoc, hll] at hIH
          generalize seenV xs (l ++ [j]) = sv at *
          repeat' (first | refine Qa ?_ | ((first | apply Ba | (apply Bb; (· rfl); (· rfl)) | (apply Bc; (· exact nxE)) | (apply Bd; (· rfl); (· rfl); (· exact nxE))); (· first | exact Ok.ld1 rfl rfl rfl hseen | exact OpOk.nilCheck rfl rfl | exact Ok.append1 (row := [DI (j : Nat)]) rfl rfl (by decide) rfl rfl hapl rfl rfl rfl (by rfl) (by omega) (by omega) | exact Ok.st1 rfl rfl rfl (by rw [boR_len]; omega) (by rw [hseen]; rfl) rfl rfl hset1 | exact OpOk.callB3 (b := ⟨0, []⟩) (p := ⟨950, []⟩) (q := ⟨2, []⟩) (x' := .dead) rfl rfl hIH rfl rfl rfl (by decide) (by decide) (by decide) rfl (fun _ => rfl) (by simp [Go.Proofs.Ytcjidnpkeliieaa.rn]) (.cons (AR.ptr _ _ _ _ (by simp)) (.cons (.dd _) (.cons (.dd _) .nil))) | exact Ok.pe); (first | refine Na ?_ | refine Nb ?_)) | ((first | apply Ca | (apply Cb; (· exact nxE))); (· first | exact Ok.append1 (row := [DI (j : Nat)]) rfl rfl (by decide) rfl rfl hapl rfl rfl rfl (by rfl) (by omega) (by omega) | exact Ok.st1 rfl rfl rfl (by rw [boR_len]; omega) (by rw [hseen]; rfl) rfl rfl hset1 | exact OpOk.callB3 (b := ⟨0, []⟩) (p := ⟨950, []⟩) (q := ⟨2, []⟩) (x' := .dead) rfl rfl hIH rfl rfl rfl (by decide) (by decide) (by decide) rfl (fun _ => rfl) (by simp [Go.Proofs.Ytcjidnpkeliieaa.rn]) (.cons (AR.ptr _ _ _ _ (by simp)) (.cons (.dd _) (.cons (.dd _) .nil))) | exact Ok.e0); (first | refine Nc ?_ | refine Nd ?_)) | refine Oa ?_ | refine Ob ?_ | ((first | refine Ga (fun h => ?_) (fun h => ?_) | refine AD.gsplit rfl rfl (fun h => ?_) (fun h => ?_)) <;> try (exfalso; omega; done)) | (first | refine AL.gsplitB rfl rfl (fun h => ?_) (fun h => ?_) | refine AD.gsplitB rfl rfl (fun h => ?_) (fun h => ?_)) | refine Fa ?_ | refine Qb ?_ | refine Qc ?_ | refine Qd ?_ | refine Fb ?_ | refine Qe ?_ | refine Wa ?_ | refine Wb ?_ | (refine AW.ite rfl (fun h => ?_) (fun h => ?_) <;> try (exfalso; omega; done)) | refine AW.cond _ rfl (fun h => ?_) (fun h => ?_) | refine Qf ?_ | refine Qg ?_ | refine Qh ?_ | refine Qi ?_ | refine Xa ?_ | refine Xb ?_ | refine Xc ?_ | refine Xd ?_ | refine Fc ?_)
          (refine end1p (by first | exact .inl rfl | exact .inr rfl) rfl (by first | exact rT rfl | exact rCA rfl rfl rfl rfl (by simp) | exact rCC rfl rfl rfl rfl rfl) ?_ (Le.head ([(⟨0, []⟩, ⟨0, []⟩, ⟨5, [[I n, PL xs, .d (.sl 1 (boR xs.length cr)), .own 1 ⟨3, []⟩ 0 c.length, .dead]]⟩), (⟨3, []⟩, ⟨970, [3]⟩, IO (cN c))]) (by first | exact fun l h => absurd h (hD l) | (intro l h; rcases hD l h with rfl; simp [tauL]) | (intro l h; rcases hD l h with rfl | rfl <;> simp [tauL]; done) | (intro l h; rcases hD l h with rfl | rfl | rfl <;> simp [tauL])) ?_ ?_ (by simp) (by simp) (by simp [AllP]) (n' := 1000)); (· rfl)) <;> (repeat' (first | exact trivial | exact ARs.nil | refine ARs.cons ?_ ?_ | exact AR.dead _ | exact AR.dd _ | exact AR.i (by (try dsimp only); omega) | exact AR.ptr _ _ _ _ (by simp [heapL, upd]) | exact AR.own _ _ _ _ (by simp [heapL, upd]) | refine AR.ownE _ _ _ ?_ (by simp [heapL, upd]) | refine ⟨⟨_, rfl, ?_⟩, ?_⟩ | exact ObA.data | refine ObA.box ?_ | refine ObA.frE ?_ | refine ObA.dataE ?_ | refine ARs.agg ?_ | refine ARs.tup ?_ | exact AR.clo' ARs.nil ARs.nil | exact AR.clo' ARs.nil (hca _ _)))
end Go.Proofs.Ytcjidnpkeliieaa
end

section
namespace Go.Proofs.Ytcjidnpkeliieaa
set_option linter.unusedSimpArgs false
set_option linter.unusedVariables false
open Go Go.RowKit
attribute [local irreducible] AL AD AW OpOk Le AC thenQ blockQ EndQ

abbrev mixB (g : Nat → Bool) (K : Nat) : Nat → Bool := fun b => if b < K then g b else false
theorem mixB_0 {g : Nat → Bool} {n : Nat} : dobj 1 (List.replicate n [D.v (.bool false)]) = dobj 1 (boR n (mixB g 0)) := by
  rw [boR_0]; congr 1
theorem mixB_set {g : Nat → Bool} {n K : Nat} {v : Bool} (h : g K = v) : (boR n (mixB g K)).set K [D.v (.bool v)] = boR n (mixB g (K + 1)) := by
  rw [boR_set]
  refine boR_congr fun b _ => ?_
  by_cases e : b = K
  · subst e; simp [h]
  · simp only [if_neg e, mixB]
    by_cases e2 : b < K
    · rw [if_pos e2, if_pos (by omega)]
    · rw [if_neg e2, if_neg (by omega)]
theorem mixB_all {g : Nat → Bool} {n : Nat} : boR n (mixB g n) = boR n g := boR_congr fun b hb => by simp [hb]
set_option maxHeartbeats 8000000 in
theorem bestCircuit_ac (n : Nat) (xs : List Pl) (u1 u2 : Int) (h0 : 0 < n) (hn : n ≤ 10) (hx : xs.length ≤ 30) (hv : ∀ p ∈ xs, okPl n p) (h1 : 0 ≤ u1 ∧ u1 ≤ 100000) (h2 : 0 < u2 ∧ u2 ≤ 50) (hst : StarM (wmT n xs (u1, u2)) n) (cr : Nat → Bool) (hcr : cr = crB xs (u1, u2) (starF (entN (wmT n xs (u1, u2))) n)) (hB : bestC xs cr n ≠ []) :
    AC Try.prog 80 [grD n xs, .agg [I u1, I u2]] H0 (own1 1 (bestC xs cr n).length) (hp1 (IO (cN (bestC xs cr n)))) := by
  have hW := (weightMatrix_ac n xs u1 u2 (by omega) (by omega) hv h1 ⟨by omega, h2.2⟩).frzT (by rw [TR_len]; exact hst.rc.l)
  have hS := (starOf_ac (wmT n xs (u1, u2)) n hst).frzT2 (by rw [TR_len, tabF_len])
  have hsb := fun {i j} => hst.starB (i := i) (j := j)
  have hpw := plW_le hv h1 (show 0 ≤ u2 ∧ u2 ≤ 50 by omega)
  have hgo := fun l h1 h2 h3 => goOn_ac n xs cr hn (by omega) hv n l h1 h2 h3
  have hci : ∀ i, cr i = (!decide (starF (entN (wmT n xs (u1, u2))) n (plA xs i).f.toNat (plA xs i).t.toNat = BOT) && decide (pw u1 u2 (plA xs i) + starF (entN (wmT n xs (u1, u2))) n (plA xs i).f.toNat (plA xs i).t.toNat = 0)) := fun i => by rw [hcr]; rfl
  have hWl : (mRows 1 (TR (wmT n xs (u1, u2)))).length = n := by rw [mTR_len]; exact hst.rc.l
  generalize starF (entN (wmT n xs (u1, u2))) n = s at *
  generalize wmT n xs (u1, u2) = wm at *
  clear hcr hst
  obtain ⟨B, hBe⟩ : ∃ B, bestC xs cr n = B := ⟨_, rfl⟩
  rw [hBe] at hB ⊢
  unfold bestC at hBe
  generalize hF : (fun i => if cr i = false then [] else if (plA xs i).t = (plA xs i).f then [i] else if (plA xs i).t < (plA xs i).f then [] else goC xs cr n [i]) = F at hBe
  rw [show List.range' 0 xs.length = List.range' 0 (xs.length - 0) by simp] at hBe
  have hPW := fun i hi => placeWeight_ac (plA xs i) u1 u2 (by have := hpw i hi; omega) (by have := hpw i hi; omega)
  have hz := mixB_0 (n := xs.length) (g := cr)
  refine AC.of_body 0 Try.func80 rfl (fun l h => absurd rfl h) (fun C hC => ?_)
  have hD : ∀ l, ¬ C.D0 l := fun l h => (hC l).1 h rfl
  simp only [startFr, Try.ntmps80, List.length_cons, List.length_nil, Nat.reduceAdd, Nat.reduceSub, List.replicate_succ, List.replicate_zero, List.cons_append, List.nil_append]
  repeat' (first | refine Qa ?_ | ((first | apply Ba | (apply Bb; (· rfl); (· rfl)) | (apply Bc; (· exact nxE)) | (apply Bd; (· rfl); (· rfl); (· exact nxE))); (· first | exact Kz rfl rfl (hW) (Aa (Ad (Ad An)) (Aa (Ad (Ad An)) An)) | exact Kz rfl rfl (hS) (Ad An) | exact OpOk.nilCheck rfl rfl | exact Ok.pe); (first | refine Na ?_ | refine Nb ?_)) | ((first | apply Ca | (apply Cb; (· exact nxE))); (· first | exact Ok.e0); (first | refine Nc ?_ | refine Nd ?_)) | refine Oa ?_ | refine Ob ?_ | ((first | refine Ga (fun h => ?_) (fun h => ?_) | refine AD.gsplit rfl rfl (fun h => ?_) (fun h => ?_)) <;> try (exfalso; omega; done)) | (first | refine AL.gsplitB rfl rfl (fun h => ?_) (fun h => ?_) | refine AD.gsplitB rfl rfl (fun h => ?_) (fun h => ?_)) | refine Fa ?_ | refine Qb ?_ | refine Qc ?_ | refine Qd ?_ | refine Fb ?_ | refine Qe ?_ | refine Wa ?_ | refine Wb ?_ | (refine AW.ite rfl (fun h => ?_) (fun h => ?_) <;> try (exfalso; omega; done)) | refine AW.cond _ rfl (fun h => ?_) (fun h => ?_) | refine Qf ?_ | refine Qg ?_ | refine Qh ?_ | refine Qi ?_ | refine Xa ?_ | refine Xb ?_ | refine Xc ?_ | refine Xd ?_ | refine Fc ?_)
  refine AW.loop (X := {k : Nat // k ≤ xs.length}) (fun k => ⟨[Oo, Oo, Bx 2 0, Bx 2 1, Oo, TL (tabF n n s), Oo, .own 1 ⟨2, []⟩ 0 xs.length, Oo, Oo, Oo, Oo, Oo, Oo, Oo, Oo, Oo, Oo, Oo, Oo, Oo, Oo, Oo, Oo, Oo, Oo, PL xs, I xs.length, I (k.1 : Nat), Oo, Oo, Oo, Oo, Oo, Oo, Oo, Oo, Oo, Oo, Oo, Oo, Oo, Oo, Oo, Oo, Oo, Oo, Oo, Oo, Oo, Oo, Oo, Oo, Oo, Oo, Oo, Oo, Oo, Oo, Oo, Oo, Oo, Oo, Oo, Oo, Oo, Oo, Oo, Oo, Oo, Oo, Oo, Oo, Oo, Oo, Oo, Oo, Oo, Oo, Oo, Oo, Oo, Oo, Oo, Oo, Oo, Oo, Oo, Oo, Oo, Oo, Oo, Oo, Oo, Oo, Oo, Oo, Oo, Oo, Oo, Oo, Oo, Oo, Oo, Oo, Oo, Oo], heapL [(⟨0, []⟩, ⟨0, []⟩, ⟨2, [[I n, PL xs]]⟩), (⟨1, []⟩, ⟨1, []⟩, ⟨2, [[I u1, I u2]]⟩), (⟨2, []⟩, ⟨2, []⟩, dobj 1 (boR xs.length (mixB cr k.1)))], 900⟩) (fun k => xs.length - k.1) ⟨0, Nat.zero_le _⟩ ?_ (fun k => ?_)
  ·
    (apply Le.headZ [_, _, _] rfl)
    all_goals (try dsimp only [srcs])
    (case' hfr | hob => (repeat' (first | refine La ?_ ?_ | exact Lc | refine Lo ?_ | refine ⟨⟨_, rfl, ?_⟩, ?_⟩ | refine ObA.box ?_ | refine ObA.frE ?_ | refine ObA.dataE ?_ | refine ARs.agg ?_ | refine ARs.tup ?_ | refine AR.b ?_ | refine AR.iE ?_ | refine AR.e ?_ | refine AR.clo' ARs.nil ?_)))
    all_goals (first | ((first | exact hz | (rw [hz]; done))) | exact Ld)
  obtain ⟨k, hk⟩ := k
  simp only
  by_cases hlt : k < xs.length
  · have hrow := pl_row (n := 0) hlt
    have hpwk := hpw k hlt
    have hPW := hPW k hlt
    have hck := hci k
    obtain ⟨⟨g1, g2⟩, ⟨g3, g4⟩, ⟨g5, g6⟩, _⟩ := okPl_at hv k hlt
    have hpwb : -1000000 ≤ pw u1 u2 (plA xs k) ∧ pw u1 u2 (plA xs k) ≤ 1000000 := by unfold pw; omega
    clear hF
    generalize hw : pw u1 u2 (plA xs k) = w at *
    generalize plA xs k = p at *
    obtain ⟨pf, pt, pd, pk⟩ := p
    obtain ⟨a, rfl⟩ : ∃ f : Nat, pf = f := ⟨pf.toNat, by simp at g1; omega⟩
    obtain ⟨t, rfl⟩ : ∃ t : Nat, pt = t := ⟨pt.toNat, by simp at g3; omega⟩
    simp only [Int.toNat_natCast] at hrow g2 g4 g5 g6 hpwk hck
    obtain ⟨rr, hr1, hr2, hr3⟩ := (tabF_rc (m := n) (n := n) (f := s)).get (show a < n by omega) (show t < n by omega)
    rw [tabF_ent (by omega) (by omega)] at hr2
    have hr1' := TR_get hr1
    have hrf := IR_get hr2
    have hrl : (IR rr).length = n := by rw [IR_len, hr3]
    have hb := hsb (i := a) (j := t) (by omega) (by omega)
    have hc0 := boR_get (g := mixB cr k) hlt
    by_cases hbot : s a t = BOT
    · rw [decide_eq_true hbot] at hck
      have hset := mixB_set (n := xs.length) (K := k) (g := cr) (v := false) hck
      rw [hbot] at hrf
      unfold BOT at hrf
      repeat' (first | refine Qa ?_ | ((first | apply Ba | (apply Bb; (· rfl); (· rfl)) | (apply Bc; (· exact nxE)) | (apply Bd; (· rfl); (· rfl); (· exact nxE))); (· first | exact OpOk.nilCheck rfl rfl | exact Ok.st1 rfl rfl rfl (by rw [boR_len]; omega) (by rw [hc0]; rfl) rfl rfl hset | exact Ok.pe); (first | refine Na ?_ | refine Nb ?_)) | ((first | apply Ca | (apply Cb; (· exact nxE))); (· first | exact Ok.st1 rfl rfl rfl (by rw [boR_len]; omega) (by rw [hc0]; rfl) rfl rfl hset | exact Ok.e0); (first | refine Nc ?_ | refine Nd ?_)) | refine Oa ?_ | refine Ob ?_ | ((first | refine Ga (fun h => ?_) (fun h => ?_) | refine AD.gsplit rfl rfl (fun h => ?_) (fun h => ?_)) <;> try (exfalso; omega; done)) | (first | refine AL.gsplitB rfl rfl (fun h => ?_) (fun h => ?_) | refine AD.gsplitB rfl rfl (fun h => ?_) (fun h => ?_)) | refine Fa ?_ | refine Qb ?_ | refine Qc ?_ | refine Qd ?_ | refine Fb ?_ | refine Qe ?_ | refine Wa ?_ | refine Wb ?_ | (refine AW.ite rfl (fun h => ?_) (fun h => ?_) <;> try (exfalso; omega; done)) | refine AW.cond _ rfl (fun h => ?_) (fun h => ?_) | refine Qf ?_ | refine Qg ?_ | refine Qh ?_ | refine Qi ?_ | refine Xa ?_ | refine Xb ?_ | refine Xc ?_ | refine Xd ?_ | refine Fc ?_)
      refine ⟨⟨k + 1, by omega⟩, ?_, by simp only; omega⟩
      (apply Le.headZ [_, _, _] rfl)
      all_goals (try dsimp only [srcs])
      (case' hfr | hob => (repeat' (first | refine La ?_ ?_ | exact Lc | refine Lo ?_ | refine ⟨⟨_, rfl, ?_⟩, ?_⟩ | refine ObA.box ?_ | refine ObA.frE ?_ | refine ObA.dataE ?_ | refine ARs.agg ?_ | refine ARs.tup ?_ | refine AR.b ?_ | refine AR.iE ?_ | refine AR.e ?_ | refine AR.clo' ARs.nil ?_)))
      all_goals (first | (rfl) | exact Ld)
    · rw [decide_eq_false hbot] at hck
      simp only [Bool.not_false, Bool.true_and] at hck
      have hb2 := hb.resolve_left hbot
      have hset := mixB_set (n := xs.length) (K := k) (g := cr) hck
      unfold BOT at hbot
      repeat' (first | refine Qa ?_ | ((first | apply Ba | (apply Bb; (· rfl); (· rfl)) | (apply Bc; (· exact nxE)) | (apply Bd; (· rfl); (· rfl); (· exact nxE))); (· first | exact Kz rfl rfl (hPW) (Aa (Ad (Ad (Ad (Ad An)))) (Aa (Ad (Ad An)) An)) | exact OpOk.nilCheck rfl rfl | exact Ok.st1 rfl rfl rfl (by rw [boR_len]; omega) (by rw [hc0]; rfl) rfl rfl hset | exact Ok.pe); (first | refine Na ?_ | refine Nb ?_)) | ((first | apply Ca | (apply Cb; (· exact nxE))); (· first | exact Ok.st1 rfl rfl rfl (by rw [boR_len]; omega) (by rw [hc0]; rfl) rfl rfl hset | exact Ok.e0); (first | refine Nc ?_ | refine Nd ?_)) | refine Oa ?_ | refine Ob ?_ | ((first | refine Ga (fun h => ?_) (fun h => ?_) | refine AD.gsplit rfl rfl (fun h => ?_) (fun h => ?_)) <;> try (exfalso; omega; done)) | (first | refine AL.gsplitB rfl rfl (fun h => ?_) (fun h => ?_) | refine AD.gsplitB rfl rfl (fun h => ?_) (fun h => ?_)) | refine Fa ?_ | refine Qb ?_ | refine Qc ?_ | refine Qd ?_ | refine Fb ?_ | refine Qe ?_ | refine Wa ?_ | refine Wb ?_ | (refine AW.ite rfl (fun h => ?_) (fun h => ?_) <;> try (exfalso; omega; done)) | refine AW.cond _ rfl (fun h => ?_) (fun h => ?_) | refine Qf ?_ | refine Qg ?_ | refine Qh ?_ | refine Qi ?_ | refine Xa ?_ | refine Xb ?_ | refine Xc ?_ | refine Xd ?_ | refine Fc ?_)
      all_goals
        refine ⟨⟨k + 1, by omega⟩, ?_, by simp only; omega⟩
        (apply Le.headZ [_, _, _] rfl)
        all_goals (try dsimp only [srcs])
        (case' hfr | hob => (repeat' (first | refine La ?_ ?_ | exact Lc | refine Lo ?_ | refine ⟨⟨_, rfl, ?_⟩, ?_⟩ | refine ObA.box ?_ | refine ObA.frE ?_ | refine ObA.dataE ?_ | refine ARs.agg ?_ | refine ARs.tup ?_ | refine AR.b ?_ | refine AR.iE ?_ | refine AR.e ?_ | refine AR.clo' ARs.nil ?_)))
        all_goals (first | (rfl) | exact Ld)
  obtain rfl : k = xs.length := by omega
  rw [mixB_all]
  clear hW hS hsb hci hPW hz hlt hk
  have hbl : (boR xs.length cr).length = xs.length := boR_len
  repeat' (first | refine Qa ?_ | ((first | apply Ba | (apply Bb; (· rfl); (· rfl)) | (apply Bc; (· exact nxE)) | (apply Bd; (· rfl); (· rfl); (· exact nxE))); (· first | exact OpOk.nilCheck rfl rfl | exact Ok.pe); (first | refine Na ?_ | refine Nb ?_)) | ((first | apply Ca | (apply Cb; (· exact nxE))); (· first | exact Ok.e0); (first | refine Nc ?_ | refine Nd ?_)) | refine Oa ?_ | refine Ob ?_ | ((first | refine Ga (fun h => ?_) (fun h => ?_) | refine AD.gsplit rfl rfl (fun h => ?_) (fun h => ?_)) <;> try (exfalso; omega; done)) | (first | refine AL.gsplitB rfl rfl (fun h => ?_) (fun h => ?_) | refine AD.gsplitB rfl rfl (fun h => ?_) (fun h => ?_)) | refine Fa ?_ | refine Qb ?_ | refine Qc ?_ | refine Qd ?_ | refine Fb ?_ | refine Qe ?_ | refine Wa ?_ | refine Wb ?_ | (refine AW.ite rfl (fun h => ?_) (fun h => ?_) <;> try (exfalso; omega; done)) | refine AW.cond _ rfl (fun h => ?_) (fun h => ?_) | refine Qf ?_ | refine Qg ?_ | refine Qh ?_ | refine Qi ?_ | refine Xa ?_ | refine Xb ?_ | refine Xc ?_ | refine Xd ?_ | refine Fc ?_)
  refine AW.loop (X := {k : Nat // k ≤ xs.length ∧ B = tryAll F (List.range' k (xs.length - k))}) (fun k => ⟨[Oo, Oo, Bx 2 0, Oo, Oo, Oo, Oo, .d (.sl 1 (boR xs.length cr)), Oo, Oo, Oo, Oo, Oo, Oo, Oo, Oo, Oo, Oo, Oo, Oo, Oo, Oo, Oo, Oo, Oo, Oo, Oo, Oo, Oo, Oo, Oo, Oo, Oo, Oo, Oo, Oo, Oo, Oo, Oo, Oo, Oo, Oo, Oo, Oo, Oo, Oo, Oo, Oo, Oo, Oo, Oo, Oo, Oo, Oo, Oo, Oo, Oo, PL xs, I xs.length, I (k.1 : Nat), Oo, Oo, Oo, Oo, Oo, Oo, Oo, Oo, Oo, Oo, Oo, Oo, Oo, Oo, Oo, Oo, Oo, Oo, Oo, Oo, Oo, Oo, Oo, Oo, Oo, Oo, Oo, Oo, Oo, Oo, Oo, Oo, Oo, Oo, Oo, Oo, Oo, Oo, Oo, Oo, Oo, Oo, Oo, Oo, Oo, Oo, Oo], heapL [(⟨0, []⟩, ⟨0, []⟩, ⟨2, [[I n, PL xs]]⟩)], 900⟩) (fun k => xs.length - k.1) ⟨0, Nat.zero_le _, hBe.symm⟩ ?_ (fun k => ?_)
  ·
    (apply Le.headZ [_] rfl)
    all_goals (try dsimp only [srcs])
    (case' hfr | hob => (repeat' (first | refine La ?_ ?_ | exact Lc | refine Lo ?_ | refine ⟨⟨_, rfl, ?_⟩, ?_⟩ | refine ObA.box ?_ | refine ObA.frE ?_ | refine ObA.dataE ?_ | refine ARs.agg ?_ | refine ARs.tup ?_ | refine AR.b ?_ | refine AR.iE ?_ | refine AR.e ?_ | refine AR.clo' ARs.nil ?_)))
    all_goals (first | (rfl) | exact Ld)
  obtain ⟨k, hk, hinv⟩ := k
  simp only
  by_cases hlt : k < xs.length
  case neg =>
    obtain rfl : k = xs.length := by omega
    rw [Nat.sub_self] at hinv
    exact absurd hinv hB
  have hrow := pl_row (n := 0) hlt
  have hcr := boR_get (g := cr) hlt
  obtain ⟨⟨g1, g2⟩, ⟨g3, g4⟩, _⟩ := okPl_at hv k hlt
  have hFk : F k = if cr k = false then [] else if (plA xs k).t = (plA xs k).f then [k] else if (plA xs k).t < (plA xs k).f then [] else goC xs cr n [k] := by rw [← hF]
  have hvis : ∀ e, visB xs [k] e = (decide ((plA xs k).f = e) || decide ((plA xs k).t = e)) := fun e => by simp [visB]
  have hp1 : ¬ (plA xs k).t < (plA xs k).f → PathC xs [k] := fun h => PathC.one hlt h
  have hgo := fun h1 h2 h3 => hgo [k] h1 h2 h3
  rw [show firstF xs [k] = (plA xs k).f from rfl, show lastT xs [k] = (plA xs k).t from rfl] at hgo
  generalize plA xs k = p at *
  obtain ⟨pf, pt, pd, pk⟩ := p
  obtain ⟨a, rfl⟩ : ∃ f : Nat, pf = f := ⟨pf.toNat, by simp at g1; omega⟩
  obtain ⟨t, rfl⟩ : ∃ t : Nat, pt = t := ⟨pt.toNat, by simp at g3; omega⟩
  simp only at hrow g2 g4 hFk hvis hp1 hgo
  rcases Bool.eq_false_or_eq_true (cr k) with hc1 | hc1
  case inr =>
    rw [hc1] at hcr
    rw [if_pos hc1] at hFk
    rw [tryAll_no hlt hFk] at hinv
    repeat' (first | refine Qa ?_ | ((first | apply Ba | (apply Bb; (· rfl); (· rfl)) | (apply Bc; (· exact nxE)) | (apply Bd; (· rfl); (· rfl); (· exact nxE))); (· first | exact OpOk.nilCheck rfl rfl | exact Ok.pe); (first | refine Na ?_ | refine Nb ?_)) | ((first | apply Ca | (apply Cb; (· exact nxE))); (· first | exact Ok.e0); (first | refine Nc ?_ | refine Nd ?_)) | refine Oa ?_ | refine Ob ?_ | ((first | refine Ga (fun h => ?_) (fun h => ?_) | refine AD.gsplit rfl rfl (fun h => ?_) (fun h => ?_)) <;> try (exfalso; omega; done)) | (first | refine AL.gsplitB rfl rfl (fun h => ?_) (fun h => ?_) | refine AD.gsplitB rfl rfl (fun h => ?_) (fun h => ?_)) | refine Fa ?_ | refine Qb ?_ | refine Qc ?_ | refine Qd ?_ | refine Fb ?_ | refine Qe ?_ | refine Wa ?_ | refine Wb ?_ | (refine AW.ite rfl (fun h => ?_) (fun h => ?_) <;> try (exfalso; omega; done)) | refine AW.cond _ rfl (fun h => ?_) (fun h => ?_) | refine Qf ?_ | refine Qg ?_ | refine Qh ?_ | refine Qi ?_ | refine Xa ?_ | refine Xb ?_ | refine Xc ?_ | refine Xd ?_ | refine Fc ?_)
    refine ⟨⟨k + 1, by omega, hinv⟩, ?_, by simp only; omega⟩
    (apply Le.headZ [_] rfl)
    all_goals (try dsimp only [srcs])
    (case' hfr | hob => (repeat' (first | refine La ?_ ?_ | exact Lc | refine Lo ?_ | refine ⟨⟨_, rfl, ?_⟩, ?_⟩ | refine ObA.box ?_ | refine ObA.frE ?_ | refine ObA.dataE ?_ | refine ARs.agg ?_ | refine ARs.tup ?_ | refine AR.b ?_ | refine AR.iE ?_ | refine AR.e ?_ | refine AR.clo' ARs.nil ?_)))
    all_goals (first | (rfl) | exact Ld)
  rw [hc1] at hcr
  rw [if_neg (by rw [hc1]; decide)] at hFk
  by_cases he : (t : Int) = (a : Int)
  · rw [if_pos he] at hFk
    have hB1 : B = [k] := by rw [hinv, tryAll_yes hlt (by rw [hFk]; simp), hFk]
    rw [hB1]
    repeat' (first | refine Qa ?_ | ((first | apply Ba | (apply Bb; (· rfl); (· rfl)) | (apply Bc; (· exact nxE)) | (apply Bd; (· rfl); (· rfl); (· exact nxE))); (· first | exact OpOk.nilCheck rfl rfl | exact Ok.pe); (first | refine Na ?_ | refine Nb ?_)) | ((first | apply Ca | (apply Cb; (· exact nxE))); (· first | exact Ok.e0); (first | refine Nc ?_ | refine Nd ?_)) | refine Oa ?_ | refine Ob ?_ | ((first | refine Ga (fun h => ?_) (fun h => ?_) | refine AD.gsplit rfl rfl (fun h => ?_) (fun h => ?_)) <;> try (exfalso; omega; done)) | (first | refine AL.gsplitB rfl rfl (fun h => ?_) (fun h => ?_) | refine AD.gsplitB rfl rfl (fun h => ?_) (fun h => ?_)) | refine Fa ?_ | refine Qb ?_ | refine Qc ?_ | refine Qd ?_ | refine Fb ?_ | refine Qe ?_ | refine Wa ?_ | refine Wb ?_ | (refine AW.ite rfl (fun h => ?_) (fun h => ?_) <;> try (exfalso; omega; done)) | refine AW.cond _ rfl (fun h => ?_) (fun h => ?_) | refine Qf ?_ | refine Qg ?_ | refine Qh ?_ | refine Qi ?_ | refine Xa ?_ | refine Xb ?_ | refine Xc ?_ | refine Xd ?_ | refine Fc ?_)
    refine Ya ?_
    (apply Le.head [(⟨0, []⟩, _, _)])
    (case' hfr | hob => (repeat' (first | refine La ?_ ?_ | exact Lc | refine Lo ?_ | refine ⟨⟨_, rfl, ?_⟩, ?_⟩ | refine ObA.box ?_ | refine ObA.frE ?_ | refine ObA.dataE ?_ | refine ARs.agg ?_ | refine ARs.tup ?_ | refine AR.b ?_ | refine AR.iE ?_ | refine AR.e ?_ | refine AR.clo' ARs.nil ?_)))
    all_goals (first | exact Ld | (rfl))
  rw [if_neg he] at hFk
  by_cases hlt2 : (t : Int) < (a : Int)
  · rw [if_pos hlt2] at hFk
    rw [tryAll_no hlt hFk] at hinv
    repeat' (first | refine Qa ?_ | ((first | apply Ba | (apply Bb; (· rfl); (· rfl)) | (apply Bc; (· exact nxE)) | (apply Bd; (· rfl); (· rfl); (· exact nxE))); (· first | exact OpOk.nilCheck rfl rfl | exact Ok.pe); (first | refine Na ?_ | refine Nb ?_)) | ((first | apply Ca | (apply Cb; (· exact nxE))); (· first | exact Ok.e0); (first | refine Nc ?_ | refine Nd ?_)) | refine Oa ?_ | refine Ob ?_ | ((first | refine Ga (fun h => ?_) (fun h => ?_) | refine AD.gsplit rfl rfl (fun h => ?_) (fun h => ?_)) <;> try (exfalso; omega; done)) | (first | refine AL.gsplitB rfl rfl (fun h => ?_) (fun h => ?_) | refine AD.gsplitB rfl rfl (fun h => ?_) (fun h => ?_)) | refine Fa ?_ | refine Qb ?_ | refine Qc ?_ | refine Qd ?_ | refine Fb ?_ | refine Qe ?_ | refine Wa ?_ | refine Wb ?_ | (refine AW.ite rfl (fun h => ?_) (fun h => ?_) <;> try (exfalso; omega; done)) | refine AW.cond _ rfl (fun h => ?_) (fun h => ?_) | refine Qf ?_ | refine Qg ?_ | refine Qh ?_ | refine Qi ?_ | refine Xa ?_ | refine Xb ?_ | refine Xc ?_ | refine Xd ?_ | refine Fc ?_)
    refine ⟨⟨k + 1, by omega, hinv⟩, ?_, by simp only; omega⟩
    (apply Le.headZ [_] rfl)
    all_goals (try dsimp only [srcs])
    (case' hfr | hob => (repeat' (first | refine La ?_ ?_ | exact Lc | refine Lo ?_ | refine ⟨⟨_, rfl, ?_⟩, ?_⟩ | refine ObA.box ?_ | refine ObA.frE ?_ | refine ObA.dataE ?_ | refine ARs.agg ?_ | refine ARs.tup ?_ | refine AR.b ?_ | refine AR.iE ?_ | refine AR.e ?_ | refine AR.clo' ARs.nil ?_)))
    all_goals (first | (rfl) | exact Ld)
  rw [if_neg hlt2] at hFk
  have hG := hgo (hp1 hlt2) he (by simp)
  have hrep : List.replicate n [D.v (.bool false)] = boR n fun _ => false := by simp [boR, List.map_const']
  have hset1 : (List.replicate n [D.v (.bool false)]).set a [D.v (.bool true)] = boR n (fun e => if e = a then true else false) := by rw [hrep, boR_set]
  have hget1 : (List.replicate n [D.v (.bool false)])[a]? = some [D.v (.bool false)] := by rw [hrep]; exact boR_get (show a < n by omega)
  have hget2 := boR_get (g := fun e => if e = a then true else false) (show t < n by omega)
  have hset2 : (boR n fun e => if e = a then true else false).set t [D.v (.bool true)] = boR n (seenV xs [k]) := by
    rw [boR_set]
    refine boR_congr fun e _ => ?_
    simp only [seenV, hvis]
    by_cases e1 : e = t
    · subst e1; simp
    · rw [if_neg e1]
      by_cases e2 : e = a
      · subst e2; simp
      · rw [if_neg e2, decide_eq_false (by omega), decide_eq_false (by omega)]; rfl
  by_cases hg : goC xs cr n [k] = []
  · rw [if_pos hg, hg, decide_eq_false (by simp)] at hG
    rw [hg] at hFk
    rw [tryAll_no hlt hFk] at hinv
    unfold goH goHF IO at hG
    generalize seenV xs [k] = sv at *
    repeat' (first | refine Qa ?_ | ((first | apply Ba | (apply Bb; (· rfl); (· rfl)) | (apply Bc; (· exact nxE)) | (apply Bd; (· rfl); (· rfl); (· exact nxE))); (· first | exact Ok.ld1 rfl rfl rfl hget1 | exact OpOk.nilCheck rfl rfl | exact Ok.st1 rfl rfl rfl (by rw [List.length_replicate]; omega) (congrArg (Option.map List.length) hget1) rfl rfl hset1 | exact Ok.st1 rfl rfl rfl (by rw [boR_len]; omega) (by rw [hget2]; rfl) rfl rfl hset2 | exact OpOk.callB3 (b := ⟨930, []⟩) (p := ⟨925, []⟩) (q := ⟨928, []⟩) (x' := .own 1 ⟨928, []⟩ 0 n) rfl rfl hG rfl rfl rfl (by decide) (by decide) (by decide) rfl (fun g => congrArg some (rnO_dobj _ _ _)) (by simp [Go.Proofs.Ytcjidnpkeliieaa.rn, emb, thr]) (.cons (AR.ptr _ _ _ _ (by simp)) (.cons (.dd _) (.cons (.dd _) .nil))) | exact Ok.pe); (first | refine Na ?_ | refine Nb ?_)) | ((first | apply Ca | (apply Cb; (· exact nxE))); (· first | exact Ok.st1 rfl rfl rfl (by rw [List.length_replicate]; omega) (congrArg (Option.map List.length) hget1) rfl rfl hset1 | exact Ok.st1 rfl rfl rfl (by rw [boR_len]; omega) (by rw [hget2]; rfl) rfl rfl hset2 | exact OpOk.callB3 (b := ⟨930, []⟩) (p := ⟨925, []⟩) (q := ⟨928, []⟩) (x' := .own 1 ⟨928, []⟩ 0 n) rfl rfl hG rfl rfl rfl (by decide) (by decide) (by decide) rfl (fun g => congrArg some (rnO_dobj _ _ _)) (by simp [Go.Proofs.Ytcjidnpkeliieaa.rn, emb, thr]) (.cons (AR.ptr _ _ _ _ (by simp)) (.cons (.dd _) (.cons (.dd _) .nil))) | exact Ok.e0); (first | refine Nc ?_ | refine Nd ?_)) | refine Oa ?_ | refine Ob ?_ | ((first | refine Ga (fun h => ?_) (fun h => ?_) | refine AD.gsplit rfl rfl (fun h => ?_) (fun h => ?_)) <;> try (exfalso; omega; done)) | (first | refine AL.gsplitB rfl rfl (fun h => ?_) (fun h => ?_) | refine AD.gsplitB rfl rfl (fun h => ?_) (fun h => ?_)) | refine Fa ?_ | refine Qb ?_ | refine Qc ?_ | refine Qd ?_ | refine Fb ?_ | refine Qe ?_ | refine Wa ?_ | refine Wb ?_ | (refine AW.ite rfl (fun h => ?_) (fun h => ?_) <;> try (exfalso; omega; done)) | refine AW.cond _ rfl (fun h => ?_) (fun h => ?_) | refine Qf ?_ | refine Qg ?_ | refine Qh ?_ | refine Qi ?_ | refine Xa ?_ | refine Xb ?_ | refine Xc ?_ | refine Xd ?_ | refine Fc ?_)
    refine ⟨⟨k + 1, by omega, hinv⟩, ?_, by simp only; omega⟩
    (apply Le.headZ [_] rfl)
    all_goals (try dsimp only [srcs])
    (case' hfr | hob => (repeat' (first | refine La ?_ ?_ | exact Lc | refine Lo ?_ | refine ⟨⟨_, rfl, ?_⟩, ?_⟩ | refine ObA.box ?_ | refine ObA.frE ?_ | refine ObA.dataE ?_ | refine ARs.agg ?_ | refine ARs.tup ?_ | refine AR.b ?_ | refine AR.iE ?_ | refine AR.e ?_ | refine AR.clo' ARs.nil ?_)))
    all_goals (first | (rfl) | exact Ld)
  · have hB1 : B = goC xs cr n [k] := by rw [hinv, tryAll_yes hlt (by rw [hFk]; exact hg), hFk]
    rw [if_neg hg, decide_eq_true hg] at hG
    rw [hB1]
    generalize goC xs cr n [k] = c at *
    unfold goH goHT IO at hG
    generalize seenV xs [k] = sv at *
    repeat' (first | refine Qa ?_ | ((first | apply Ba | (apply Bb; (· rfl); (· rfl)) | (apply Bc; (· exact nxE)) | (apply Bd; (· rfl); (· rfl); (· exact nxE))); (· first | exact Ok.ld1 rfl rfl rfl hget1 | exact OpOk.nilCheck rfl rfl | exact Ok.st1 rfl rfl rfl (by rw [List.length_replicate]; omega) (congrArg (Option.map List.length) hget1) rfl rfl hset1 | exact Ok.st1 rfl rfl rfl (by rw [boR_len]; omega) (by rw [hget2]; rfl) rfl rfl hset2 | exact OpOk.callB3 (b := ⟨930, []⟩) (p := ⟨925, []⟩) (q := ⟨928, []⟩) (x' := .dead) rfl rfl hG rfl rfl rfl (by decide) (by decide) (by decide) rfl (fun _ => rfl) (by simp [Go.Proofs.Ytcjidnpkeliieaa.rn, emb, thr]) (.cons (AR.ptr _ _ _ _ (by simp)) (.cons (.dd _) (.cons (.dd _) .nil))) | exact Ok.pe); (first | refine Na ?_ | refine Nb ?_)) | ((first | apply Ca | (apply Cb; (· exact nxE))); (· first | exact Ok.st1 rfl rfl rfl (by rw [List.length_replicate]; omega) (congrArg (Option.map List.length) hget1) rfl rfl hset1 | exact Ok.st1 rfl rfl rfl (by rw [boR_len]; omega) (by rw [hget2]; rfl) rfl rfl hset2 | exact OpOk.callB3 (b := ⟨930, []⟩) (p := ⟨925, []⟩) (q := ⟨928, []⟩) (x' := .dead) rfl rfl hG rfl rfl rfl (by decide) (by decide) (by decide) rfl (fun _ => rfl) (by simp [Go.Proofs.Ytcjidnpkeliieaa.rn, emb, thr]) (.cons (AR.ptr _ _ _ _ (by simp)) (.cons (.dd _) (.cons (.dd _) .nil))) | exact Ok.e0); (first | refine Nc ?_ | refine Nd ?_)) | refine Oa ?_ | refine Ob ?_ | ((first | refine Ga (fun h => ?_) (fun h => ?_) | refine AD.gsplit rfl rfl (fun h => ?_) (fun h => ?_)) <;> try (exfalso; omega; done)) | (first | refine AL.gsplitB rfl rfl (fun h => ?_) (fun h => ?_) | refine AD.gsplitB rfl rfl (fun h => ?_) (fun h => ?_)) | refine Fa ?_ | refine Qb ?_ | refine Qc ?_ | refine Qd ?_ | refine Fb ?_ | refine Qe ?_ | refine Wa ?_ | refine Wb ?_ | (refine AW.ite rfl (fun h => ?_) (fun h => ?_) <;> try (exfalso; omega; done)) | refine AW.cond _ rfl (fun h => ?_) (fun h => ?_) | refine Qf ?_ | refine Qg ?_ | refine Qh ?_ | refine Qi ?_ | refine Xa ?_ | refine Xb ?_ | refine Xc ?_ | refine Xd ?_ | refine Fc ?_)
    refine Ya ?_
    (apply Le.head [(⟨0, []⟩, _, _)])
    (case' hfr | hob => (repeat' (first | refine La ?_ ?_ | exact Lc | refine Lo ?_ | refine ⟨⟨_, rfl, ?_⟩, ?_⟩ | refine ObA.box ?_ | refine ObA.frE ?_ | refine ObA.dataE ?_ | refine ARs.agg ?_ | refine ARs.tup ?_ | refine AR.b ?_ | refine AR.iE ?_ | refine AR.e ?_ | refine AR.clo' ARs.nil ?_)))
    all_goals (first | exact Ld | (rfl))
theorem crOk_max {n : Nat} {xs : List Pl} {r : Int × Int} (hn : n ≤ 10) (h0 : 0 < n) (hv : ∀ p ∈ xs, okPl n p) (hr : MaxR xs r) (h1 : 0 ≤ r.1 ∧ r.1 ≤ 100000) (h2 : 0 ≤ r.2 ∧ r.2 ≤ 50) : CrOk xs n r (starF (entN (wmT n xs r)) n) := by
  have hb := wm_bnd hv h1 h2
  have hw : WmOk n xs r (wmT n xs r) := wm_ok (M := 500000) (by decide) xs (fun p hp => ⟨hv p hp, (hb p hp).1⟩)
  have hst := starM_wm hn h0 hv hr h1 h2
  exact ⟨hv, hr, hw, hst.np, hst.ok⟩
theorem bcL_len {ev : Int} {xs : List Pl} : (bcL ev xs).length ≤ 1000 := by
  unfold bcL
  split
  · rename_i h
    obtain ⟨n, rfl, h1, h2, h3, h4, h5, h6, _⟩ := bc_star h
    obtain ⟨c, e1, e2, _⟩ := h5.best h2 h6
    rw [Int.toNat_natCast, e1]
    have := e2.len (n := n) fun i hi => (okPl_at h4 i hi).1
    omega
  · simp
end Go.Proofs.Ytcjidnpkeliieaa
end
