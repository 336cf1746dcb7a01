/-
  Walks in the abstract reading: the search of cycles of the reference.
-/
import Derived.Test.YtcjidnpkeliieaaKC1
namespace Go.Proofs.Ytcjidnpkeliieaa
set_option linter.unusedSimpArgs false
set_option linter.unusedVariables false
open Go Go.RowKit
attribute [local irreducible] AL AD AW OpOk Le AC thenQ blockQ EndQ

def entN (t : List (List Int)) (i j : Nat) : Int := (((t[i]?).getD [])[j]?).getD 0
structure Sq (t : List (List Int)) (n : Nat) : Prop where
  l : t.length = n
  r : ∀ r ∈ t, r.length = n
theorem Sq.get {t : List (List Int)} {n i j : Nat} (h : Sq t n) (hi : i < n) (hj : j < n) : ∃ r, t[i]? = some r ∧ r[j]? = some (entN t i j) ∧ r.length = n := by
  have h1 : i < t.length := by rw [h.l]; exact hi
  have h2 := h.r t[i] (List.getElem_mem h1)
  refine ⟨t[i], List.getElem?_eq_getElem h1, ?_, h2⟩
  unfold entN
  rw [List.getElem?_eq_getElem h1, Option.getD_some, List.getElem?_eq_getElem (by rw [h2]; exact hj), Option.getD_some]
abbrev cN (p : List Nat) : List Int := p.map fun v : Nat => (v : Int)
theorem any_cN {p : List Nat} {v : Nat} : (cN p).any (fun x => decide (x = (v : Int))) = decide (v ∈ p) := by
  rw [Bool.eq_iff_iff]
  simp only [List.any_map, List.any_eq_true, Function.comp_def, decide_eq_true_eq]
  constructor
  · rintro ⟨x, hx, e⟩; have : x = v := by omega
    subst this; exact hx
  · intro h; exact ⟨v, h, rfl⟩
theorem range'_cons {v n : Nat} (h : v < n) : List.range' v (n - v) = v :: List.range' (v + 1) (n - (v + 1)) := by
  rw [show n - v = (n - (v + 1)) + 1 by omega, List.range'_succ]
def bigB (t : List (List Int)) : Prop := ∀ i j, entN t i j = -1000000000000000 ∨ (-1000000000000 ≤ entN t i j ∧ entN t i j ≤ 1000000000000)
set_option maxHeartbeats 2000000 in
theorem l03Grow_ac (t : List (List Int)) (n : Nat) (ht : Sq t n) (hn : n ≤ 1000) (hb : bigB t) (over : Int) : ∀ (k : Nat) (path : List Nat) (w : Int), path ≠ [] → (∀ v ∈ path, v < n) → path.Nodup → path.length + k = n + 1 → (-1000000000000 * (path.length : Int) ≤ w ∧ w ≤ 1000000000000 * (path.length : Int)) →
    AC Try.prog 207 [TL t, IL (cN path), I w, I over] H0 (IL (cN (growF (entN t) n over k path w))) H0
  | 0, path, w, h0, h1, h2, h3, _ => by
    have := nodup_le n path h2 h1
    omega
  | k + 1, path, w, h0, h1, h2, h3, hw => by
    have ih := l03Grow_ac t n ht hn hb over k
    have hpl : 0 < path.length := List.length_pos_iff.2 h0
    have hpn := nodup_le n path h2 h1
    have hfn : hdN path < n := h1 _ (by rw [hdN_getD, List.getD_eq_getElem?_getD, List.getElem?_eq_getElem hpl]; exact List.getElem_mem hpl)
    have hln : lsN path < n := h1 _ (by rw [lsN_getD, List.getD_eq_getElem?_getD, List.getElem?_eq_getElem (by omega)]; exact List.getElem_mem _)
    have h00 : (IR (cN path))[(0 : Int).toNat]? = some [DI (hdN path)] := by
      rw [hdN_getD, List.getD_eq_getElem?_getD]; simp [List.getElem?_eq_getElem hpl]
    have hls : (IR (cN path))[((path.length : Int) - 1).toNat]? = some [DI (lsN path)] := by
      rw [lsN_getD, List.getD_eq_getElem?_getD, show ((path.length : Int) - 1).toNat = path.length - 1 by omega]; simp [List.getElem?_eq_getElem (show path.length - 1 < path.length by omega)]
    obtain ⟨rf, hf1, hf2, hf3⟩ := ht.get hfn hln
    have hf := TR_get hf1
    have hfl := IR_get hf2
    have hbf := hb (hdN path) (lsN path)
    rw [growF, show BOT = -1000000000000000 from rfl]
    refine AC.of_body 0 Try.func207 rfl (fun l h => absurd rfl h) (fun C hC => ?_)
    have hD : ∀ l, ¬ C.D0 l := fun l h => (hC l).1 h rfl
    simp only [startFr, Try.ntmps207, List.length_cons, List.length_nil, Nat.reduceAdd, Nat.reduceSub, List.replicate_succ, List.replicate_zero, List.cons_append, List.nil_append]
    repeat' (first | refine Qa ?_ | ((first | apply Ba | (apply Bb; (· rfl); (· rfl)) | (apply Bc; (· exact nxE)) | (apply Bd; (· rfl); (· rfl); (· exact nxE))); (· first | exact Ok.pe); (first | refine Na ?_ | refine Nb ?_)) | ((first | apply Ca | (apply Cb; (· exact nxE))); (· first | exact Ok.e0); (first | refine Nc ?_ | refine Nd ?_)) | refine Oa ?_ | refine Ob ?_ | ((first | refine Ga (fun h => ?_) (fun h => ?_) | refine AD.gsplit rfl rfl (fun h => ?_) (fun h => ?_)) <;> try (exfalso; omega; done)) | (first | refine AL.gsplitB rfl rfl (fun h => ?_) (fun h => ?_) | refine AD.gsplitB rfl rfl (fun h => ?_) (fun h => ?_)) | refine Fa ?_ | refine Qb ?_ | refine Qc ?_ | refine Qd ?_ | refine Fb ?_ | refine Qe ?_ | refine Wa ?_ | refine Wb ?_ | (refine AW.ite rfl (fun h => ?_) (fun h => ?_) <;> try (exfalso; omega; done)) | refine AW.cond _ rfl (fun h => ?_) (fun h => ?_) | refine Qf ?_ | refine Qg ?_ | refine Qh ?_ | refine Qi ?_ | refine Xa ?_ | refine Xb ?_ | refine Xc ?_ | refine Xd ?_ | refine Fc ?_)
    ·
      refine Ya ?_
      (apply Le.headZ (hs := []) [] rfl)
      all_goals (try dsimp only [srcs])
      (case' hfr => (repeat' (first | refine La ?_ ?_ | exact Lc | refine Lo ?_ | refine ⟨⟨_, rfl, ?_⟩, ?_⟩ | refine ObA.box ?_ | refine ObA.frE ?_ | refine ObA.dataE ?_ | refine ARs.agg ?_ | refine ARs.tup ?_ | refine AR.b ?_ | refine AR.iE ?_ | refine AR.e ?_ | refine AR.clo' ARs.nil ?_)))
      all_goals (first | exact Ld | exact trivial | ((rw [if_pos ⟨by assumption, by assumption⟩]; done)))
    all_goals
      have hno : ¬ (entN t (hdN path) (lsN path) ≠ -1000000000000000 ∧ over < w + entN t (hdN path) (lsN path)) := by omega
      simp only [if_neg hno]
      generalize hf0 : (fun v => if entN t v (lsN path) = -1000000000000000 ∨ v ∈ path then [] else growF (entN t) n over k (path ++ [v]) (w + entN t v (lsN path))) = f
      refine AW.loop (X := {v : Nat // hdN path + 1 ≤ v ∧ v ≤ n ∧ tryAll f (List.range' (hdN path + 1) (n - (hdN path + 1))) = tryAll f (List.range' v (n - v))}) (fun v => ⟨[TL t, IL (cN path), I w, I over, Oo, Oo, Oo, Oo, Oo, Oo, I (lsN path : Nat), I (v.1 : Nat), Oo, Oo, Oo, Oo, Oo, Oo, Oo, Oo, Oo, Oo, Oo, Oo, Oo, Oo, Oo, Oo, Oo, Oo, Oo, Oo, Oo, Oo, Oo, Oo, Oo, Oo, Oo, Oo, Oo, Oo, Oo, Oo, Oo, Oo, Oo, Oo, Oo, Oo, Oo, Oo, Oo, Oo, Oo, Oo, Oo, Oo, Oo, Oo, Oo, Oo, Oo, Oo, Oo, Oo, Oo, Oo, Oo, Oo, Oo, Oo, Oo, Oo, Oo, Oo, Oo, Oo, Oo, Oo, Oo, Oo, Oo, Oo, Oo, Oo], heapL [], 900⟩) (fun v => n - v.1) ⟨hdN path + 1, Nat.le_refl _, by omega, rfl⟩ ?_ (fun v => ?_)
      ·
        (apply Le.headZ [] rfl)
        all_goals (try dsimp only [srcs])
        (case' hfr | hob => (repeat' (first | refine La ?_ ?_ | exact Lc | refine Lo ?_ | refine ⟨⟨_, rfl, ?_⟩, ?_⟩ | refine ObA.box ?_ | refine ObA.frE ?_ | refine ObA.dataE ?_ | refine ARs.agg ?_ | refine ARs.tup ?_ | refine AR.b ?_ | refine AR.iE ?_ | refine AR.e ?_ | refine AR.clo' ARs.nil ?_)))
        all_goals (first | (rfl) | exact Ld)
      obtain ⟨v, hv1, hv2, hv3⟩ := v
      simp only
      have htl := ht.l
      by_cases hlt : v < n
      · obtain ⟨rv, hv4, hv5, hv6⟩ := ht.get hlt hln
        have hvr := TR_get hv4
        have hvl := IR_get hv5
        have hbv := hb v (lsN path)
        have hst := range'_cons hlt
        rw [hst, tryAll] at hv3
        have hfv : f v = if entN t v (lsN path) = -1000000000000000 ∨ v ∈ path then [] else growF (entN t) n over k (path ++ [v]) (w + entN t v (lsN path)) := by rw [← hf0]
        have hH := l01Has_ac (cN path) (v : Int) (by simp; omega)
        rw [any_cN] at hH
        by_cases hskip : entN t v (lsN path) = -1000000000000000 ∨ v ∈ path
        · rw [if_pos hskip] at hfv
          have hnx : tryAll f (List.range' (hdN path + 1) (n - (hdN path + 1))) = tryAll f (List.range' (v + 1) (n - (v + 1))) := by rw [hv3, hfv]; simp
          repeat' (first | refine Qa ?_ | ((first | apply Ba | (apply Bb; (· rfl); (· rfl)) | (apply Bc; (· exact nxE)) | (apply Bd; (· rfl); (· rfl); (· exact nxE))); (· first | exact Kz rfl rfl (hH) (Ad (Ad An)) | exact Ok.pe); (first | refine Na ?_ | refine Nb ?_)) | ((first | apply Ca | (apply Cb; (· exact nxE))); (· first | exact Ok.e0); (first | refine Nc ?_ | refine Nd ?_)) | refine Oa ?_ | refine Ob ?_ | ((first | refine Ga (fun h => ?_) (fun h => ?_) | refine AD.gsplit rfl rfl (fun h => ?_) (fun h => ?_)) <;> try (exfalso; omega; done)) | (first | refine AL.gsplitB rfl rfl (fun h => ?_) (fun h => ?_) | refine AD.gsplitB rfl rfl (fun h => ?_) (fun h => ?_)) | refine Fa ?_ | refine Qb ?_ | refine Qc ?_ | refine Qd ?_ | refine Fb ?_ | refine Qe ?_ | refine Wa ?_ | refine Wb ?_ | (refine AW.ite rfl (fun h => ?_) (fun h => ?_) <;> try (exfalso; omega; done)) | refine AW.cond _ rfl (fun h => ?_) (fun h => ?_) | refine Qf ?_ | refine Qg ?_ | refine Qh ?_ | refine Qi ?_ | refine Xa ?_ | refine Xb ?_ | refine Xc ?_ | refine Xd ?_ | refine Fc ?_)
          all_goals try (exfalso; rcases hskip with h5 | h5 <;> contradiction)
          all_goals
            refine ⟨⟨v + 1, by omega, by omega, hnx⟩, ?_, by simp only; omega⟩
            (apply Le.headZ [] rfl)
            all_goals (try dsimp only [srcs])
            (case' hfr | hob => (repeat' (first | refine La ?_ ?_ | exact Lc | refine Lo ?_ | refine ⟨⟨_, rfl, ?_⟩, ?_⟩ | refine ObA.box ?_ | refine ObA.frE ?_ | refine ObA.dataE ?_ | refine ARs.agg ?_ | refine ARs.tup ?_ | refine AR.b ?_ | refine AR.iE ?_ | refine AR.e ?_ | refine AR.clo' ARs.nil ?_)))
            all_goals (first | (rfl) | exact Ld)
        · have hG := ih (path ++ [v]) (w + entN t v (lsN path)) (by simp) (fun u hu => by
            rcases List.mem_append.1 hu with hu | hu
            · exact h1 u hu
            · simp at hu; omega) (List.nodup_append.2 ⟨h2, by simp, fun a ha b hb e => by simp at hb; subst hb; subst e; exact hskip (.inr ha)⟩) (by simp; omega) (by simp; omega)
          have happ : IR (cN (path ++ [v])) = IR (cN path) ++ [[DI v]] := by simp
          unfold IL at hG
          rw [happ] at hG
          have hO := l01Own_ac (cN path) (by simp; omega)
          rw [show (cN path).length = path.length by simp] at hO
          repeat' (first | refine Qa ?_ | ((first | apply Ba | (apply Bb; (· rfl); (· rfl)) | (apply Bc; (· exact nxE)) | (apply Bd; (· rfl); (· rfl); (· exact nxE))); (· first | exact Kz rfl rfl (hH) (Ad (Ad An)) | exact Zf rfl rfl (hG) (Sd (Sw (Sd (Sd Sn)))) | exact Eo rfl rfl (hO) (Sd Sn) | exact Ok.append1 (row := [DI v]) rfl rfl (by decide) rfl rfl (by simp; done) rfl rfl rfl (by rfl) (by omega) (by omega) | exact Ok.pe); (first | refine Na ?_ | refine Nb ?_)) | ((first | apply Ca | (apply Cb; (· exact nxE))); (· first | exact Eo rfl rfl (hO) (Sd Sn) | exact Ok.append1 (row := [DI v]) rfl rfl (by decide) rfl rfl (by simp; done) rfl rfl rfl (by rfl) (by omega) (by omega) | exact Ok.e0); (first | refine Nc ?_ | refine Nd ?_)) | refine Oa ?_ | refine Ob ?_ | ((first | refine Ga (fun h => ?_) (fun h => ?_) | refine AD.gsplit rfl rfl (fun h => ?_) (fun h => ?_)) <;> try (exfalso; omega; done)) | (first | refine AL.gsplitB rfl rfl (fun h => ?_) (fun h => ?_) | refine AD.gsplitB rfl rfl (fun h => ?_) (fun h => ?_)) | refine Fa ?_ | refine Qb ?_ | refine Qc ?_ | refine Qd ?_ | refine Fb ?_ | refine Qe ?_ | refine Wa ?_ | refine Wb ?_ | (refine AW.ite rfl (fun h => ?_) (fun h => ?_) <;> try (exfalso; omega; done)) | refine AW.cond _ rfl (fun h => ?_) (fun h => ?_) | refine Qf ?_ | refine Qg ?_ | refine Qh ?_ | refine Qi ?_ | refine Xa ?_ | refine Xb ?_ | refine Xc ?_ | refine Xd ?_ | refine Fc ?_)
          all_goals try (exfalso; first | exact hskip (.inl (by assumption)) | exact hskip (.inr (by assumption)))
          ·
            refine Ya ?_
            (apply Le.headZ (hs := []) [] rfl)
            all_goals (try dsimp only [srcs])
            (case' hfr => (repeat' (first | refine La ?_ ?_ | exact Lc | refine Lo ?_ | refine ⟨⟨_, rfl, ?_⟩, ?_⟩ | refine ObA.box ?_ | refine ObA.frE ?_ | refine ObA.dataE ?_ | refine ARs.agg ?_ | refine ARs.tup ?_ | refine AR.b ?_ | refine AR.iE ?_ | refine AR.e ?_ | refine AR.clo' ARs.nil ?_)))
            all_goals (first | exact Ld | exact trivial | ((rw [hv3, hfv, if_neg hskip, if_pos (by intro e; rw [e] at h; simp at h)]; done)))
          · have hnx : tryAll f (List.range' (hdN path + 1) (n - (hdN path + 1))) = tryAll f (List.range' (v + 1) (n - (v + 1))) := by
              rw [hv3, hfv, if_neg hskip, if_neg (by intro e; exact h (by have := List.length_pos_iff.2 e; omega))]
            refine ⟨⟨v + 1, by omega, by omega, hnx⟩, ?_, by simp only; omega⟩
            (apply Le.headZ [] rfl)
            all_goals (try dsimp only [srcs])
            (case' hfr | hob => (repeat' (first | refine La ?_ ?_ | exact Lc | refine Lo ?_ | refine ⟨⟨_, rfl, ?_⟩, ?_⟩ | refine ObA.box ?_ | refine ObA.frE ?_ | refine ObA.dataE ?_ | refine ARs.agg ?_ | refine ARs.tup ?_ | refine AR.b ?_ | refine AR.iE ?_ | refine AR.e ?_ | refine AR.clo' ARs.nil ?_)))
            all_goals (first | (rfl) | exact Ld)
      ·
        rw [show n - v = 0 by omega, List.range'_zero] at hv3
        rw [hv3]
        repeat' (first | refine Qa ?_ | ((first | apply Ba | (apply Bb; (· rfl); (· rfl)) | (apply Bc; (· exact nxE)) | (apply Bd; (· rfl); (· rfl); (· exact nxE))); (· first | exact Ok.pe); (first | refine Na ?_ | refine Nb ?_)) | ((first | apply Ca | (apply Cb; (· exact nxE))); (· first | exact Ok.e0); (first | refine Nc ?_ | refine Nd ?_)) | refine Oa ?_ | refine Ob ?_ | ((first | refine Ga (fun h => ?_) (fun h => ?_) | refine AD.gsplit rfl rfl (fun h => ?_) (fun h => ?_)) <;> try (exfalso; omega; done)) | (first | refine AL.gsplitB rfl rfl (fun h => ?_) (fun h => ?_) | refine AD.gsplitB rfl rfl (fun h => ?_) (fun h => ?_)) | refine Fa ?_ | refine Qb ?_ | refine Qc ?_ | refine Qd ?_ | refine Fb ?_ | refine Qe ?_ | refine Wa ?_ | refine Wb ?_ | (refine AW.ite rfl (fun h => ?_) (fun h => ?_) <;> try (exfalso; omega; done)) | refine AW.cond _ rfl (fun h => ?_) (fun h => ?_) | refine Qf ?_ | refine Qg ?_ | refine Qh ?_ | refine Qi ?_ | refine Xa ?_ | refine Xb ?_ | refine Xc ?_ | refine Xd ?_ | refine Fc ?_)
        refine Ya ?_
        (apply Le.headZ (hs := []) [] rfl)
        all_goals (try dsimp only [srcs])
        (case' hfr => (repeat' (first | refine La ?_ ?_ | exact Lc | refine Lo ?_ | refine ⟨⟨_, rfl, ?_⟩, ?_⟩ | refine ObA.box ?_ | refine ObA.frE ?_ | refine ObA.dataE ?_ | refine ARs.agg ?_ | refine ARs.tup ?_ | refine AR.b ?_ | refine AR.iE ?_ | refine AR.e ?_ | refine AR.clo' ARs.nil ?_)))
        all_goals (first | exact Ld | exact trivial | (rfl))
end Go.Proofs.Ytcjidnpkeliieaa
