/-
  Walks in the abstract reading, part 11.
-/
import Derived.Test.YtegfjedklebbfaaKU10
import Derived.Test.YtegfjedklebbfaaKU6
import Derived.Test.YtegfjedklebbfaaKA3
import Derived.Test.YtegfjedklebbfaaKU9
section
namespace Go.Proofs.Ytegfjedklebbfaa
set_option linter.unusedSimpArgs false
set_option linter.unusedVariables false
open Go Go.RowKit

theorem gap_nn {n : Nat} {xs : List Pl} {r : Int × Int} {t : List (List Int)} (hw : WmOk n xs r t) (hnp : NoPos (entN t) n) {s : Nat → Nat → Int} (hs : StarOk (entN t) n s) {f u : Nat} (hf : f < n) (hu : u < n) {p : Pl} (hp : p ∈ xs) (h1 : p.f = f) (h2 : p.t = u) (hne : s f u ≠ BOT) : pw r.1 r.2 p + s f u ≤ 0 := by
  have ha := hw.all p hp
  rw [h1, h2, Int.toNat_natCast, Int.toNat_natCast] at ha
  have hwm : WM (entN t) f [] u := ha.1
  have hwv : wM (entN t) f [] u = entN t u f := rfl
  rcases hs.some u f hu hf with e | ⟨e1, e2⟩ | ⟨c, c1, c2, c3⟩
  · exact absurd e hne
  · subst e1
    have := hnp u [] hu (by simp) hwm
    omega
  · have h3 : WM (entN t) u (c ++ f :: []) u := WM.app.2 ⟨c1, hwm⟩
    have h4 := hnp u _ hu (fun x hx => by
      rcases List.mem_append.1 hx with h | h
      · exact c2 x h
      · simp at h; omega) h3
    rw [wM_app] at h4
    omega
end Go.Proofs.Ytegfjedklebbfaa
end

section
namespace Go.Proofs.Ytegfjedklebbfaa
set_option linter.unusedSimpArgs false
set_option linter.unusedVariables false
open Go Go.RowKit
attribute [local irreducible] AL AD AW OpOk Le AC thenQ blockQ EndQ

end Go.Proofs.Ytegfjedklebbfaa
end

section
namespace Go.Proofs.Ytegfjedklebbfaa
set_option linter.unusedSimpArgs false
set_option linter.unusedVariables false
open Go Go.RowKit
attribute [local irreducible] AL AD AW OpOk Le AC thenQ blockQ EndQ

def mkF (k : Int) : Nat → Int := fun j => k + (j : Int)
def offT (t : List (List Int)) (i : Nat) : Nat := ((t.take i).map List.length).sum
def mkRow (k : Int) (r : List Int) : List Int := rowF r.length (mkF k)
def mkAt (t : List (List Int)) (k : Int) (i : Nat) : List (List Int) := t.mapIdx fun j r => if j < i then mkRow (k + offT t j) r else r
theorem mkAt_len {t : List (List Int)} {k : Int} {i : Nat} : (mkAt t k i).length = t.length := by simp [mkAt]
end Go.Proofs.Ytegfjedklebbfaa
end

section
namespace Go.Proofs.Ytegfjedklebbfaa
set_option linter.unusedSimpArgs false
set_option linter.unusedVariables false
open Go Go.RowKit
attribute [local irreducible] AL AD AW OpOk Le AC thenQ blockQ EndQ

end Go.Proofs.Ytegfjedklebbfaa
end

section
namespace Go.Proofs.Ytegfjedklebbfaa
set_option linter.unusedSimpArgs false
set_option linter.unusedVariables false
open Go Go.RowKit
attribute [local irreducible] AL AD AW OpOk Le AC thenQ blockQ EndQ

def isCr (s : Nat → Nat → Int) (u1 u2 : Int) (p : Pl) : Bool := !decide (s p.f.toNat p.t.toNat = BOT) && decide (pw u1 u2 p + s p.f.toNat p.t.toNat = 0)
end Go.Proofs.Ytegfjedklebbfaa
end

section
namespace Go.Proofs.Ytegfjedklebbfaa
set_option linter.unusedSimpArgs false
set_option linter.unusedVariables false
open Go Go.RowKit

theorem growC_pre {xs : List Pl} {rn rd over : Int} : ∀ {k : Nat} {l : List Nat}, growC xs rn rd over k l ≠ [] → ∃ e, growC xs rn rd over k l = l ++ e
  | 0, _, h => by simp [growC] at h
  | k + 1, l, h => by
    unfold growC at h ⊢
    split
    · rename_i h1
      rw [if_pos h1] at h
      split
      · exact ⟨[], by simp⟩
      · rename_i h2; rw [if_neg h2] at h; exact absurd rfl h
    · rename_i h1
      rw [if_neg h1] at h
      obtain ⟨i, hi, h2, h3⟩ := tryAll_mem h
      rw [h3]
      split at h2
      · exact absurd rfl h2
      · rename_i hs
        rw [if_neg hs]
        obtain ⟨e, he⟩ := growC_pre h2
        exact ⟨i :: e, by rw [he]; simp⟩
theorem star_super {W : Nat → Nat → Int} {n : Nat} {s : Nat → Nat → Int} (hs : StarOk W n s) {u m v : Nat} (hu : u < n) (hm : m < n) (hv : v < n) (h1 : s m u ≠ BOT) (h2 : s v m ≠ BOT) : s v u ≠ BOT ∧ s m u + s v m ≤ s v u := by
  rcases hs.some u m hu hm with e | ⟨e, e2⟩ | ⟨c, c1, c2, c3⟩
  · exact absurd e h1
  · subst e; exact ⟨h2, by omega⟩
  · rcases hs.some m v hm hv with e | ⟨e, e2⟩ | ⟨c', d1, d2, d3⟩
    · exact absurd e h2
    · subst e; exact ⟨h1, by omega⟩
    · have := hs.all u v (c ++ m :: c') hu hv (fun x hx => by
        rcases List.mem_append.1 hx with h | h
        · exact c2 x h
        · rcases List.mem_cons.1 h with rfl | h
          · exact hm
          · exact d2 x h) (WM.app.2 ⟨c1, d1⟩)
      rw [wM_app] at this
      exact ⟨this.1, by omega⟩
theorem wk_wm {n : Nat} {xs : List Pl} {r : Int × Int} {t : List (List Int)} (hw : WmOk n xs r t) (hv : ∀ p ∈ xs, okPl n p) : ∀ {c : List Nat} {u v : Int}, Wk xs u c v → c ≠ [] → ∃ c', WM (entN t) u.toNat c' v.toNat ∧ (∀ x ∈ c', x < n) ∧ wgt xs r.1 r.2 c ≤ wM (entN t) u.toNat c' v.toNat
  | [], _, _, _, h => absurd rfl h
  | [i], u, v, ⟨h1, h2, h3⟩, _ => by
    have hp : plA xs i ∈ xs := by
      have e : plA xs i = xs[i] := by simp [plA, h1]
      rw [e]; exact List.getElem_mem h1
    have ha := hw.all _ hp
    have h3' : (plA xs i).t = v := h3
    subst h2 h3'
    exact ⟨[], ha.1, by simp, by simp only [wgt, wM]; omega⟩
  | i :: j :: c, u, v, ⟨h1, h2, h3⟩, _ => by
    have hp : plA xs i ∈ xs := by
      have e : plA xs i = xs[i] := by simp [plA, h1]
      rw [e]; exact List.getElem_mem h1
    have ha := hw.all _ hp
    obtain ⟨c', g1, g2, g3⟩ := wk_wm hw hv h3 (by simp)
    obtain ⟨_, ⟨k1, k2⟩, _⟩ := hv _ hp
    subst h2
    refine ⟨(plA xs i).t.toNat :: c', ⟨ha.1, g1⟩, fun x hx => ?_, ?_⟩
    · rcases List.mem_cons.1 hx with rfl | h
      · omega
      · exact g2 x h
    · have e : wgt xs r.1 r.2 (i :: j :: c) = pw r.1 r.2 (plA xs i) + wgt xs r.1 r.2 (j :: c) := rfl
      rw [e]
      simp only [wM]
      omega
/-- What is held of the weights, their star and the greatest ratio. -/
structure CrOk (xs : List Pl) (n : Nat) (r : Int × Int) (s : Nat → Nat → Int) : Prop where
  v : ∀ p ∈ xs, okPl n p
  mx : MaxR xs r
  w : WmOk n xs r (wmT n xs r)
  np : NoPos (entN (wmT n xs r)) n
  st : StarOk (entN (wmT n xs r)) n s
abbrev crB (xs : List Pl) (r : Int × Int) (s : Nat → Nat → Int) (i : Nat) : Bool := isCr s r.1 r.2 (plA xs i)
theorem crB_iff {xs : List Pl} {r : Int × Int} {s : Nat → Nat → Int} {i : Nat} : crB xs r s i = true ↔ s (plA xs i).f.toNat (plA xs i).t.toNat ≠ BOT ∧ pw r.1 r.2 (plA xs i) + s (plA xs i).f.toNat (plA xs i).t.toNat = 0 := by
  unfold crB isCr
  simp
theorem CrOk.at {xs : List Pl} {n : Nat} {r : Int × Int} {s : Nat → Nat → Int} (h : CrOk xs n r s) {i : Nat} (hi : i < xs.length) : (0 ≤ (plA xs i).f ∧ (plA xs i).f.toNat < n) ∧ (0 ≤ (plA xs i).t ∧ (plA xs i).t.toNat < n) ∧ plA xs i ∈ xs := by
  have hp : plA xs i ∈ xs := by
    have e : plA xs i = xs[i] := by simp [plA, hi]
    rw [e]; exact List.getElem_mem hi
  obtain ⟨⟨k1, k2⟩, ⟨k3, k4⟩, _⟩ := h.v _ hp
  exact ⟨⟨k1, by omega⟩, ⟨k3, by omega⟩, hp⟩
theorem CrOk.crit {xs : List Pl} {n : Nat} {r : Int × Int} {s : Nat → Nat → Int} (h : CrOk xs n r s) {c : List Nat} (hc : Circ xs c) (hz : wgt xs r.1 r.2 c = 0) {i : Nat} (hi : i ∈ c) : crB xs r s i = true := by
  have hil := hc.wk.lt i hi
  obtain ⟨⟨k1, k2⟩, ⟨k3, k4⟩, hp⟩ := h.at hil
  obtain ⟨a, b, rfl⟩ := List.append_of_mem hi
  obtain ⟨m, w1, w2, w3, w4⟩ := Wk.app.1 hc.wk
  have hwk : Wk xs (plA xs i).t (b ++ a) (plA xs i).f := Wk.app.2 ⟨_, w4, w3 ▸ w1⟩
  have hwt : wgt xs r.1 r.2 (b ++ a) = - pw r.1 r.2 (plA xs i) := by
    rw [wgt_app] at hz ⊢
    have e : wgt xs r.1 r.2 (i :: b) = pw r.1 r.2 (plA xs i) + wgt xs r.1 r.2 b := rfl
    omega
  rw [crB_iff]
  by_cases hne : b ++ a = []
  · rw [hne] at hwk hwt
    have e : (plA xs i).t = (plA xs i).f := hwk
    have hd := star_dia0 h.np h.st.some h.st.dia k2
    have hd2 := (h.st.dia _ k2).1
    rw [e, hd]
    have e0 : wgt xs r.1 r.2 ([] : List Nat) = 0 := rfl
    exact ⟨by decide, by omega⟩
  · obtain ⟨c', g1, g2, g3⟩ := wk_wm h.w h.v hwk hne
    have ha := h.st.all _ _ c' k4 k2 g2 g1
    have hg := gap_nn h.w h.np h.st (f := (plA xs i).f.toNat) (u := (plA xs i).t.toNat) k2 k4 hp (by omega) (by omega) ha.1
    exact ⟨ha.1, by omega⟩
theorem CrOk.back {xs : List Pl} {n : Nat} {r : Int × Int} {s : Nat → Nat → Int} (h : CrOk xs n r s) : ∀ {c : List Nat} {u v : Int}, Wk xs u c v → c ≠ [] → (∀ i ∈ c, crB xs r s i = true) → (v.toNat < n) ∧ s u.toNat v.toNat ≠ BOT ∧ - wgt xs r.1 r.2 c ≤ s u.toNat v.toNat
  | [], _, _, _, hn, _ => absurd rfl hn
  | [i], u, v, ⟨h1, h2, h3⟩, _, ha => by
    have h3' : (plA xs i).t = v := h3
    subst h2 h3'
    have hcr := crB_iff.1 (ha i (by simp))
    refine ⟨(h.at h1).2.1.2, hcr.1, ?_⟩
    have e : wgt xs r.1 r.2 [i] = pw r.1 r.2 (plA xs i) + 0 := rfl
    omega
  | i :: j :: c, u, v, ⟨h1, h2, h3⟩, _, ha => by
    obtain ⟨g0, g1, g2⟩ := h.back h3 (by simp) (fun x hx => ha x (by simp [hx]))
    obtain ⟨⟨k1, k2⟩, ⟨k3, k4⟩, hp⟩ := h.at h1
    have hcr := crB_iff.1 (ha i (by simp))
    subst h2
    have := star_super h.st (u := v.toNat) (m := (plA xs i).t.toNat) (v := (plA xs i).f.toNat) g0 k4 k2 g1 hcr.1
    have e : wgt xs r.1 r.2 (i :: j :: c) = pw r.1 r.2 (plA xs i) + wgt xs r.1 r.2 (j :: c) := rfl
    exact ⟨g0, this.1, by omega⟩
theorem CrOk.zero {xs : List Pl} {n : Nat} {r : Int × Int} {s : Nat → Nat → Int} (h : CrOk xs n r s) {c : List Nat} (hc : Circ xs c) (ha : ∀ i ∈ c, crB xs r s i = true) : wgt xs r.1 r.2 c = 0 := by
  obtain ⟨g0, g1, g2⟩ := h.back hc.wk hc.ne ha
  have hd := star_dia0 h.np h.st.some h.st.dia g0
  have := h.mx.le c hc
  omega
theorem CrOk.none {xs : List Pl} {n : Nat} {r : Int × Int} {s : Nat → Nat → Int} (h : CrOk xs n r s) {k : Nat} {l : List Nat} (hp : PathC xs l) {i : Nat} (hi : i ∈ l) (hcr : crB xs r s i = false) : growC xs r.1 r.2 (-1) k l = [] := by
  refine Classical.byContradiction fun hne => ?_
  obtain ⟨g1, g2⟩ := growC_sound hp hne
  obtain ⟨e, he⟩ := growC_pre hne
  have hz : wgt xs r.1 r.2 (growC xs r.1 r.2 (-1) k l) = 0 := by
    have := h.mx.le _ g1; omega
  have := h.crit g1 hz (i := i) (by rw [he]; simp [hi])
  rw [hcr] at this; cases this
theorem PathC.circ {xs : List Pl} {l : List Nat} (hp : PathC xs l) (h : lastT xs l = firstF xs l) : Circ xs l := ⟨hp.ne, by have := hp.wk; rwa [h] at this, hp.nd, hp.mn⟩
end Go.Proofs.Ytegfjedklebbfaa
end

section
namespace Go.Proofs.Ytegfjedklebbfaa
set_option linter.unusedSimpArgs false
set_option linter.unusedVariables false
open Go Go.RowKit
attribute [local irreducible] AL AD AW OpOk Le AC thenQ blockQ EndQ

end Go.Proofs.Ytegfjedklebbfaa
end

section
namespace Go.Proofs.Ytegfjedklebbfaa
set_option linter.unusedSimpArgs false
set_option linter.unusedVariables false
open Go Go.RowKit
attribute [local irreducible] AL AD AW OpOk Le AC thenQ blockQ EndQ

end Go.Proofs.Ytegfjedklebbfaa
end

section
namespace Go.Proofs.Ytegfjedklebbfaa
set_option linter.unusedSimpArgs false
set_option linter.unusedVariables false
open Go Go.RowKit
attribute [local irreducible] AL AD AW OpOk Le AC thenQ blockQ EndQ

/-- What the entries and the vector must be for the machine's sums. -/
structure ApOk (f : Nat → Nat → Int) (v : Nat → Int) (m n : Nat) : Prop where
  f : ∀ i j, i < m → j < n → f i j = BOT ∨ (-1000000000000000000 ≤ f i j ∧ f i j ≤ 1000000000000000000)
  v : ∀ j, j < n → v j = BOT ∨ (-1000000000000000000 ≤ v j ∧ v j ≤ 1000000000000000000)
end Go.Proofs.Ytegfjedklebbfaa
end

section
namespace Go.Proofs.Ytegfjedklebbfaa
set_option linter.unusedSimpArgs false
set_option linter.unusedVariables false
open Go Go.RowKit
attribute [local irreducible] AL AD AW OpOk Le AC thenQ blockQ EndQ

def isVal (a : Int) : Bool := decide (a = BOT) || wi a (-1000000) 1000000
theorem l01Finite_ac (a : Int) : AC Try.prog 205 [I a] H0 (Bo (wi a (-1000000) 1000000)) H0 := by
  have hI := l01In_ac a (-1000000) 1000000
  refine AC.of_body 0 Try.func205 rfl (fun l h => absurd rfl h) (fun C hC => ?_)
  have hD : ∀ l, ¬ C.D0 l := fun l h => (hC l).1 h rfl
  simp only [startFr, Try.ntmps205, List.length_cons, List.length_nil, Nat.reduceAdd, Nat.reduceSub, List.replicate_succ, List.replicate_zero, List.cons_append, List.nil_append]
  repeat' (first | refine Qa ?_ | ((first | apply Ba | (apply Bb; (· rfl); (· rfl)) | (apply Bc; (· exact nxE)) | (apply Bd; (· rfl); (· rfl); (· exact nxE))); (· first | exact Kz rfl rfl (hI) (Ad (Ad (Ad An))) | exact Ok.pe); (first | refine Na ?_ | refine Nb ?_)) | ((first | apply Ca | (apply Cb; (· exact nxE))); (· first | exact Ok.e0); (first | refine Nc ?_ | refine Nd ?_)) | refine Oa ?_ | refine Ob ?_ | ((first | refine Ga (fun h => ?_) (fun h => ?_) | refine AD.gsplit rfl rfl (fun h => ?_) (fun h => ?_)) <;> try (exfalso; omega; done)) | (first | refine AL.gsplitB rfl rfl (fun h => ?_) (fun h => ?_) | refine AD.gsplitB rfl rfl (fun h => ?_) (fun h => ?_)) | refine Fa ?_ | refine Qb ?_ | refine Qc ?_ | refine Qd ?_ | refine Fb ?_ | refine Qe ?_ | refine Wa ?_ | refine Wb ?_ | (refine AW.ite rfl (fun h => ?_) (fun h => ?_) <;> try (exfalso; omega; done)) | refine AW.cond _ rfl (fun h => ?_) (fun h => ?_) | refine Qf ?_ | refine Qg ?_ | refine Qh ?_ | refine Qi ?_ | refine Xa ?_ | refine Xb ?_ | refine Xc ?_ | refine Xd ?_ | refine Fc ?_)
  refine Ya ?_
  (apply Le.headZ (hs := []) [] rfl)
  all_goals (try dsimp only [srcs])
  (case' hfr => (repeat' (first | refine La ?_ ?_ | exact Lc | refine Lo ?_ | refine ⟨⟨_, rfl, ?_⟩, ?_⟩ | refine ObA.box ?_ | refine ObA.frE ?_ | refine ObA.dataE ?_ | refine ARs.agg ?_ | refine ARs.tup ?_ | refine AR.b ?_ | refine AR.iE ?_ | refine AR.e ?_ | refine AR.clo' ARs.nil ?_)))
  all_goals (first | exact Ld | exact trivial | (rfl))
theorem sIsValue_ac (a : Int) : AC Try.prog 273 [I a] H0 (Bo (isVal a)) H0 := by
  have hF := l01Finite_ac a
  unfold isVal BOT
  by_cases h : a = -1000000000000000
  · rw [decide_eq_true h]
    subst h
    refine AC.of_body 0 Try.func273 rfl (fun l h => absurd rfl h) (fun C hC => ?_)
    have hD : ∀ l, ¬ C.D0 l := fun l h => (hC l).1 h rfl
    simp only [startFr, Try.ntmps273, List.length_cons, List.length_nil, Nat.reduceAdd, Nat.reduceSub, List.replicate_succ, List.replicate_zero, List.cons_append, List.nil_append]
    repeat' (first | refine Qa ?_ | ((first | apply Ba | (apply Bb; (· rfl); (· rfl)) | (apply Bc; (· exact nxE)) | (apply Bd; (· rfl); (· rfl); (· exact nxE))); (· first | exact Ok.pe); (first | refine Na ?_ | refine Nb ?_)) | ((first | apply Ca | (apply Cb; (· exact nxE))); (· first | exact Ok.e0); (first | refine Nc ?_ | refine Nd ?_)) | refine Oa ?_ | refine Ob ?_ | ((first | refine Ga (fun h => ?_) (fun h => ?_) | refine AD.gsplit rfl rfl (fun h => ?_) (fun h => ?_)) <;> try (exfalso; omega; done)) | (first | refine AL.gsplitB rfl rfl (fun h => ?_) (fun h => ?_) | refine AD.gsplitB rfl rfl (fun h => ?_) (fun h => ?_)) | refine Fa ?_ | refine Qb ?_ | refine Qc ?_ | refine Qd ?_ | refine Fb ?_ | refine Qe ?_ | refine Wa ?_ | refine Wb ?_ | (refine AW.ite rfl (fun h => ?_) (fun h => ?_) <;> try (exfalso; omega; done)) | refine AW.cond _ rfl (fun h => ?_) (fun h => ?_) | refine Qf ?_ | refine Qg ?_ | refine Qh ?_ | refine Qi ?_ | refine Xa ?_ | refine Xb ?_ | refine Xc ?_ | refine Xd ?_ | refine Fc ?_)
    refine Ya ?_
    (apply Le.headZ (hs := []) [] rfl)
    all_goals (try dsimp only [srcs])
    (case' hfr => (repeat' (first | refine La ?_ ?_ | exact Lc | refine Lo ?_ | refine ⟨⟨_, rfl, ?_⟩, ?_⟩ | refine ObA.box ?_ | refine ObA.frE ?_ | refine ObA.dataE ?_ | refine ARs.agg ?_ | refine ARs.tup ?_ | refine AR.b ?_ | refine AR.iE ?_ | refine AR.e ?_ | refine AR.clo' ARs.nil ?_)))
    all_goals (first | exact Ld | exact trivial | (rfl))
  · rw [decide_eq_false h]
    refine AC.of_body 0 Try.func273 rfl (fun l h => absurd rfl h) (fun C hC => ?_)
    have hD : ∀ l, ¬ C.D0 l := fun l h => (hC l).1 h rfl
    simp only [startFr, Try.ntmps273, List.length_cons, List.length_nil, Nat.reduceAdd, Nat.reduceSub, List.replicate_succ, List.replicate_zero, List.cons_append, List.nil_append]
    repeat' (first | refine Qa ?_ | ((first | apply Ba | (apply Bb; (· rfl); (· rfl)) | (apply Bc; (· exact nxE)) | (apply Bd; (· rfl); (· rfl); (· exact nxE))); (· first | exact Kz rfl rfl (hF) (Ad An) | exact Ok.pe); (first | refine Na ?_ | refine Nb ?_)) | ((first | apply Ca | (apply Cb; (· exact nxE))); (· first | exact Ok.e0); (first | refine Nc ?_ | refine Nd ?_)) | refine Oa ?_ | refine Ob ?_ | ((first | refine Ga (fun h => ?_) (fun h => ?_) | refine AD.gsplit rfl rfl (fun h => ?_) (fun h => ?_)) <;> try (exfalso; omega; done)) | (first | refine AL.gsplitB rfl rfl (fun h => ?_) (fun h => ?_) | refine AD.gsplitB rfl rfl (fun h => ?_) (fun h => ?_)) | refine Fa ?_ | refine Qb ?_ | refine Qc ?_ | refine Qd ?_ | refine Fb ?_ | refine Qe ?_ | refine Wa ?_ | refine Wb ?_ | (refine AW.ite rfl (fun h => ?_) (fun h => ?_) <;> try (exfalso; omega; done)) | refine AW.cond _ rfl (fun h => ?_) (fun h => ?_) | refine Qf ?_ | refine Qg ?_ | refine Qh ?_ | refine Qi ?_ | refine Xa ?_ | refine Xb ?_ | refine Xc ?_ | refine Xd ?_ | refine Fc ?_)
    all_goals
      refine Ya ?_
      (apply Le.headZ (hs := []) [] rfl)
      all_goals (try dsimp only [srcs])
      (case' hfr => (repeat' (first | refine La ?_ ?_ | exact Lc | refine Lo ?_ | refine ⟨⟨_, rfl, ?_⟩, ?_⟩ | refine ObA.box ?_ | refine ObA.frE ?_ | refine ObA.dataE ?_ | refine ARs.agg ?_ | refine ARs.tup ?_ | refine AR.b ?_ | refine AR.iE ?_ | refine AR.e ?_ | refine AR.clo' ARs.nil ?_)))
      all_goals (first | exact Ld | exact trivial | (rfl))
set_option maxHeartbeats 1000000 in
theorem l01All_ac (xs : List Int) (hn : xs.length ≤ 100000000) : AC Try.prog 265 [IL xs, Bo true] H0 (Bo (xs.all fun a => isVal a && !decide (a = BOT))) H0 := by
  refine AC.of_body 0 Try.func265 rfl (fun l h => absurd rfl h) (fun C hC => ?_)
  have hD : ∀ l, ¬ C.D0 l := fun l h => (hC l).1 h rfl
  simp only [startFr, Try.ntmps265, List.length_cons, List.length_nil, Nat.reduceAdd, Nat.reduceSub, List.replicate_succ, List.replicate_zero, List.cons_append, List.nil_append]
  repeat' (first | refine Qa ?_ | ((first | apply Ba | (apply Bb; (· rfl); (· rfl)) | (apply Bc; (· exact nxE)) | (apply Bd; (· rfl); (· rfl); (· exact nxE))); (· first | exact Ok.pe); (first | refine Na ?_ | refine Nb ?_)) | ((first | apply Ca | (apply Cb; (· exact nxE))); (· first | exact Ok.e0); (first | refine Nc ?_ | refine Nd ?_)) | refine Oa ?_ | refine Ob ?_ | ((first | refine Ga (fun h => ?_) (fun h => ?_) | refine AD.gsplit rfl rfl (fun h => ?_) (fun h => ?_)) <;> try (exfalso; omega; done)) | (first | refine AL.gsplitB rfl rfl (fun h => ?_) (fun h => ?_) | refine AD.gsplitB rfl rfl (fun h => ?_) (fun h => ?_)) | refine Fa ?_ | refine Qb ?_ | refine Qc ?_ | refine Qd ?_ | refine Fb ?_ | refine Qe ?_ | refine Wa ?_ | refine Wb ?_ | (refine AW.ite rfl (fun h => ?_) (fun h => ?_) <;> try (exfalso; omega; done)) | refine AW.cond _ rfl (fun h => ?_) (fun h => ?_) | refine Qf ?_ | refine Qg ?_ | refine Qh ?_ | refine Qi ?_ | refine Xa ?_ | refine Xb ?_ | refine Xc ?_ | refine Xd ?_ | refine Fc ?_)
  refine AW.loop (X := {k : Nat // k ≤ xs.length ∧ xs.all (fun a => isVal a && !decide (a = BOT)) = (xs.drop k).all (fun a => isVal a && !decide (a = BOT))}) (fun k => ⟨[IL xs, Bo true, Oo, Oo, Oo, I (k.1 : Nat), Oo, Oo, Oo, Oo, Oo, Oo, Oo, Oo, Oo, Oo, Oo, Oo, Oo, Oo, Oo, Oo, Oo, Oo, Oo, Oo, Oo, Oo], heapL [], 900⟩) (fun k => xs.length - k.1) ⟨0, Nat.zero_le _, by simp⟩ ?_ (fun k => ?_)
  ·
    (apply Le.headZ [] rfl)
    all_goals (try dsimp only [srcs])
    (case' hfr | hob => (repeat' (first | refine La ?_ ?_ | exact Lc | refine Lo ?_ | refine ⟨⟨_, rfl, ?_⟩, ?_⟩ | refine ObA.box ?_ | refine ObA.frE ?_ | refine ObA.dataE ?_ | refine ARs.agg ?_ | refine ARs.tup ?_ | refine AR.b ?_ | refine AR.iE ?_ | refine AR.e ?_ | refine AR.clo' ARs.nil ?_)))
    all_goals (first | (rfl) | exact Ld)
  obtain ⟨k, hk, hall⟩ := k
  simp only
  by_cases hlt : k < xs.length
  · obtain ⟨x, hx⟩ : ∃ x, xs[k]? = some x := ⟨xs[k], by simp⟩
    have hrow := IR_get hx
    have hV := sIsValue_ac x
    have hno := fun h => all_no (f := fun a => isVal a && !decide (a = BOT)) hx h
    have hyes := fun h => all_step (f := fun a => isVal a && !decide (a = BOT)) hx hall h
    cases hvx : isVal x
    · rw [hvx] at hV
      rw [hno (by rw [hvx]; rfl)]
      repeat' (first | refine Qa ?_ | ((first | apply Ba | (apply Bb; (· rfl); (· rfl)) | (apply Bc; (· exact nxE)) | (apply Bd; (· rfl); (· rfl); (· exact nxE))); (· first | exact Kz rfl rfl (hV) (Ad An) | exact Ok.pe); (first | refine Na ?_ | refine Nb ?_)) | ((first | apply Ca | (apply Cb; (· exact nxE))); (· first | exact Ok.e0); (first | refine Nc ?_ | refine Nd ?_)) | refine Oa ?_ | refine Ob ?_ | ((first | refine Ga (fun h => ?_) (fun h => ?_) | refine AD.gsplit rfl rfl (fun h => ?_) (fun h => ?_)) <;> try (exfalso; omega; done)) | (first | refine AL.gsplitB rfl rfl (fun h => ?_) (fun h => ?_) | refine AD.gsplitB rfl rfl (fun h => ?_) (fun h => ?_)) | refine Fa ?_ | refine Qb ?_ | refine Qc ?_ | refine Qd ?_ | refine Fb ?_ | refine Qe ?_ | refine Wa ?_ | refine Wb ?_ | (refine AW.ite rfl (fun h => ?_) (fun h => ?_) <;> try (exfalso; omega; done)) | refine AW.cond _ rfl (fun h => ?_) (fun h => ?_) | refine Qf ?_ | refine Qg ?_ | refine Qh ?_ | refine Qi ?_ | refine Xa ?_ | refine Xb ?_ | refine Xc ?_ | refine Xd ?_ | refine Fc ?_)
      refine Ya ?_
      (apply Le.headZ (hs := []) [] rfl)
      all_goals (try dsimp only [srcs])
      (case' hfr => (repeat' (first | refine La ?_ ?_ | exact Lc | refine Lo ?_ | refine ⟨⟨_, rfl, ?_⟩, ?_⟩ | refine ObA.box ?_ | refine ObA.frE ?_ | refine ObA.dataE ?_ | refine ARs.agg ?_ | refine ARs.tup ?_ | refine AR.b ?_ | refine AR.iE ?_ | refine AR.e ?_ | refine AR.clo' ARs.nil ?_)))
      all_goals (first | exact Ld | exact trivial | (rfl))
    · rw [hvx] at hV
      by_cases hb : x = BOT
      · rw [hno (by rw [decide_eq_true hb]; simp)]
        unfold BOT at hb
        repeat' (first | refine Qa ?_ | ((first | apply Ba | (apply Bb; (· rfl); (· rfl)) | (apply Bc; (· exact nxE)) | (apply Bd; (· rfl); (· rfl); (· exact nxE))); (· first | exact Kz rfl rfl (hV) (Ad An) | exact Ok.pe); (first | refine Na ?_ | refine Nb ?_)) | ((first | apply Ca | (apply Cb; (· exact nxE))); (· first | exact Ok.e0); (first | refine Nc ?_ | refine Nd ?_)) | refine Oa ?_ | refine Ob ?_ | ((first | refine Ga (fun h => ?_) (fun h => ?_) | refine AD.gsplit rfl rfl (fun h => ?_) (fun h => ?_)) <;> try (exfalso; omega; done)) | (first | refine AL.gsplitB rfl rfl (fun h => ?_) (fun h => ?_) | refine AD.gsplitB rfl rfl (fun h => ?_) (fun h => ?_)) | refine Fa ?_ | refine Qb ?_ | refine Qc ?_ | refine Qd ?_ | refine Fb ?_ | refine Qe ?_ | refine Wa ?_ | refine Wb ?_ | (refine AW.ite rfl (fun h => ?_) (fun h => ?_) <;> try (exfalso; omega; done)) | refine AW.cond _ rfl (fun h => ?_) (fun h => ?_) | refine Qf ?_ | refine Qg ?_ | refine Qh ?_ | refine Qi ?_ | refine Xa ?_ | refine Xb ?_ | refine Xc ?_ | refine Xd ?_ | refine Fc ?_)
        refine Ya ?_
        (apply Le.headZ (hs := []) [] rfl)
        all_goals (try dsimp only [srcs])
        (case' hfr => (repeat' (first | refine La ?_ ?_ | exact Lc | refine Lo ?_ | refine ⟨⟨_, rfl, ?_⟩, ?_⟩ | refine ObA.box ?_ | refine ObA.frE ?_ | refine ObA.dataE ?_ | refine ARs.agg ?_ | refine ARs.tup ?_ | refine AR.b ?_ | refine AR.iE ?_ | refine AR.e ?_ | refine AR.clo' ARs.nil ?_)))
        all_goals (first | exact Ld | exact trivial | (rfl))
      · have hy := hyes (by rw [hvx, decide_eq_false hb]; rfl)
        unfold BOT at hb
        repeat' (first | refine Qa ?_ | ((first | apply Ba | (apply Bb; (· rfl); (· rfl)) | (apply Bc; (· exact nxE)) | (apply Bd; (· rfl); (· rfl); (· exact nxE))); (· first | exact Kz rfl rfl (hV) (Ad An) | exact Ok.pe); (first | refine Na ?_ | refine Nb ?_)) | ((first | apply Ca | (apply Cb; (· exact nxE))); (· first | exact Ok.e0); (first | refine Nc ?_ | refine Nd ?_)) | refine Oa ?_ | refine Ob ?_ | ((first | refine Ga (fun h => ?_) (fun h => ?_) | refine AD.gsplit rfl rfl (fun h => ?_) (fun h => ?_)) <;> try (exfalso; omega; done)) | (first | refine AL.gsplitB rfl rfl (fun h => ?_) (fun h => ?_) | refine AD.gsplitB rfl rfl (fun h => ?_) (fun h => ?_)) | refine Fa ?_ | refine Qb ?_ | refine Qc ?_ | refine Qd ?_ | refine Fb ?_ | refine Qe ?_ | refine Wa ?_ | refine Wb ?_ | (refine AW.ite rfl (fun h => ?_) (fun h => ?_) <;> try (exfalso; omega; done)) | refine AW.cond _ rfl (fun h => ?_) (fun h => ?_) | refine Qf ?_ | refine Qg ?_ | refine Qh ?_ | refine Qi ?_ | refine Xa ?_ | refine Xb ?_ | refine Xc ?_ | refine Xd ?_ | refine Fc ?_)
        refine ⟨⟨k + 1, by omega, hy⟩, ?_, by simp only; omega⟩
        (apply Le.headZ [] rfl)
        all_goals (try dsimp only [srcs])
        (case' hfr | hob => (repeat' (first | refine La ?_ ?_ | exact Lc | refine Lo ?_ | refine ⟨⟨_, rfl, ?_⟩, ?_⟩ | refine ObA.box ?_ | refine ObA.frE ?_ | refine ObA.dataE ?_ | refine ARs.agg ?_ | refine ARs.tup ?_ | refine AR.b ?_ | refine AR.iE ?_ | refine AR.e ?_ | refine AR.clo' ARs.nil ?_)))
        all_goals (first | (rfl) | exact Ld)
  · have hk' : k = xs.length := by omega
    rw [hk', List.drop_length] at hall
    rw [hall, List.all_nil]
    repeat' (first | refine Qa ?_ | ((first | apply Ba | (apply Bb; (· rfl); (· rfl)) | (apply Bc; (· exact nxE)) | (apply Bd; (· rfl); (· rfl); (· exact nxE))); (· first | exact Ok.pe); (first | refine Na ?_ | refine Nb ?_)) | ((first | apply Ca | (apply Cb; (· exact nxE))); (· first | exact Ok.e0); (first | refine Nc ?_ | refine Nd ?_)) | refine Oa ?_ | refine Ob ?_ | ((first | refine Ga (fun h => ?_) (fun h => ?_) | refine AD.gsplit rfl rfl (fun h => ?_) (fun h => ?_)) <;> try (exfalso; omega; done)) | (first | refine AL.gsplitB rfl rfl (fun h => ?_) (fun h => ?_) | refine AD.gsplitB rfl rfl (fun h => ?_) (fun h => ?_)) | refine Fa ?_ | refine Qb ?_ | refine Qc ?_ | refine Qd ?_ | refine Fb ?_ | refine Qe ?_ | refine Wa ?_ | refine Wb ?_ | (refine AW.ite rfl (fun h => ?_) (fun h => ?_) <;> try (exfalso; omega; done)) | refine AW.cond _ rfl (fun h => ?_) (fun h => ?_) | refine Qf ?_ | refine Qg ?_ | refine Qh ?_ | refine Qi ?_ | refine Xa ?_ | refine Xb ?_ | refine Xc ?_ | refine Xd ?_ | refine Fc ?_)
    refine Ya ?_
    (apply Le.headZ (hs := []) [] rfl)
    all_goals (try dsimp only [srcs])
    (case' hfr => (repeat' (first | refine La ?_ ?_ | exact Lc | refine Lo ?_ | refine ⟨⟨_, rfl, ?_⟩, ?_⟩ | refine ObA.box ?_ | refine ObA.frE ?_ | refine ObA.dataE ?_ | refine ARs.agg ?_ | refine ARs.tup ?_ | refine AR.b ?_ | refine AR.iE ?_ | refine AR.e ?_ | refine AR.clo' ARs.nil ?_)))
    all_goals (first | exact Ld | exact trivial | (rfl))
end Go.Proofs.Ytegfjedklebbfaa
end

section
namespace Go.Proofs.Ytegfjedklebbfaa
set_option linter.unusedSimpArgs false
set_option linter.unusedVariables false
open Go Go.RowKit
attribute [local irreducible] AL AD AW OpOk Le AC thenQ blockQ EndQ

/-- What a place asks of the firing k (counted from 0) of the event e. -/
def stP (k e : Nat) (F : Nat → Nat → Int) (p : Pl) : Nat → Nat → Int :=
  if p.t = (e : Int) ∧ p.k ≤ (k : Int) then fun a b => if a = k ∧ b = e then max (F k e) (F (k - p.k.toNat) p.f.toNat + p.d) else F a b else F
def stE (xs : List Pl) (k : Nat) (F : Nat → Nat → Int) (e : Nat) : Nat → Nat → Int := xs.foldl (stP k e) F
def stR (xs : List Pl) (ord : List Nat) (k : Nat) (F : Nat → Nat → Int) : Nat → Nat → Int := ord.foldl (stE xs k) F
def stN (s0 : Nat → Int) (k : Nat) (F : Nat → Nat → Int) : Nat → Nat → Int := fun a b => if a = k then s0 b else F a b
def stT (xs : List Pl) (ord : List Nat) (s0 : Nat → Int) : Nat → Nat → Nat → Int
  | 0 => fun _ _ => 0
  | k + 1 => stR xs ord k (stN s0 k (stT xs ord s0 k))
theorem stP_le {n k e : Nat} {F : Nat → Nat → Int} {p : Pl} {B : Int} (hp : okPl n p) (h : bndF F B) : bndF (stP k e F p) (B + 10000) := fun a b => by
  unfold stP
  have h1 := h a b
  have h2 := h k e
  have h3 := h (k - p.k.toNat) p.f.toNat
  have h4 := hp.2.2.1
  split
  · simp only; split <;> omega
  · omega
theorem stE_le {n k e : Nat} {xs : List Pl} (hv : ∀ p ∈ xs, okPl n p) {F : Nat → Nat → Int} {B : Int} (h : bndF F B) : ∀ q, bndF ((xs.take q).foldl (stP k e) F) (B + 10000 * (q : Int))
  | 0 => by simpa using h
  | q + 1 => by
    have ih := stE_le (k := k) (e := e) hv h q
    by_cases hq : q < xs.length
    · rw [take_fold (List.getElem?_eq_getElem hq)]
      intro a b
      have := stP_le (k := k) (e := e) (hv _ (List.getElem_mem hq)) ih a b
      omega
    · rw [List.take_of_length_le (by omega)]; rw [List.take_of_length_le (by omega)] at ih
      intro a b
      have := ih a b
      omega
theorem stR_le {n k : Nat} {xs : List Pl} (hv : ∀ p ∈ xs, okPl n p) (hx : xs.length ≤ 30) {ord : List Nat} {F : Nat → Nat → Int} {B : Int} (h : bndF F B) : ∀ J, bndF ((ord.take J).foldl (stE xs k) F) (B + 300000 * (J : Int))
  | 0 => by simpa using h
  | J + 1 => by
    have ih := stR_le (k := k) hv hx (ord := ord) h J
    by_cases hJ : J < ord.length
    · rw [take_fold (List.getElem?_eq_getElem hJ)]
      intro a b
      have := stE_le (k := k) (e := ord[J]) hv ih xs.length a b
      rw [List.take_length] at this
      have e : stE xs k ((ord.take J).foldl (stE xs k) F) ord[J] = xs.foldl (stP k ord[J]) ((ord.take J).foldl (stE xs k) F) := rfl
      rw [e]
      omega
    · rw [List.take_of_length_le (by omega)]; rw [List.take_of_length_le (by omega)] at ih
      intro a b
      have := ih a b
      omega
theorem stN_le {s0 : Nat → Int} {k : Nat} {F : Nat → Nat → Int} {B : Int} (hs : ∀ b, 0 ≤ s0 b ∧ s0 b ≤ B) (h : bndF F B) : bndF (stN s0 k F) B := fun a b => by
  unfold stN; split
  · exact hs b
  · exact h a b
theorem stT_le {n : Nat} {xs : List Pl} (hv : ∀ p ∈ xs, okPl n p) (hx : xs.length ≤ 30) {ord : List Nat} (ho : ord.length ≤ 10) {s0 : Nat → Int} (hs : ∀ b, 0 ≤ s0 b ∧ s0 b ≤ 1000000) : ∀ k, bndF (stT xs ord s0 k) (1000000 + 3000000 * (k : Int))
  | 0 => fun a b => by simp [stT]
  | k + 1 => fun a b => by
    have ih := stT_le hv hx ho hs k
    have h1 := stN_le (k := k) (s0 := s0) (fun b => by have := hs b; omega) ih
    have h2 := stR_le (k := k) hv hx (ord := ord) h1 ord.length a b
    rw [List.take_length] at h2
    simp only [stT, stR]
    omega
theorem stP_yes {k e : Nat} {F : Nat → Nat → Int} {p : Pl} {u w : Nat} (h1 : p.t = (e : Int)) (h2 : p.k = (w : Int)) (h3 : w ≤ k) (h4 : p.f = (u : Int)) : stP k e F p = fun a b => if a = k ∧ b = e then max (F k e) (F (k - w) u + p.d) else F a b := by
  unfold stP
  rw [if_pos ⟨h1, by omega⟩, h2, h4, Int.toNat_natCast, Int.toNat_natCast]
theorem stP_no {k e : Nat} {F : Nat → Nat → Int} {p : Pl} (h : ¬ (p.t = (e : Int) ∧ p.k ≤ (k : Int))) : stP k e F p = F := by
  unfold stP; rw [if_neg h]
theorem tabF_row1 {m n : Nat} {s0 : Nat → Int} {F : Nat → Nat → Int} : TR (tabF (m + 1) n (stN s0 m F)) = TR (tabF m n F) ++ [IR (rowF n s0)] := by
  have e : tabF (m + 1) n (stN s0 m F) = tabF m n F ++ [rowF n s0] := by
    unfold tabF
    rw [List.range_succ, List.map_append]
    congr 1
    · refine List.map_congr_left fun i hi => ?_
      have := List.mem_range.1 hi
      refine rowF_congr fun j _ => ?_
      unfold stN; rw [if_neg (by omega)]
    · simp only [List.map_cons, List.map_nil]
      congr 1
      exact rowF_congr fun j _ => by unfold stN; rw [if_pos rfl]
  rw [e]; exact List.map_append
theorem AR.ownL {H : Heap} {lent : Loc → Prop} {τ : Loc → Loc} {L : Loc → Prop} {k off n n' : Nat} {l l' : Loc} (hτ : τ l = l') (hn : n = n') (h : L l) : AR H lent τ L (.own k l off n) (.own k l' off n') := by
  subst hτ; subst hn; exact AR.own k l off n h
set_option maxHeartbeats 4000000 in
theorem l13Times_ac (n m : Nat) (xs : List Pl) (ord : List Nat) (s0 : Nat → Int) (hn : n ≤ 10) (hm : m ≤ 50) (hx : xs.length ≤ 30) (hv : ∀ p ∈ xs, okPl n p) (hord : ordR n xs = some ord) (hs : ∀ b, 0 ≤ s0 b ∧ s0 b ≤ 1000000) :
    AC Try.prog 264 [grD n xs, I m, IL (rowF n s0)] H0 (own1 1 m) (hpM 1 (TR (tabF m n (stT xs ord s0 m)))) := by
  have hO := l12Order_ac n xs ord hn (by omega) hv hord
  obtain ⟨hol, _, _⟩ := ord_idx hord
  have holt : ∀ e ∈ ord, e < n := (ordF_some OrdOk.nil hord).1.lt
  have hcl : (IR (cN ord)).length = n := by simp [hol]
  have hOw := l01Own_ac (rowF n s0) (by rw [rowF_len]; omega)
  have hrl0 : (rowF n s0).length = n := rowF_len
  rw [hrl0] at hOw
  refine AC.of_body 0 Try.func264 rfl (fun l h => absurd rfl h) (fun C hC => ?_)
  have hD : ∀ l, ¬ C.D0 l := fun l h => (hC l).1 h rfl
  simp only [startFr, Try.ntmps264, List.length_cons, List.length_nil, Nat.reduceAdd, Nat.reduceSub, List.replicate_succ, List.replicate_zero, List.cons_append, List.nil_append]
  repeat' (first | refine Qa ?_ | ((first | apply Ba | (apply Bb; (· rfl); (· rfl)) | (apply Bc; (· exact nxE)) | (apply Bd; (· rfl); (· rfl); (· exact nxE))); (· first | exact Kz rfl rfl (hO) (Aa (Ad (Ad An)) An) | exact Ok.pe); (first | refine Na ?_ | refine Nb ?_)) | ((first | apply Ca | (apply Cb; (· exact nxE))); (· first | exact Ok.e0); (first | refine Nc ?_ | refine Nd ?_)) | refine Oa ?_ | refine Ob ?_ | ((first | refine Ga (fun h => ?_) (fun h => ?_) | refine AD.gsplit rfl rfl (fun h => ?_) (fun h => ?_)) <;> try (exfalso; omega; done)) | (first | refine AL.gsplitB rfl rfl (fun h => ?_) (fun h => ?_) | refine AD.gsplitB rfl rfl (fun h => ?_) (fun h => ?_)) | refine Fa ?_ | refine Qb ?_ | refine Qc ?_ | refine Qd ?_ | refine Fb ?_ | refine Qe ?_ | refine Wa ?_ | refine Wb ?_ | (refine AW.ite rfl (fun h => ?_) (fun h => ?_) <;> try (exfalso; omega; done)) | refine AW.cond _ rfl (fun h => ?_) (fun h => ?_) | refine Qf ?_ | refine Qg ?_ | refine Qh ?_ | refine Qi ?_ | refine Xa ?_ | refine Xb ?_ | refine Xc ?_ | refine Xd ?_ | refine Fc ?_)
  refine AW.loop (X := {k : Nat // k ≤ m}) (fun k => ⟨[Oo, I m, IL (rowF n s0), Bx 2 0, Oo, Oo, Oo, IL (cN ord), .own 1 ⟨1, []⟩ 0 (k.1 : Nat), I (((k.1 : Nat) : Nat) + 1), Oo, Oo, Oo, Oo, Oo, Oo, Oo, Oo, Oo, Oo, Oo, Oo, Oo, Oo, Oo, Oo, Oo, Oo, Oo, Oo, Oo, Oo, Oo, Oo, Oo, Oo, Oo, Oo, Oo, Oo, Oo, Oo, Oo, Oo, Oo, Oo, Oo, Oo, Oo, Oo, Oo, Oo, Oo, Oo, Oo, Oo, Oo, Oo, Oo, Oo, Oo, Oo, Oo, Oo, Oo, Oo, Oo, Oo, Oo, Oo, Oo, Oo, Oo, Oo, Oo, Oo, Oo, Oo, Oo, Oo, Oo, Oo, Oo, Oo, Oo, Oo], heapX [(⟨0, []⟩, ⟨0, []⟩, ⟨2, [[I n, PL xs]]⟩)] [mi1 ⟨1, []⟩ (TR (tabF k.1 n (stT xs ord s0 k.1)))], 900⟩) (fun k => m - k.1) ⟨0, Nat.zero_le _⟩ ?_ (fun k => ?_)
  ·
    (apply Le.headG [_] [{ l := ⟨1, []⟩, k := 1, R := [], src := ⟨5, []⟩, base := ⟨5, []⟩ }] (fun _ => False))
    (case' hlen => rfl)
    (case' hms => rfl)
    all_goals (try dsimp only [srcs])
    (case' hfr | hob => (repeat' (first | refine La ?_ ?_ | exact Lc | refine Lo ?_ | refine ⟨⟨_, rfl, ?_⟩, ?_⟩ | refine ObA.box ?_ | refine ObA.frE ?_ | refine ObA.dataE ?_ | refine ARs.agg ?_ | refine ARs.tup ?_ | refine AR.b ?_ | refine AR.iE ?_ | refine AR.e ?_ | refine AR.clo' ARs.nil ?_)))
    (case' hok => first | exact ⟨MI.ok_same rfl (fun i x hx => by simp at hx), trivial⟩ | exact trivial)
    (case' hN => rfl)
    (case' hS => rfl)
    all_goals (first | exact Ld | (rfl))
  obtain ⟨i, hi⟩ := k
  simp only
  by_cases hlt : i < m
  · have hbT := stT_le hv hx (by omega : ord.length ≤ 10) hs i
    have hbN := stN_le (k := i) (s0 := s0) (fun b => by have := hs b; omega) hbT
    have hstT : stT xs ord s0 (i + 1) = ord.foldl (stE xs i) (stN s0 i (stT xs ord s0 i)) := rfl
    have htk : (TR (tabF i n (stT xs ord s0 i))).length = i := by rw [TR_len, tabF_len]
    have hrow1 := tabF_row1 (m := i) (n := n) (s0 := s0) (F := stT xs ord s0 i)
    repeat' (first | refine Qa ?_ | ((first | apply Ba | (apply Bb; (· rfl); (· rfl)) | (apply Bc; (· exact nxE)) | (apply Bd; (· rfl); (· rfl); (· exact nxE))); (· first | exact Eo rfl rfl (hOw) (Sd Sn) | exact Ok.appendT rfl rfl (by decide) rfl rfl rfl (by rw [outer_len, htk]; rfl) rfl rfl (by rfl) (by omega) (by omega) rfl | exact Ok.pe); (first | refine Na ?_ | refine Nb ?_)) | ((first | apply Ca | (apply Cb; (· exact nxE))); (· first | exact Eo rfl rfl (hOw) (Sd Sn) | exact Ok.appendT rfl rfl (by decide) rfl rfl rfl (by rw [outer_len, htk]; rfl) rfl rfl (by rfl) (by omega) (by omega) rfl | exact Ok.e0); (first | refine Nc ?_ | refine Nd ?_)) | refine Oa ?_ | refine Ob ?_ | ((first | refine Ga (fun h => ?_) (fun h => ?_) | refine AD.gsplit rfl rfl (fun h => ?_) (fun h => ?_)) <;> try (exfalso; omega; done)) | (first | refine AL.gsplitB rfl rfl (fun h => ?_) (fun h => ?_) | refine AD.gsplitB rfl rfl (fun h => ?_) (fun h => ?_)) | refine Fa ?_ | refine Qb ?_ | refine Qc ?_ | refine Qd ?_ | refine Fb ?_ | refine Qe ?_ | refine Wa ?_ | refine Wb ?_ | (refine AW.ite rfl (fun h => ?_) (fun h => ?_) <;> try (exfalso; omega; done)) | refine AW.cond _ rfl (fun h => ?_) (fun h => ?_) | refine Qf ?_ | refine Qg ?_ | refine Qh ?_ | refine Qi ?_ | refine Xa ?_ | refine Xb ?_ | refine Xc ?_ | refine Xd ?_ | refine Fc ?_)
    generalize stN s0 i (stT xs ord s0 i) = F0 at *
    refine AW.loop (X := {k : Nat // k ≤ n}) (fun k => ⟨[Oo, I m, IL (rowF n s0), Bx 2 0, Oo, Oo, Oo, IL (cN ord), .own 1 ⟨1, []⟩ 0 (i + 1), I ((i : Nat) + 1), .own 1 (Loc.at ⟨1, []⟩ i) 0 n, I (k.1 : Nat), Oo, Oo, Oo, Oo, Oo, Oo, Oo, Oo, Oo, Oo, Oo, Oo, Oo, Oo, Oo, Oo, Oo, Oo, Oo, Oo, Oo, Oo, Oo, Oo, Oo, Oo, Oo, Oo, Oo, Oo, Oo, Oo, Oo, Oo, Oo, Oo, Oo, Oo, Oo, Oo, Oo, Oo, Oo, Oo, Oo, Oo, Oo, Oo, Oo, Oo, Oo, Oo, Oo, Oo, Oo, Oo, Oo, Oo, Oo, Oo, Oo, Oo, Oo, Oo, Oo, Oo, Oo, Oo, Oo, Oo, Oo, Oo, Oo, Oo], heapX [(⟨0, []⟩, ⟨0, []⟩, ⟨2, [[I n, PL xs]]⟩)] [mi1 ⟨1, []⟩ (TR (tabF (i + 1) n ((ord.take k.1).foldl (stE xs i) F0)))], 900⟩) (fun k => n - k.1) ⟨0, Nat.zero_le _⟩ ?_ (fun k => ?_)
    ·
      (apply Le.headG [_] [{ l := ⟨1, []⟩, k := 1, R := TR (tabF (i + 1) n F0), src := ⟨909, []⟩, base := ⟨1, []⟩, cut := i, ext := some ⟨904, [0]⟩ }] (fun _ => False))
      (case' hlen => rfl)
      (case' hms => rfl)
      all_goals (try dsimp only [srcs])
      (case' hfr | hob => (repeat' (first | refine La ?_ ?_ | exact Lc | refine Lo ?_ | refine ⟨⟨_, rfl, ?_⟩, ?_⟩ | refine ObA.box ?_ | refine ObA.frE ?_ | refine ObA.dataE ?_ | refine ARs.agg ?_ | refine ARs.tup ?_ | refine AR.b ?_ | refine AR.iE ?_ | refine AR.e ?_ | refine AR.clo' ARs.nil ?_)))
      (case' hok => first | exact ⟨MI.ok_app hrow1 htk (by rw [IR_len, rowF_len]) rfl (Cg) rfl, trivial⟩ | exact trivial)
      (case' hN => rfl)
      (case' hS => rfl)
      all_goals (first | exact Ld | (first | exact AR.ownL (by simp [tauX, tauL, srcs, tauM, Loc.cov, Loc.at, MI.row]; done) rfl (by simp [heapX, heapM, upd, matG, srcs, Loc.cov, Loc.at, tabF_len, TR_len]; done) | (simp [AllP, tabF_len, TR_len]; done)))
    obtain ⟨J, hJ⟩ := k
    simp only
    by_cases hlt2 : J < n
    · obtain ⟨e, he⟩ : ∃ e, ord[J]? = some e := ⟨ord[J], by simp⟩
      have hen := holt e (List.mem_of_getElem? he)
      have hce := cN_get he
      have hbJ := stR_le (k := i) hv hx (ord := ord) hbN J
      have hstJ : (ord.take (J + 1)).foldl (stE xs i) F0 = xs.foldl (stP i e) ((ord.take J).foldl (stE xs i) F0) := take_fold he
      generalize (ord.take J).foldl (stE xs i) F0 = F1 at hbJ hstJ ⊢
      repeat' (first | refine Qa ?_ | ((first | apply Ba | (apply Bb; (· rfl); (· rfl)) | (apply Bc; (· exact nxE)) | (apply Bd; (· rfl); (· rfl); (· exact nxE))); (· first | exact Ok.pe); (first | refine Na ?_ | refine Nb ?_)) | ((first | apply Ca | (apply Cb; (· exact nxE))); (· first | exact Ok.e0); (first | refine Nc ?_ | refine Nd ?_)) | refine Oa ?_ | refine Ob ?_ | ((first | refine Ga (fun h => ?_) (fun h => ?_) | refine AD.gsplit rfl rfl (fun h => ?_) (fun h => ?_)) <;> try (exfalso; omega; done)) | (first | refine AL.gsplitB rfl rfl (fun h => ?_) (fun h => ?_) | refine AD.gsplitB rfl rfl (fun h => ?_) (fun h => ?_)) | refine Fa ?_ | refine Qb ?_ | refine Qc ?_ | refine Qd ?_ | refine Fb ?_ | refine Qe ?_ | refine Wa ?_ | refine Wb ?_ | (refine AW.ite rfl (fun h => ?_) (fun h => ?_) <;> try (exfalso; omega; done)) | refine AW.cond _ rfl (fun h => ?_) (fun h => ?_) | refine Qf ?_ | refine Qg ?_ | refine Qh ?_ | refine Qi ?_ | refine Xa ?_ | refine Xb ?_ | refine Xc ?_ | refine Xd ?_ | refine Fc ?_)
      refine AW.loop (X := {k : Nat // k ≤ xs.length}) (fun k => ⟨[Oo, I m, IL (rowF n s0), Bx 2 0, Oo, Oo, Oo, IL (cN ord), .own 1 ⟨1, []⟩ 0 (i + 1), I ((i : Nat) + 1), .own 1 (Loc.at ⟨1, []⟩ i) 0 n, I J, I (k.1 : Nat), Oo, Oo, Oo, Oo, Oo, Oo, Oo, Oo, Oo, Oo, Oo, Oo, Oo, Oo, Oo, Oo, Oo, Oo, Oo, Oo, Oo, Oo, Oo, Oo, Oo, Oo, Oo, Oo, Oo, Oo, Oo, Oo, Oo, Oo, Oo, Oo, Oo, Oo, Oo, Oo, Oo, Oo, Oo, Oo, Oo, Oo, Oo, Oo, Oo, Oo, Oo, Oo, Oo, Oo, Oo, Oo, Oo, Oo, Oo, Oo, Oo, Oo, Oo, Oo, Oo, Oo, Oo, Oo, Oo, Oo, Oo, Oo, Oo], heapX [(⟨0, []⟩, ⟨0, []⟩, ⟨2, [[I n, PL xs]]⟩)] [mi1 ⟨1, []⟩ (TR (tabF (i + 1) n ((xs.take k.1).foldl (stP i e) F1)))], 900⟩) (fun k => xs.length - k.1) ⟨0, Nat.zero_le _⟩ ?_ (fun k => ?_)
      ·
        (apply Le.headG [_] [mi1 ⟨1, []⟩ (TR (tabF (i + 1) n F1))] (fun _ => False))
        (case' hlen => rfl)
        (case' hms => rfl)
        all_goals (try dsimp only [srcs])
        (case' hfr | hob => (repeat' (first | refine La ?_ ?_ | exact Lc | refine Lo ?_ | refine ⟨⟨_, rfl, ?_⟩, ?_⟩ | refine ObA.box ?_ | refine ObA.frE ?_ | refine ObA.dataE ?_ | refine ARs.agg ?_ | refine ARs.tup ?_ | refine AR.b ?_ | refine AR.iE ?_ | refine AR.e ?_ | refine AR.clo' ARs.nil ?_)))
        (case' hok => first | exact ⟨MI.ok_same rfl (Cg), trivial⟩ | exact trivial)
        (case' hN => rfl)
        (case' hS => rfl)
        all_goals (first | exact Ld | (rfl))
      obtain ⟨q, hq⟩ := k
      simp only
      by_cases hlt3 : q < xs.length
      · obtain ⟨p, hp⟩ : ∃ p, xs[q]? = some p := ⟨xs[q], by simp⟩
        have hrow : (xs.map Pl.row)[((q : Nat) : Int).toNat]? = some [DI p.f, DI p.t, DI p.d, DI p.k] := row_get hp
        have hpo := hv p (List.mem_of_getElem? hp)
        have hbq := stE_le (k := i) (e := e) hv hbJ q
        have hstq : (xs.take (q + 1)).foldl (stP i e) F1 = stP i e ((xs.take q).foldl (stP i e) F1) p := take_fold hp
        generalize (xs.take q).foldl (stP i e) F1 = F2 at hbq hstq ⊢
        obtain ⟨pf, pt, pd, pk⟩ := p
        obtain ⟨⟨f1, f2⟩, ⟨t1, t2⟩, ⟨d1, d2⟩, ⟨k1, k2⟩⟩ := hpo
        simp only at f1 f2 t1 t2 d1 d2 k1 k2
        obtain ⟨u, rfl⟩ : ∃ u : Nat, pf = u := ⟨pf.toNat, by omega⟩
        obtain ⟨w, rfl⟩ : ∃ w : Nat, pk = w := ⟨pk.toNat, by omega⟩
        by_cases hyes : pt = (e : Int) ∧ w ≤ i
        · obtain ⟨rfl, hwi⟩ := hyes
          rw [stP_yes (u := u) (w := w) rfl rfl hwi rfl] at hstq
          have hb1 := hbq i e
          have hb2 := hbq (i - w) u
          have hrw := TRF_get (n := n) (f := F2) (show i < i + 1 by omega)
          have hrw2 := TRF_get (n := n) (f := F2) (show i - w < i + 1 by omega)
          have hrl : (IR (rowF n (F2 i))).length = n := by rw [IR_len, rowF_len]
          have hrl2 : (IR (rowF n (F2 (i - w)))).length = n := by rw [IR_len, rowF_len]
          have hcell : (IR (rowF n (F2 i)))[e]? = some [DI (F2 i e)] := IRF_get hen
          have hcell2 : (IR (rowF n (F2 (i - w))))[u]? = some [DI (F2 (i - w) u)] := IRF_get (by omega)
          have htF : (TR (tabF (i + 1) n F2)).length = i + 1 := by rw [TR_len, tabF_len]
          repeat' (first | refine Qa ?_ | ((first | apply Ba | (apply Bb; (· rfl); (· rfl)) | (apply Bc; (· exact nxE)) | (apply Bd; (· rfl); (· rfl); (· exact nxE))); (· first | exact Ok.ldTj rfl rfl rfl hrw2 hrl2 (by omega) | exact Ok.ld1 rfl rfl (congrArg (Option.map (dobj 1)) hrw) hcell | exact Ok.ld1 rfl rfl (congrArg (Option.map (dobj 1)) hrw2) hcell2 | exact Ok.st1 rfl rfl (congrArg (Option.map (dobj 1)) hrw) (by rw [hrl]; exact hen) (by rw [hcell]; rfl) rfl rfl IR_set | exact Ok.pe); (first | refine Na ?_ | refine Nb ?_)) | ((first | apply Ca | (apply Cb; (· exact nxE))); (· first | exact Ok.st1 rfl rfl (congrArg (Option.map (dobj 1)) hrw) (by rw [hrl]; exact hen) (by rw [hcell]; rfl) rfl rfl IR_set | exact Ok.e0); (first | refine Nc ?_ | refine Nd ?_)) | refine Oa ?_ | refine Ob ?_ | ((first | refine Ga (fun h => ?_) (fun h => ?_) | refine AD.gsplit rfl rfl (fun h => ?_) (fun h => ?_)) <;> try (exfalso; omega; done)) | (first | refine AL.gsplitB rfl rfl (fun h => ?_) (fun h => ?_) | refine AD.gsplitB rfl rfl (fun h => ?_) (fun h => ?_)) | refine Fa ?_ | refine Qb ?_ | refine Qc ?_ | refine Qd ?_ | refine Fb ?_ | refine Qe ?_ | refine Wa ?_ | refine Wb ?_ | (refine AW.ite rfl (fun h => ?_) (fun h => ?_) <;> try (exfalso; omega; done)) | refine AW.cond _ rfl (fun h => ?_) (fun h => ?_) | refine Qf ?_ | refine Qg ?_ | refine Qh ?_ | refine Qi ?_ | refine Xa ?_ | refine Xb ?_ | refine Xc ?_ | refine Xd ?_ | refine Fc ?_)
          refine ⟨⟨q + 1, by omega⟩, ?_, by simp only; omega⟩
          (apply Le.headG [_] [mi1 ⟨1, []⟩ (TR (tabF (i + 1) n ((xs.take (q + 1)).foldl (stP i e) F1)))] (fun _ => False))
          (case' hlen => rfl)
          (case' hms => rfl)
          all_goals (try dsimp only [srcs])
          (case' hfr | hob => (repeat' (first | refine La ?_ ?_ | exact Lc | refine Lo ?_ | refine ⟨⟨_, rfl, ?_⟩, ?_⟩ | refine ObA.box ?_ | refine ObA.frE ?_ | refine ObA.dataE ?_ | refine ARs.agg ?_ | refine ARs.tup ?_ | refine AR.b ?_ | refine AR.iE ?_ | refine AR.e ?_ | refine AR.clo' ARs.nil ?_)))
          (case' hok => first | exact ⟨by rw [hstq]; exact MI.ok_row (tabF_set (fun a b _ _ => rfl)) hrw (by simp) rfl (Cg), trivial⟩ | exact trivial)
          (case' hN => rfl)
          (case' hS => rfl)
          all_goals (first | exact Ld | (rfl))
        · rw [stP_no (by simp only; omega)] at hstq
          repeat' (first | refine Qa ?_ | ((first | apply Ba | (apply Bb; (· rfl); (· rfl)) | (apply Bc; (· exact nxE)) | (apply Bd; (· rfl); (· rfl); (· exact nxE))); (· first | exact Ok.pe); (first | refine Na ?_ | refine Nb ?_)) | ((first | apply Ca | (apply Cb; (· exact nxE))); (· first | exact Ok.e0); (first | refine Nc ?_ | refine Nd ?_)) | refine Oa ?_ | refine Ob ?_ | ((first | refine Ga (fun h => ?_) (fun h => ?_) | refine AD.gsplit rfl rfl (fun h => ?_) (fun h => ?_)) <;> try (exfalso; omega; done)) | (first | refine AL.gsplitB rfl rfl (fun h => ?_) (fun h => ?_) | refine AD.gsplitB rfl rfl (fun h => ?_) (fun h => ?_)) | refine Fa ?_ | refine Qb ?_ | refine Qc ?_ | refine Qd ?_ | refine Fb ?_ | refine Qe ?_ | refine Wa ?_ | refine Wb ?_ | (refine AW.ite rfl (fun h => ?_) (fun h => ?_) <;> try (exfalso; omega; done)) | refine AW.cond _ rfl (fun h => ?_) (fun h => ?_) | refine Qf ?_ | refine Qg ?_ | refine Qh ?_ | refine Qi ?_ | refine Xa ?_ | refine Xb ?_ | refine Xc ?_ | refine Xd ?_ | refine Fc ?_)
          all_goals
            refine ⟨⟨q + 1, by omega⟩, ?_, by simp only; omega⟩
            (apply Le.headG [_] [mi1 ⟨1, []⟩ (TR (tabF (i + 1) n ((xs.take (q + 1)).foldl (stP i e) F1)))] (fun _ => False))
            (case' hlen => rfl)
            (case' hms => rfl)
            all_goals (try dsimp only [srcs])
            (case' hfr | hob => (repeat' (first | refine La ?_ ?_ | exact Lc | refine Lo ?_ | refine ⟨⟨_, rfl, ?_⟩, ?_⟩ | refine ObA.box ?_ | refine ObA.frE ?_ | refine ObA.dataE ?_ | refine ARs.agg ?_ | refine ARs.tup ?_ | refine AR.b ?_ | refine AR.iE ?_ | refine AR.e ?_ | refine AR.clo' ARs.nil ?_)))
            (case' hok => first | exact ⟨by rw [hstq]; exact MI.ok_same rfl (Cg), trivial⟩ | exact trivial)
            (case' hN => rfl)
            (case' hS => rfl)
            all_goals (first | exact Ld | (rfl))
      · obtain rfl : q = xs.length := by omega
        rw [List.take_length, ← hstJ]
        repeat' (first | refine Qa ?_ | ((first | apply Ba | (apply Bb; (· rfl); (· rfl)) | (apply Bc; (· exact nxE)) | (apply Bd; (· rfl); (· rfl); (· exact nxE))); (· first | exact Ok.pe); (first | refine Na ?_ | refine Nb ?_)) | ((first | apply Ca | (apply Cb; (· exact nxE))); (· first | exact Ok.e0); (first | refine Nc ?_ | refine Nd ?_)) | refine Oa ?_ | refine Ob ?_ | ((first | refine Ga (fun h => ?_) (fun h => ?_) | refine AD.gsplit rfl rfl (fun h => ?_) (fun h => ?_)) <;> try (exfalso; omega; done)) | (first | refine AL.gsplitB rfl rfl (fun h => ?_) (fun h => ?_) | refine AD.gsplitB rfl rfl (fun h => ?_) (fun h => ?_)) | refine Fa ?_ | refine Qb ?_ | refine Qc ?_ | refine Qd ?_ | refine Fb ?_ | refine Qe ?_ | refine Wa ?_ | refine Wb ?_ | (refine AW.ite rfl (fun h => ?_) (fun h => ?_) <;> try (exfalso; omega; done)) | refine AW.cond _ rfl (fun h => ?_) (fun h => ?_) | refine Qf ?_ | refine Qg ?_ | refine Qh ?_ | refine Qi ?_ | refine Xa ?_ | refine Xb ?_ | refine Xc ?_ | refine Xd ?_ | refine Fc ?_)
        refine ⟨⟨J + 1, by omega⟩, ?_, by simp only; omega⟩
        (apply Le.headG [_] [mi1 ⟨1, []⟩ (TR (tabF (i + 1) n ((ord.take (J + 1)).foldl (stE xs i) F0)))] (fun _ => False))
        (case' hlen => rfl)
        (case' hms => rfl)
        all_goals (try dsimp only [srcs])
        (case' hfr | hob => (repeat' (first | refine La ?_ ?_ | exact Lc | refine Lo ?_ | refine ⟨⟨_, rfl, ?_⟩, ?_⟩ | refine ObA.box ?_ | refine ObA.frE ?_ | refine ObA.dataE ?_ | refine ARs.agg ?_ | refine ARs.tup ?_ | refine AR.b ?_ | refine AR.iE ?_ | refine AR.e ?_ | refine AR.clo' ARs.nil ?_)))
        (case' hok => first | exact ⟨MI.ok_same rfl (Cg), trivial⟩ | exact trivial)
        (case' hN => rfl)
        (case' hS => rfl)
        all_goals (first | exact Ld | (rfl))
    · obtain rfl : J = n := by omega
      rw [List.take_of_length_le (by omega), ← hstT]
      repeat' (first | refine Qa ?_ | ((first | apply Ba | (apply Bb; (· rfl); (· rfl)) | (apply Bc; (· exact nxE)) | (apply Bd; (· rfl); (· rfl); (· exact nxE))); (· first | exact Ok.pe); (first | refine Na ?_ | refine Nb ?_)) | ((first | apply Ca | (apply Cb; (· exact nxE))); (· first | exact Ok.e0); (first | refine Nc ?_ | refine Nd ?_)) | refine Oa ?_ | refine Ob ?_ | ((first | refine Ga (fun h => ?_) (fun h => ?_) | refine AD.gsplit rfl rfl (fun h => ?_) (fun h => ?_)) <;> try (exfalso; omega; done)) | (first | refine AL.gsplitB rfl rfl (fun h => ?_) (fun h => ?_) | refine AD.gsplitB rfl rfl (fun h => ?_) (fun h => ?_)) | refine Fa ?_ | refine Qb ?_ | refine Qc ?_ | refine Qd ?_ | refine Fb ?_ | refine Qe ?_ | refine Wa ?_ | refine Wb ?_ | (refine AW.ite rfl (fun h => ?_) (fun h => ?_) <;> try (exfalso; omega; done)) | refine AW.cond _ rfl (fun h => ?_) (fun h => ?_) | refine Qf ?_ | refine Qg ?_ | refine Qh ?_ | refine Qi ?_ | refine Xa ?_ | refine Xb ?_ | refine Xc ?_ | refine Xd ?_ | refine Fc ?_)
      refine ⟨⟨i + 1, by omega⟩, ?_, by simp only; omega⟩
      (apply Le.headG [_] [mi1 ⟨1, []⟩ (TR (tabF (i + 1) J (stT xs ord s0 (i + 1))))] (fun _ => False))
      (case' hlen => rfl)
      (case' hms => rfl)
      all_goals (try dsimp only [srcs])
      (case' hfr | hob => (repeat' (first | refine La ?_ ?_ | exact Lc | refine Lo ?_ | refine ⟨⟨_, rfl, ?_⟩, ?_⟩ | refine ObA.box ?_ | refine ObA.frE ?_ | refine ObA.dataE ?_ | refine ARs.agg ?_ | refine ARs.tup ?_ | refine AR.b ?_ | refine AR.iE ?_ | refine AR.e ?_ | refine AR.clo' ARs.nil ?_)))
      (case' hok => first | exact ⟨MI.ok_same rfl (Cg), trivial⟩ | exact trivial)
      (case' hN => rfl)
      (case' hS => rfl)
      all_goals (first | exact Ld | (rfl))
  · obtain rfl : i = m := by omega
    repeat' (first | refine Qa ?_ | ((first | apply Ba | (apply Bb; (· rfl); (· rfl)) | (apply Bc; (· exact nxE)) | (apply Bd; (· rfl); (· rfl); (· exact nxE))); (· first | exact Ok.pe); (first | refine Na ?_ | refine Nb ?_)) | ((first | apply Ca | (apply Cb; (· exact nxE))); (· first | exact Ok.e0); (first | refine Nc ?_ | refine Nd ?_)) | refine Oa ?_ | refine Ob ?_ | ((first | refine Ga (fun h => ?_) (fun h => ?_) | refine AD.gsplit rfl rfl (fun h => ?_) (fun h => ?_)) <;> try (exfalso; omega; done)) | (first | refine AL.gsplitB rfl rfl (fun h => ?_) (fun h => ?_) | refine AD.gsplitB rfl rfl (fun h => ?_) (fun h => ?_)) | refine Fa ?_ | refine Qb ?_ | refine Qc ?_ | refine Qd ?_ | refine Fb ?_ | refine Qe ?_ | refine Wa ?_ | refine Wb ?_ | (refine AW.ite rfl (fun h => ?_) (fun h => ?_) <;> try (exfalso; omega; done)) | refine AW.cond _ rfl (fun h => ?_) (fun h => ?_) | refine Qf ?_ | refine Qg ?_ | refine Qh ?_ | refine Qi ?_ | refine Xa ?_ | refine Xb ?_ | refine Xc ?_ | refine Xd ?_ | refine Fc ?_)
    refine Ya ?_
    (apply Le.headG [] [{ l := ⟨0, []⟩, k := 1, R := TR (tabF i n (stT xs ord s0 i)), src := ⟨1, []⟩, base := ⟨1, []⟩ }] (fun _ => False))
    (case' hlen => rfl)
    (case' hms => rfl)
    all_goals (try dsimp only [srcs])
    (case' hfr | hob => (repeat' (first | refine La ?_ ?_ | exact Lc | refine Lo ?_ | refine ⟨⟨_, rfl, ?_⟩, ?_⟩ | refine ObA.box ?_ | refine ObA.frE ?_ | refine ObA.dataE ?_ | refine ARs.agg ?_ | refine ARs.tup ?_ | refine AR.b ?_ | refine AR.iE ?_ | refine AR.e ?_ | refine AR.clo' ARs.nil ?_)))
    (case' hok => first | exact ⟨MI.ok_same rfl (Cg), trivial⟩ | exact trivial)
    (case' hN => rfl)
    (case' hS => rfl)
    all_goals (first | exact Ld | (rfl))
end Go.Proofs.Ytegfjedklebbfaa
end
