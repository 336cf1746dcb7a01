/-
  Walks in the abstract reading, part 5.
-/
import Derived.Test.YtdgodkpobomneaaKwU4
import Derived.Test.YtdgodkpobomneaaKwU3
import Derived.Test.YtdgodkpobomneaaKwA3
import Derived.Test.YtdgodkpobomneaaKwA2
section
namespace Go.Proofs.Ytdgodkpobomneaa
set_option linter.unusedSimpArgs false
set_option linter.unusedVariables false
open Go Go.RowKit
attribute [local irreducible] AL AD AW OpOk Le AC thenQ blockQ EndQ

end Go.Proofs.Ytdgodkpobomneaa
end

section
namespace Go.Proofs.Ytdgodkpobomneaa
set_option linter.unusedSimpArgs false
set_option linter.unusedVariables false
open Go Go.RowKit

theorem gap_nn [Mode] {n : Nat} {xs : List Pl} {r : Int × Int} {t : List (List Int)} (hw : WmOk n xs r t) (hnp : NoPos (entN t) n) {s : Nat → Nat → Int} (hs : StarOk (entN t) n s) {f u : Nat} (hf : f < n) (hu : u < n) {p : Pl} (hp : p ∈ xs) (h1 : p.f = f) (h2 : p.t = u) (hne : s f u ≠ BOT) : pw r.1 r.2 p + s f u ≤ 0 := by
  have ha := hw.all p hp
  rw [h1, h2, Int.toNat_natCast, Int.toNat_natCast] at ha
  have hwm : WM (entN t) f [] u := ha.1
  have hwv : wM (entN t) f [] u = entN t u f := rfl
  rcases hs.some u f hu hf with e | ⟨e1, e2⟩ | ⟨c, c1, c2, c3⟩
  · exact absurd e hne
  · subst e1
    have := hnp u [] hu (by simp) hwm
    omega
  · have h3 : WM (entN t) u (c ++ f :: []) u := WM.app.2 ⟨c1, hwm⟩
    have h4 := hnp u _ hu (fun x hx => by
      rcases List.mem_append.1 hx with h | h
      · exact c2 x h
      · simp at h; omega) h3
    rw [wM_app] at h4
    omega
end Go.Proofs.Ytdgodkpobomneaa
end

section
namespace Go.Proofs.Ytdgodkpobomneaa
set_option linter.unusedSimpArgs false
set_option linter.unusedVariables false
open Go Go.RowKit
attribute [local irreducible] AL AD AW OpOk Le AC thenQ blockQ EndQ

end Go.Proofs.Ytdgodkpobomneaa
end

section
namespace Go.Proofs.Ytdgodkpobomneaa
set_option linter.unusedSimpArgs false
set_option linter.unusedVariables false
open Go Go.RowKit
attribute [local irreducible] AL AD AW OpOk Le AC thenQ blockQ EndQ

def mixR (f g : Nat → Int) (K : Nat) : Nat → Int := fun j => if j < K then f j else g j
theorem mixR_0 [Mode] {f g : Nat → Int} {n : Nat} : rowF n (mixR f g 0) = rowF n g := rowF_congr fun j _ => by simp [mixR]
theorem mixR_all [Mode] {f g : Nat → Int} {n : Nat} : rowF n (mixR f g n) = rowF n f := rowF_congr fun j hj => by simp [mixR, hj]
theorem mixR_set [Mode] {f g : Nat → Int} {n K : Nat} : (rowF n (mixR f g K)).set K (f K) = rowF n (mixR f g (K + 1)) := by
  rw [rowF_set]
  refine rowF_congr fun b _ => ?_
  unfold mixR
  by_cases e : b = K
  · subst e; simp
  · rw [if_neg e]
    by_cases h : b < K
    · rw [if_pos h, if_pos (by omega)]
    · rw [if_neg h, if_neg (by omega)]
end Go.Proofs.Ytdgodkpobomneaa
end

section
namespace Go.Proofs.Ytdgodkpobomneaa
set_option linter.unusedSimpArgs false
set_option linter.unusedVariables false
open Go Go.RowKit
attribute [local irreducible] AL AD AW OpOk Le AC thenQ blockQ EndQ

theorem mgF_0 [Mode] {n : Nat} {f : Nat → Int} : dobj 1 (List.replicate n [DI 0]) = IO (rowF n (mixR f (fun _ => 0) 0)) := by
  rw [mixR_0]
  unfold IO dobj
  simp [rowF, List.map_const']
end Go.Proofs.Ytdgodkpobomneaa
end

section
namespace Go.Proofs.Ytdgodkpobomneaa
set_option linter.unusedSimpArgs false
set_option linter.unusedVariables false
open Go Go.RowKit
attribute [local irreducible] AL AD AW OpOk Le AC thenQ blockQ EndQ

def isCr (s : Nat → Nat → Int) (u1 u2 : Int) (p : Pl) : Bool := !decide (s p.f.toNat p.t.toNat = BOT) && decide (pw u1 u2 p + s p.f.toNat p.t.toNat = 0)
end Go.Proofs.Ytdgodkpobomneaa
end

section
namespace Go.Proofs.Ytdgodkpobomneaa
set_option linter.unusedSimpArgs false
set_option linter.unusedVariables false
open Go Go.RowKit

theorem growC_pre {xs : List Pl} {rn rd over : Int} : ∀ {k : Nat} {l : List Nat}, growC xs rn rd over k l ≠ [] → ∃ e, growC xs rn rd over k l = l ++ e
  | 0, _, h => by simp [growC] at h
  | k + 1, l, h => by
    unfold growC at h ⊢
    split
    · rename_i h1
      rw [if_pos h1] at h
      split
      · exact ⟨[], by simp⟩
      · rename_i h2; rw [if_neg h2] at h; exact absurd rfl h
    · rename_i h1
      rw [if_neg h1] at h
      obtain ⟨i, hi, h2, h3⟩ := tryAll_mem h
      rw [h3]
      split at h2
      · exact absurd rfl h2
      · rename_i hs
        rw [if_neg hs]
        obtain ⟨e, he⟩ := growC_pre h2
        exact ⟨i :: e, by rw [he]; simp⟩
theorem star_super {W : Nat → Nat → Int} {n : Nat} {s : Nat → Nat → Int} (hs : StarOk W n s) {u m v : Nat} (hu : u < n) (hm : m < n) (hv : v < n) (h1 : s m u ≠ BOT) (h2 : s v m ≠ BOT) : s v u ≠ BOT ∧ s m u + s v m ≤ s v u := by
  rcases hs.some u m hu hm with e | ⟨e, e2⟩ | ⟨c, c1, c2, c3⟩
  · exact absurd e h1
  · subst e; exact ⟨h2, by omega⟩
  · rcases hs.some m v hm hv with e | ⟨e, e2⟩ | ⟨c', d1, d2, d3⟩
    · exact absurd e h2
    · subst e; exact ⟨h1, by omega⟩
    · have := hs.all u v (c ++ m :: c') hu hv (fun x hx => by
        rcases List.mem_append.1 hx with h | h
        · exact c2 x h
        · rcases List.mem_cons.1 h with rfl | h
          · exact hm
          · exact d2 x h) (WM.app.2 ⟨c1, d1⟩)
      rw [wM_app] at this
      exact ⟨this.1, by omega⟩
theorem wk_wm {n : Nat} {xs : List Pl} {r : Int × Int} {t : List (List Int)} (hw : WmOk n xs r t) (hv : ∀ p ∈ xs, okPl n p) : ∀ {c : List Nat} {u v : Int}, Wk xs u c v → c ≠ [] → ∃ c', WM (entN t) u.toNat c' v.toNat ∧ (∀ x ∈ c', x < n) ∧ wgt xs r.1 r.2 c ≤ wM (entN t) u.toNat c' v.toNat
  | [], _, _, _, h => absurd rfl h
  | [i], u, v, ⟨h1, h2, h3⟩, _ => by
    have hp : plA xs i ∈ xs := by
      have e : plA xs i = xs[i] := by simp [plA, h1]
      rw [e]; exact List.getElem_mem h1
    have ha := hw.all _ hp
    have h3' : (plA xs i).t = v := h3
    subst h2 h3'
    exact ⟨[], ha.1, by simp, by simp only [wgt, wM]; omega⟩
  | i :: j :: c, u, v, ⟨h1, h2, h3⟩, _ => by
    have hp : plA xs i ∈ xs := by
      have e : plA xs i = xs[i] := by simp [plA, h1]
      rw [e]; exact List.getElem_mem h1
    have ha := hw.all _ hp
    obtain ⟨c', g1, g2, g3⟩ := wk_wm hw hv h3 (by simp)
    obtain ⟨_, ⟨k1, k2⟩, _⟩ := hv _ hp
    subst h2
    refine ⟨(plA xs i).t.toNat :: c', ⟨ha.1, g1⟩, fun x hx => ?_, ?_⟩
    · rcases List.mem_cons.1 hx with rfl | h
      · omega
      · exact g2 x h
    · have e : wgt xs r.1 r.2 (i :: j :: c) = pw r.1 r.2 (plA xs i) + wgt xs r.1 r.2 (j :: c) := rfl
      rw [e]
      simp only [wM]
      omega
/-- What is held of the weights, their star and the greatest ratio. -/
structure CrOk (xs : List Pl) (n : Nat) (r : Int × Int) (s : Nat → Nat → Int) : Prop where
  v : ∀ p ∈ xs, okPl n p
  mx : MaxR xs r
  w : WmOk n xs r (wmT n xs r)
  np : NoPos (entN (wmT n xs r)) n
  st : StarOk (entN (wmT n xs r)) n s
abbrev crB (xs : List Pl) (r : Int × Int) (s : Nat → Nat → Int) (i : Nat) : Bool := isCr s r.1 r.2 (plA xs i)
theorem crB_iff {xs : List Pl} {r : Int × Int} {s : Nat → Nat → Int} {i : Nat} : crB xs r s i = true ↔ s (plA xs i).f.toNat (plA xs i).t.toNat ≠ BOT ∧ pw r.1 r.2 (plA xs i) + s (plA xs i).f.toNat (plA xs i).t.toNat = 0 := by
  unfold crB isCr
  simp
theorem CrOk.at {xs : List Pl} {n : Nat} {r : Int × Int} {s : Nat → Nat → Int} (h : CrOk xs n r s) {i : Nat} (hi : i < xs.length) : (0 ≤ (plA xs i).f ∧ (plA xs i).f.toNat < n) ∧ (0 ≤ (plA xs i).t ∧ (plA xs i).t.toNat < n) ∧ plA xs i ∈ xs := by
  have hp : plA xs i ∈ xs := by
    have e : plA xs i = xs[i] := by simp [plA, hi]
    rw [e]; exact List.getElem_mem hi
  obtain ⟨⟨k1, k2⟩, ⟨k3, k4⟩, _⟩ := h.v _ hp
  exact ⟨⟨k1, by omega⟩, ⟨k3, by omega⟩, hp⟩
theorem CrOk.crit {xs : List Pl} {n : Nat} {r : Int × Int} {s : Nat → Nat → Int} (h : CrOk xs n r s) {c : List Nat} (hc : Circ xs c) (hz : wgt xs r.1 r.2 c = 0) {i : Nat} (hi : i ∈ c) : crB xs r s i = true := by
  have hil := hc.wk.lt i hi
  obtain ⟨⟨k1, k2⟩, ⟨k3, k4⟩, hp⟩ := h.at hil
  obtain ⟨a, b, rfl⟩ := List.append_of_mem hi
  obtain ⟨m, w1, w2, w3, w4⟩ := Wk.app.1 hc.wk
  have hwk : Wk xs (plA xs i).t (b ++ a) (plA xs i).f := Wk.app.2 ⟨_, w4, w3 ▸ w1⟩
  have hwt : wgt xs r.1 r.2 (b ++ a) = - pw r.1 r.2 (plA xs i) := by
    rw [wgt_app] at hz ⊢
    have e : wgt xs r.1 r.2 (i :: b) = pw r.1 r.2 (plA xs i) + wgt xs r.1 r.2 b := rfl
    omega
  rw [crB_iff]
  by_cases hne : b ++ a = []
  · rw [hne] at hwk hwt
    have e : (plA xs i).t = (plA xs i).f := hwk
    have hd := star_dia0 h.np h.st.some h.st.dia k2
    have hd2 := (h.st.dia _ k2).1
    rw [e, hd]
    have e0 : wgt xs r.1 r.2 ([] : List Nat) = 0 := rfl
    exact ⟨by decide, by omega⟩
  · obtain ⟨c', g1, g2, g3⟩ := wk_wm h.w h.v hwk hne
    have ha := h.st.all _ _ c' k4 k2 g2 g1
    have hg := gap_nn h.w h.np h.st (f := (plA xs i).f.toNat) (u := (plA xs i).t.toNat) k2 k4 hp (by omega) (by omega) ha.1
    exact ⟨ha.1, by omega⟩
theorem CrOk.back {xs : List Pl} {n : Nat} {r : Int × Int} {s : Nat → Nat → Int} (h : CrOk xs n r s) : ∀ {c : List Nat} {u v : Int}, Wk xs u c v → c ≠ [] → (∀ i ∈ c, crB xs r s i = true) → (v.toNat < n) ∧ s u.toNat v.toNat ≠ BOT ∧ - wgt xs r.1 r.2 c ≤ s u.toNat v.toNat
  | [], _, _, _, hn, _ => absurd rfl hn
  | [i], u, v, ⟨h1, h2, h3⟩, _, ha => by
    have h3' : (plA xs i).t = v := h3
    subst h2 h3'
    have hcr := crB_iff.1 (ha i (by simp))
    refine ⟨(h.at h1).2.1.2, hcr.1, ?_⟩
    have e : wgt xs r.1 r.2 [i] = pw r.1 r.2 (plA xs i) + 0 := rfl
    omega
  | i :: j :: c, u, v, ⟨h1, h2, h3⟩, _, ha => by
    obtain ⟨g0, g1, g2⟩ := h.back h3 (by simp) (fun x hx => ha x (by simp [hx]))
    obtain ⟨⟨k1, k2⟩, ⟨k3, k4⟩, hp⟩ := h.at h1
    have hcr := crB_iff.1 (ha i (by simp))
    subst h2
    have := star_super h.st (u := v.toNat) (m := (plA xs i).t.toNat) (v := (plA xs i).f.toNat) g0 k4 k2 g1 hcr.1
    have e : wgt xs r.1 r.2 (i :: j :: c) = pw r.1 r.2 (plA xs i) + wgt xs r.1 r.2 (j :: c) := rfl
    exact ⟨g0, this.1, by omega⟩
theorem CrOk.zero {xs : List Pl} {n : Nat} {r : Int × Int} {s : Nat → Nat → Int} (h : CrOk xs n r s) {c : List Nat} (hc : Circ xs c) (ha : ∀ i ∈ c, crB xs r s i = true) : wgt xs r.1 r.2 c = 0 := by
  obtain ⟨g0, g1, g2⟩ := h.back hc.wk hc.ne ha
  have hd := star_dia0 h.np h.st.some h.st.dia g0
  have := h.mx.le c hc
  omega
theorem CrOk.none {xs : List Pl} {n : Nat} {r : Int × Int} {s : Nat → Nat → Int} (h : CrOk xs n r s) {k : Nat} {l : List Nat} (hp : PathC xs l) {i : Nat} (hi : i ∈ l) (hcr : crB xs r s i = false) : growC xs r.1 r.2 (-1) k l = [] := by
  refine Classical.byContradiction fun hne => ?_
  obtain ⟨g1, g2⟩ := growC_sound hp hne
  obtain ⟨e, he⟩ := growC_pre hne
  have hz : wgt xs r.1 r.2 (growC xs r.1 r.2 (-1) k l) = 0 := by
    have := h.mx.le _ g1; omega
  have := h.crit g1 hz (i := i) (by rw [he]; simp [hi])
  rw [hcr] at this; cases this
theorem PathC.circ {xs : List Pl} {l : List Nat} (hp : PathC xs l) (h : lastT xs l = firstF xs l) : Circ xs l := ⟨hp.ne, by have := hp.wk; rwa [h] at this, hp.nd, hp.mn⟩
end Go.Proofs.Ytdgodkpobomneaa
end

section
namespace Go.Proofs.Ytdgodkpobomneaa
set_option linter.unusedSimpArgs false
set_option linter.unusedVariables false
open Go Go.RowKit
attribute [local irreducible] AL AD AW OpOk Le AC thenQ blockQ EndQ

end Go.Proofs.Ytdgodkpobomneaa
end

section
namespace Go.Proofs.Ytdgodkpobomneaa
set_option linter.unusedSimpArgs false
set_option linter.unusedVariables false
open Go Go.RowKit
attribute [local irreducible] AL AD AW OpOk Le AC thenQ blockQ EndQ

section
variable {P : Program} {o : Oper} {A : Operand → AV} {H : Heap} {new : Nat}
end
/-- A path of the search. -/
structure PathN (n : Nat) (l : List Nat) : Prop where
  ne : l ≠ []
  lt : ∀ v ∈ l, v < n
  nd : l.Nodup
  tl : ∀ v ∈ l.tail, hdN l < v
theorem PathN.snoc [Mode] {n : Nat} {l : List Nat} (h : PathN n l) {v : Nat} (hv : v < n) (h0 : hdN l < v) (hm : v ∉ l) : PathN n (l ++ [v]) := by
  refine ⟨by simp, fun x hx => ?_, ?_, fun x hx => ?_⟩
  · rcases List.mem_append.1 hx with hx | hx
    · exact h.lt x hx
    · simp at hx; omega
  · rw [List.nodup_append]
    exact ⟨h.nd, by simp, fun x hx y hy e => by simp at hy; subst hy; subst e; exact hm hx⟩
  · rw [hdN_app h.ne]
    rw [List.tail_append_of_ne_nil h.ne] at hx
    rcases List.mem_append.1 hx with hx | hx
    · exact h.tl x hx
    · simp at hx; omega
theorem PathN.mem [Mode] {n : Nat} {l : List Nat} (h : PathN n l) {v : Nat} (h0 : hdN l < v) : v ∈ l ↔ v ∈ l.tail := by
  cases l with
  | nil => exact absurd rfl h.ne
  | cons x l =>
    have e : hdN (x :: l) = x := rfl
    rw [e] at h0
    simp only [List.tail_cons, List.mem_cons]
    exact ⟨fun h => h.resolve_left (by omega), .inr⟩
end Go.Proofs.Ytdgodkpobomneaa
end

section
namespace Go.Proofs.Ytdgodkpobomneaa
set_option linter.unusedSimpArgs false
set_option linter.unusedVariables false
open Go Go.RowKit
attribute [local irreducible] AL AD AW OpOk Le AC thenQ blockQ EndQ

end Go.Proofs.Ytdgodkpobomneaa
end

section
namespace Go.Proofs.Ytdgodkpobomneaa
set_option linter.unusedSimpArgs false
set_option linter.unusedVariables false
open Go Go.RowKit
attribute [local irreducible] AL AD AW OpOk Le AC thenQ blockQ EndQ

section
variable {P : Program} {o : Oper} {A : Operand → AV} {H : Heap} {new : Nat}
theorem Ok.ldTj [Mode] {t : TypeId} {a : Operand} {k nils i j n : Nat} {l : Loc} {f : Nat → Loc} {R : List (List (List D))} {r : List (List D)} (ho : o.op = .load t a) (ha : A a = .ptr 1 l j 0) [TyCell P t] (hl : H l = some (outer f k R nils)) (hr : R[i]? = some r) (hn : r.length = n) (hj : j = i) : OpOk P o A [l] H new (.own k (f i) 0 n) [] := by
  subst hj
  exact Ok.ldTn ho (by rw [ha]; simp) hl hr hn
end
theorem tabF_row2 [Mode] {m n : Nat} {f : Nat → Nat → Int} : ∀ r ∈ tabF m n f, r.length = n := tabF_rc.r
theorem cN_get [Mode] {ord : List Nat} {J e : Nat} (h : ord[J]? = some e) : (IR (cN ord))[((J : Nat) : Int).toNat]? = some [DI (e : Int)] := IR_get (by simp [h])
end Go.Proofs.Ytdgodkpobomneaa
end

section
namespace Go.Proofs.Ytdgodkpobomneaa
set_option linter.unusedSimpArgs false
set_option linter.unusedVariables false
open Go Go.RowKit
attribute [local irreducible] AL AD AW OpOk Le AC thenQ blockQ EndQ

end Go.Proofs.Ytdgodkpobomneaa
end

section
namespace Go.Proofs.Ytdgodkpobomneaa
set_option linter.unusedSimpArgs false
set_option linter.unusedVariables false
open Go Go.RowKit
attribute [local irreducible] AL AD AW OpOk Le AC thenQ blockQ EndQ

def isVal (a : Int) : Bool := decide (a = BOT) || wi a (-1000000) 1000000
theorem isFinite_ac [Mode] (a : Int) : AC Try.prog 102 [I a] H0 (Bo (wi a (-1000000) 1000000)) H0 := by
  have hI := within_ac a (-1000000) 1000000
  refine AC.of_body 0 Try.func102 rfl (fun l h => absurd rfl h) (fun C hC => ?_)
  have hD : ∀ l, ¬ C.D0 l := fun l h => (hC l).1 h rfl
  simp only [startFr, Try.ntmps102, List.length_cons, List.length_nil, Nat.reduceAdd, Nat.reduceSub, List.replicate_succ, List.replicate_zero, List.cons_append, List.nil_append]
  repeat' (first | ((first | apply Ba | (apply Bb; (· rfl); (· rfl)) | (apply Bc; (· exact nxE)) | (apply Bd; (· rfl); (· rfl); (· exact nxE))); (· first | exact Kz rfl rfl (hI) (Ad (Ad (Ad An))) | exact Ok.pe)) | ((first | apply Ca | (apply Cb; (· exact nxE))); (· first | exact Ok.e0)) | refine Sx ?_ | (refine Sy (fun h => ?_) (fun h => ?_) <;> try (exfalso; omega; done)) | refine Sz (fun h => ?_) (fun h => ?_))
  all_goals
    refine Ya ?_
    (apply Le.headZ (hs := []) [] rfl)
    all_goals (try dsimp only [srcs])
    (case' hfr => (repeat' (first | refine La ?_ ?_ | exact Lc | refine Lo ?_ | refine ⟨⟨_, rfl, ?_⟩, ?_⟩ | refine Lx ?_)))
    all_goals (first | exact Ld | exact trivial | (rfl))
theorem iIsValue_ac [Mode] (a : Int) : AC Try.prog 113 [I a] H0 (Bo (isVal a)) H0 := by
  have hF := isFinite_ac a
  unfold isVal BOT
  by_cases h : a = -1000000000000000
  · rw [decide_eq_true h]
    subst h
    refine AC.of_body 0 Try.func113 rfl (fun l h => absurd rfl h) (fun C hC => ?_)
    have hD : ∀ l, ¬ C.D0 l := fun l h => (hC l).1 h rfl
    simp only [startFr, Try.ntmps113, List.length_cons, List.length_nil, Nat.reduceAdd, Nat.reduceSub, List.replicate_succ, List.replicate_zero, List.cons_append, List.nil_append]
    repeat' (first | ((first | apply Ba | (apply Bb; (· rfl); (· rfl)) | (apply Bc; (· exact nxE)) | (apply Bd; (· rfl); (· rfl); (· exact nxE))); (· first | exact Ok.pe)) | ((first | apply Ca | (apply Cb; (· exact nxE))); (· first | exact Ok.e0)) | refine Sx ?_ | (refine Sy (fun h => ?_) (fun h => ?_) <;> try (exfalso; omega; done)) | refine Sz (fun h => ?_) (fun h => ?_))
    refine Ya ?_
    (apply Le.headZ (hs := []) [] rfl)
    all_goals (try dsimp only [srcs])
    (case' hfr => (repeat' (first | refine La ?_ ?_ | exact Lc | refine Lo ?_ | refine ⟨⟨_, rfl, ?_⟩, ?_⟩ | refine Lx ?_)))
    all_goals (first | exact Ld | exact trivial | (rfl))
  · rw [decide_eq_false h]
    refine AC.of_body 0 Try.func113 rfl (fun l h => absurd rfl h) (fun C hC => ?_)
    have hD : ∀ l, ¬ C.D0 l := fun l h => (hC l).1 h rfl
    simp only [startFr, Try.ntmps113, List.length_cons, List.length_nil, Nat.reduceAdd, Nat.reduceSub, List.replicate_succ, List.replicate_zero, List.cons_append, List.nil_append]
    repeat' (first | ((first | apply Ba | (apply Bb; (· rfl); (· rfl)) | (apply Bc; (· exact nxE)) | (apply Bd; (· rfl); (· rfl); (· exact nxE))); (· first | exact Kz rfl rfl (hF) (Ad An) | exact Ok.pe)) | ((first | apply Ca | (apply Cb; (· exact nxE))); (· first | exact Ok.e0)) | refine Sx ?_ | (refine Sy (fun h => ?_) (fun h => ?_) <;> try (exfalso; omega; done)) | refine Sz (fun h => ?_) (fun h => ?_))
    all_goals
      refine Ya ?_
      (apply Le.headZ (hs := []) [] rfl)
      all_goals (try dsimp only [srcs])
      (case' hfr => (repeat' (first | refine La ?_ ?_ | exact Lc | refine Lo ?_ | refine ⟨⟨_, rfl, ?_⟩, ?_⟩ | refine Lx ?_)))
      all_goals (first | exact Ld | exact trivial | (rfl))
theorem areFn_ac [Mode] (a : Int) : AC Try.prog 112 [I a] H0 (Bo (!isVal a)) H0 := by
  have hF := iIsValue_ac a
  refine AC.of_body 0 Try.func112 rfl (fun l h => absurd rfl h) (fun C hC => ?_)
  have hD : ∀ l, ¬ C.D0 l := fun l h => (hC l).1 h rfl
  simp only [startFr, Try.ntmps112, List.length_cons, List.length_nil, Nat.reduceAdd, Nat.reduceSub, List.replicate_succ, List.replicate_zero, List.cons_append, List.nil_append]
  repeat' (first | ((first | apply Ba | (apply Bb; (· rfl); (· rfl)) | (apply Bc; (· exact nxE)) | (apply Bd; (· rfl); (· rfl); (· exact nxE))); (· first | exact Kz rfl rfl (hF) (Ad An) | exact Ok.pe)) | ((first | apply Ca | (apply Cb; (· exact nxE))); (· first | exact Ok.e0)) | refine Sx ?_ | (refine Sy (fun h => ?_) (fun h => ?_) <;> try (exfalso; omega; done)) | refine Sz (fun h => ?_) (fun h => ?_))
  refine Ya ?_
  (apply Le.headZ (hs := []) [] rfl)
  all_goals (try dsimp only [srcs])
  (case' hfr => (repeat' (first | refine La ?_ ?_ | exact Lc | refine Lo ?_ | refine ⟨⟨_, rfl, ?_⟩, ?_⟩ | refine Lx ?_)))
  all_goals (first | exact Ld | exact trivial | (rfl))
theorem l01Finite_ac [Mode] (a : Int) : AC Try.prog 103 [I a] H0 (Bo (wi a (-1000000) 1000000)) H0 := by
  have hI := l01In_ac a (-1000000) 1000000
  refine AC.of_body 0 Try.func103 rfl (fun l h => absurd rfl h) (fun C hC => ?_)
  have hD : ∀ l, ¬ C.D0 l := fun l h => (hC l).1 h rfl
  simp only [startFr, Try.ntmps103, List.length_cons, List.length_nil, Nat.reduceAdd, Nat.reduceSub, List.replicate_succ, List.replicate_zero, List.cons_append, List.nil_append]
  repeat' (first | ((first | apply Ba | (apply Bb; (· rfl); (· rfl)) | (apply Bc; (· exact nxE)) | (apply Bd; (· rfl); (· rfl); (· exact nxE))); (· first | exact Kz rfl rfl (hI) (Ad (Ad (Ad An))) | exact Ok.pe)) | ((first | apply Ca | (apply Cb; (· exact nxE))); (· first | exact Ok.e0)) | refine Sx ?_ | (refine Sy (fun h => ?_) (fun h => ?_) <;> try (exfalso; omega; done)) | refine Sz (fun h => ?_) (fun h => ?_))
  refine Ya ?_
  (apply Le.headZ (hs := []) [] rfl)
  all_goals (try dsimp only [srcs])
  (case' hfr => (repeat' (first | refine La ?_ ?_ | exact Lc | refine Lo ?_ | refine ⟨⟨_, rfl, ?_⟩, ?_⟩ | refine Lx ?_)))
  all_goals (first | exact Ld | exact trivial | (rfl))
theorem sIsValue_ac [Mode] (a : Int) : AC Try.prog 148 [I a] H0 (Bo (isVal a)) H0 := by
  have hF := l01Finite_ac a
  unfold isVal BOT
  by_cases h : a = -1000000000000000
  · rw [decide_eq_true h]
    subst h
    refine AC.of_body 0 Try.func148 rfl (fun l h => absurd rfl h) (fun C hC => ?_)
    have hD : ∀ l, ¬ C.D0 l := fun l h => (hC l).1 h rfl
    simp only [startFr, Try.ntmps148, List.length_cons, List.length_nil, Nat.reduceAdd, Nat.reduceSub, List.replicate_succ, List.replicate_zero, List.cons_append, List.nil_append]
    repeat' (first | ((first | apply Ba | (apply Bb; (· rfl); (· rfl)) | (apply Bc; (· exact nxE)) | (apply Bd; (· rfl); (· rfl); (· exact nxE))); (· first | exact Ok.pe)) | ((first | apply Ca | (apply Cb; (· exact nxE))); (· first | exact Ok.e0)) | refine Sx ?_ | (refine Sy (fun h => ?_) (fun h => ?_) <;> try (exfalso; omega; done)) | refine Sz (fun h => ?_) (fun h => ?_))
    refine Ya ?_
    (apply Le.headZ (hs := []) [] rfl)
    all_goals (try dsimp only [srcs])
    (case' hfr => (repeat' (first | refine La ?_ ?_ | exact Lc | refine Lo ?_ | refine ⟨⟨_, rfl, ?_⟩, ?_⟩ | refine Lx ?_)))
    all_goals (first | exact Ld | exact trivial | (rfl))
  · rw [decide_eq_false h]
    refine AC.of_body 0 Try.func148 rfl (fun l h => absurd rfl h) (fun C hC => ?_)
    have hD : ∀ l, ¬ C.D0 l := fun l h => (hC l).1 h rfl
    simp only [startFr, Try.ntmps148, List.length_cons, List.length_nil, Nat.reduceAdd, Nat.reduceSub, List.replicate_succ, List.replicate_zero, List.cons_append, List.nil_append]
    repeat' (first | ((first | apply Ba | (apply Bb; (· rfl); (· rfl)) | (apply Bc; (· exact nxE)) | (apply Bd; (· rfl); (· rfl); (· exact nxE))); (· first | exact Kz rfl rfl (hF) (Ad An) | exact Ok.pe)) | ((first | apply Ca | (apply Cb; (· exact nxE))); (· first | exact Ok.e0)) | refine Sx ?_ | (refine Sy (fun h => ?_) (fun h => ?_) <;> try (exfalso; omega; done)) | refine Sz (fun h => ?_) (fun h => ?_))
    all_goals
      refine Ya ?_
      (apply Le.headZ (hs := []) [] rfl)
      all_goals (try dsimp only [srcs])
      (case' hfr => (repeat' (first | refine La ?_ ?_ | exact Lc | refine Lo ?_ | refine ⟨⟨_, rfl, ?_⟩, ?_⟩ | refine Lx ?_)))
      all_goals (first | exact Ld | exact trivial | (rfl))
theorem Ce [Mode] {H : Heap} {lent : List Loc} {cs vs : List AV} {g : FuncId} (h : CA H lent cs vs) : CA H lent (.clo (.func g) [] [] :: cs) (.clo (.func g) [] [] :: vs) := ARs.cons (AR.clo' ARs.nil ARs.nil) h
set_option maxHeartbeats 1000000 in
theorem indexFuncI_ac [Mode] (xs : List Int) (hn : xs.length ≤ 100000000) (g : FuncId) [FnBody Try.prog g] (pred : Int → Bool) (hg : ∀ x ∈ xs, AC Try.prog g [I x] H0 (Bo (pred x)) H0) : AC Try.prog 147 [IL xs, .clo (.func g) [] []] H0 (I (idxOf pred xs 0)) H0 := by
  refine AC.of_body 0 Try.func147 rfl (fun l h => absurd rfl h) (fun C hC => ?_)
  have hD : ∀ l, ¬ C.D0 l := fun l h => (hC l).1 h rfl
  simp only [startFr, Try.ntmps147, List.length_cons, List.length_nil, Nat.reduceAdd, Nat.reduceSub, List.replicate_succ, List.replicate_zero, List.cons_append, List.nil_append]
  repeat' (first | ((first | apply Ba | (apply Bb; (· rfl); (· rfl)) | (apply Bc; (· exact nxE)) | (apply Bd; (· rfl); (· rfl); (· exact nxE))); (· first | exact Ok.pe)) | ((first | apply Ca | (apply Cb; (· exact nxE))); (· first | exact Ok.e0)) | refine Sx ?_ | (refine Sy (fun h => ?_) (fun h => ?_) <;> try (exfalso; omega; done)) | refine Sz (fun h => ?_) (fun h => ?_))
  refine AW.loop (X := {k : Nat // k ≤ xs.length ∧ idxOf pred xs 0 = idxOf pred (xs.drop k) k}) (fun k => ⟨[IL xs, .clo (.func g) [] [], Oo, Oo, Oo, Oo, Oo, I xs.length, I (k.1 : Nat), Oo, Oo, Oo, Oo, Oo, Oo, Oo, Oo, Oo, Oo], heapL [], 900⟩) (fun k => xs.length - k.1) ⟨0, Nat.zero_le _, by simp⟩ ?_ (fun k => ?_)
  ·
    (apply Le.headZ [] rfl)
    all_goals (try dsimp only [srcs])
    (case' hfr | hob => (repeat' (first | refine La ?_ ?_ | exact Lc | refine Lo ?_ | refine ⟨⟨_, rfl, ?_⟩, ?_⟩ | refine Lx ?_)))
    all_goals (first | (rfl) | exact Ld)
  obtain ⟨k, hk, hall⟩ := k
  simp only
  by_cases hlt : k < xs.length
  · obtain ⟨x, hx⟩ : ∃ x, xs[k]? = some x := ⟨xs[k], by simp⟩
    have hrow := IR_get hx
    have hgx := hg x (List.mem_of_getElem? hx)
    have hst := idxOf_at (f := pred) hx k
    rw [← hall] at hst
    generalize pred x = px at *
    cases px
    · rw [if_neg (by simp)] at hst
      repeat' (first | ((first | apply Ba | (apply Bb; (· rfl); (· rfl)) | (apply Bc; (· exact nxE)) | (apply Bd; (· rfl); (· rfl); (· exact nxE))); (· first | exact Kz rfl rfl hgx (Ad An) | exact Ok.pe)) | ((first | apply Ca | (apply Cb; (· exact nxE))); (· first | exact Ok.e0)) | refine Sx ?_ | (refine Sy (fun h => ?_) (fun h => ?_) <;> try (exfalso; omega; done)) | refine Sz (fun h => ?_) (fun h => ?_))
      refine ⟨⟨k + 1, by omega, hst⟩, ?_, by simp only; omega⟩
      (apply Le.headZ [] rfl)
      all_goals (try dsimp only [srcs])
      (case' hfr | hob => (repeat' (first | refine La ?_ ?_ | exact Lc | refine Lo ?_ | refine ⟨⟨_, rfl, ?_⟩, ?_⟩ | refine Lx ?_)))
      all_goals (first | (rfl) | exact Ld)
    · rw [if_pos rfl] at hst
      rw [hst]
      repeat' (first | ((first | apply Ba | (apply Bb; (· rfl); (· rfl)) | (apply Bc; (· exact nxE)) | (apply Bd; (· rfl); (· rfl); (· exact nxE))); (· first | exact Kz rfl rfl hgx (Ad An) | exact Ok.pe)) | ((first | apply Ca | (apply Cb; (· exact nxE))); (· first | exact Ok.e0)) | refine Sx ?_ | (refine Sy (fun h => ?_) (fun h => ?_) <;> try (exfalso; omega; done)) | refine Sz (fun h => ?_) (fun h => ?_))
      refine Ya ?_
      (apply Le.headZ (hs := []) [] rfl)
      all_goals (try dsimp only [srcs])
      (case' hfr => (repeat' (first | refine La ?_ ?_ | exact Lc | refine Lo ?_ | refine ⟨⟨_, rfl, ?_⟩, ?_⟩ | refine Lx ?_)))
      all_goals (first | exact Ld | exact trivial | (rfl))
  · have hk' : k = xs.length := by omega
    rw [hk', List.drop_length] at hall
    rw [hall]
    repeat' (first | ((first | apply Ba | (apply Bb; (· rfl); (· rfl)) | (apply Bc; (· exact nxE)) | (apply Bd; (· rfl); (· rfl); (· exact nxE))); (· first | exact Ok.pe)) | ((first | apply Ca | (apply Cb; (· exact nxE))); (· first | exact Ok.e0)) | refine Sx ?_ | (refine Sy (fun h => ?_) (fun h => ?_) <;> try (exfalso; omega; done)) | refine Sz (fun h => ?_) (fun h => ?_))
    refine Ya ?_
    (apply Le.headZ (hs := []) [] rfl)
    all_goals (try dsimp only [srcs])
    (case' hfr => (repeat' (first | refine La ?_ ?_ | exact Lc | refine Lo ?_ | refine ⟨⟨_, rfl, ?_⟩, ?_⟩ | refine Lx ?_)))
    all_goals (first | exact Ld | exact trivial | (rfl))
theorem containsFuncI_ac [Mode] (xs : List Int) (hn : xs.length ≤ 100000000) (g : FuncId) [FnBody Try.prog g] (pred : Int → Bool) (hg : ∀ x ∈ xs, AC Try.prog g [I x] H0 (Bo (pred x)) H0) : AC Try.prog 111 [IL xs, .clo (.func g) [] []] H0 (Bo (xs.any pred)) H0 := by
  have hI := indexFuncI_ac xs hn g pred hg
  rw [← idxOf_any]
  refine AC.of_body 0 Try.func111 rfl (fun l h => absurd rfl h) (fun C hC => ?_)
  have hD : ∀ l, ¬ C.D0 l := fun l h => (hC l).1 h rfl
  simp only [startFr, Try.ntmps111, List.length_cons, List.length_nil, Nat.reduceAdd, Nat.reduceSub, List.replicate_succ, List.replicate_zero, List.cons_append, List.nil_append]
  repeat' (first | ((first | apply Ba | (apply Bb; (· rfl); (· rfl)) | (apply Bc; (· exact nxE)) | (apply Bd; (· rfl); (· rfl); (· exact nxE))); (· first | exact Ez rfl rfl hI (Sd (Ce Sn)) | exact Ok.pe)) | ((first | apply Ca | (apply Cb; (· exact nxE))); (· first | exact Ok.e0)) | refine Sx ?_ | (refine Sy (fun h => ?_) (fun h => ?_) <;> try (exfalso; omega; done)) | refine Sz (fun h => ?_) (fun h => ?_))
  refine Ya ?_
  (apply Le.headZ (hs := []) [] rfl)
  all_goals (try dsimp only [srcs])
  (case' hfr => (repeat' (first | refine La ?_ ?_ | exact Lc | refine Lo ?_ | refine ⟨⟨_, rfl, ?_⟩, ?_⟩ | refine Lx ?_)))
  all_goals (first | exact Ld | exact trivial | (rfl))
theorem areValues_ac [Mode] (xs : List Int) (hn : xs.length ≤ 100000000) : AC Try.prog 51 [IL xs] H0 (Bo (xs.all isVal)) H0 := by
  have hQ := containsFuncI_ac xs hn 112 (fun a => !isVal a) (fun x _ => areFn_ac x)
  rw [show xs.all isVal = !(xs.any fun a => !isVal a) by rw [List.all_eq_not_any_not]]
  refine AC.of_body 0 Try.func51 rfl (fun l h => absurd rfl h) (fun C hC => ?_)
  have hD : ∀ l, ¬ C.D0 l := fun l h => (hC l).1 h rfl
  simp only [startFr, Try.ntmps51, List.length_cons, List.length_nil, Nat.reduceAdd, Nat.reduceSub, List.replicate_succ, List.replicate_zero, List.cons_append, List.nil_append]
  repeat' (first | ((first | apply Ba | (apply Bb; (· rfl); (· rfl)) | (apply Bc; (· exact nxE)) | (apply Bd; (· rfl); (· rfl); (· exact nxE))); (· first | exact Ez rfl rfl hQ (Sd (Ce Sn)) | exact Ok.pe)) | ((first | apply Ca | (apply Cb; (· exact nxE))); (· first | exact Ok.e0)) | refine Sx ?_ | (refine Sy (fun h => ?_) (fun h => ?_) <;> try (exfalso; omega; done)) | refine Sz (fun h => ?_) (fun h => ?_))
  refine Ya ?_
  (apply Le.headZ (hs := []) [] rfl)
  all_goals (try dsimp only [srcs])
  (case' hfr => (repeat' (first | refine La ?_ ?_ | exact Lc | refine Lo ?_ | refine ⟨⟨_, rfl, ?_⟩, ?_⟩ | refine Lx ?_)))
  all_goals (first | exact Ld | exact trivial | (rfl))
end Go.Proofs.Ytdgodkpobomneaa
end

section
namespace Go.Proofs.Ytdgodkpobomneaa
set_option linter.unusedSimpArgs false
set_option linter.unusedVariables false

/-- A walk from u along the nodes of a list. -/
def kP (W : Nat → Nat → Int) : Nat → List Nat → Prop
  | _, [] => True
  | u, v :: l => W v u ≠ BOT ∧ kP W v l
def kW (W : Nat → Nat → Int) : Nat → List Nat → Int
  | _, [] => 0
  | u, v :: l => W v u + kW W v l
/-- Its last node. -/
def kE : Nat → List Nat → Nat
  | u, [] => u
  | _, v :: l => kE v l
theorem kE_app : ∀ (a b : List Nat) (u : Nat), kE u (a ++ b) = kE (kE u a) b
  | [], _, _ => rfl
  | v :: a, b, u => kE_app a b v
theorem kP_app {W : Nat → Nat → Int} : ∀ (a b : List Nat) (u : Nat), kP W u (a ++ b) ↔ kP W u a ∧ kP W (kE u a) b
  | [], b, u => by simp [kP, kE]
  | v :: a, b, u => by
    simp only [List.cons_append, kP, kE, kP_app a b v, and_assoc]
theorem kW_app {W : Nat → Nat → Int} : ∀ (a b : List Nat) (u : Nat), kW W u (a ++ b) = kW W u a + kW W (kE u a) b
  | [], b, u => by simp [kW, kE]
  | v :: a, b, u => by
    simp only [List.cons_append, kW, kE, kW_app a b v]; omega
theorem kE_lt {n : Nat} : ∀ {l : List Nat} {u : Nat}, u < n → (∀ x ∈ l, x < n) → kE u l < n
  | [], _, hu, _ => hu
  | v :: l, _, _, hl => kE_lt (l := l) (u := v) (hl v (by simp)) fun x hx => hl x (by simp [hx])
/-- Weight and number of arcs at once. -/
def kV (W : Nat → Nat → Int) (p q : Int) (u : Nat) (l : List Nat) : Int := q * kW W u l - p * l.length
/-- p / q is the greatest mean of a closed walk. -/
structure KMean (W : Nat → Nat → Int) (n : Nat) (p q : Int) : Prop where
  pos : 0 < q
  le : ∀ u l, u < n → (∀ x ∈ l, x < n) → kP W u l → kE u l = u → kV W p q u l ≤ 0
  eq : ∃ u l, u < n ∧ (∀ x ∈ l, x < n) ∧ l ≠ [] ∧ kP W u l ∧ kE u l = u ∧ kV W p q u l = 0
section
variable {W : Nat → Nat → Int} {n : Nat} {M : Int} (hM : 0 ≤ M) (hW : ∀ u v, W v u ≠ BOT → -M ≤ W v u ∧ W v u ≤ M)
include hM hW
omit hM hW in
omit hM hW in
omit hM hW in
omit hM hW in
omit hM hW in
end
end Go.Proofs.Ytdgodkpobomneaa
end

section
namespace Go.Proofs.Ytdgodkpobomneaa
set_option linter.unusedSimpArgs false
set_option linter.unusedVariables false

/-- A written cycle: its first node is its least one; it weighs more than some number. -/
structure CyW (a : Nat → Nat → Int) (n : Nat) (over : Int) (f : Nat) (r : List Nat) : Prop where
  lt : f < n
  gt : ∀ x ∈ r, f < x ∧ x < n
  nd : (f :: r).Nodup
  path : kP a f r
  close : a f (kE f r) ≠ BOT
  more : over < kW a f r + a f (kE f r)
theorem CyW.len {a : Nat → Nat → Int} {n : Nat} {over : Int} {f : Nat} {r : List Nat} (h : CyW a n over f r) : r.length + 1 ≤ n := by
  have := nodup_le n (f :: r) h.nd (fun x hx => by
    rcases List.mem_cons.1 hx with rfl | hx
    · exact h.lt
    · exact (h.gt x hx).2)
  simpa using this
/-! ### Shifted matrices -/
section
variable {W : Nat → Nat → Int} {n : Nat} {p q : Int} (hs : ∀ u v, W v u ≠ BOT → q * W v u - p ≠ BOT)
include hs
omit hs in
end
end Go.Proofs.Ytdgodkpobomneaa
end

section
namespace Go.Proofs.Ytdgodkpobomneaa
set_option linter.unusedSimpArgs false
set_option linter.unusedVariables false

/-- What is held of the star of a matrix without positive cycles. -/
structure KStar (W : Nat → Nat → Int) (n : Nat) (s : Nat → Nat → Int) : Prop where
  at' : ∀ u v, u < n → v < n → s v u = BOT ∨ ∃ l, (∀ x ∈ l, x < n) ∧ kP W u l ∧ kE u l = v ∧ kW W u l = s v u
  ge : ∀ u l, u < n → (∀ x ∈ l, x < n) → kP W u l → s (kE u l) u ≠ BOT ∧ kW W u l ≤ s (kE u l) u
  np : ∀ u l, u < n → (∀ x ∈ l, x < n) → kP W u l → kE u l = u → kW W u l ≤ 0
/-- The arc from u to v is critical. -/
def crit (W s : Nat → Nat → Int) (v u : Nat) : Prop := W v u ≠ BOT ∧ s u v ≠ BOT ∧ W v u + s u v = 0
def kC (W s : Nat → Nat → Int) : Nat → List Nat → Prop
  | _, [] => True
  | u, v :: l => crit W s v u ∧ kC W s v l
theorem kC_path {W s : Nat → Nat → Int} : ∀ {l : List Nat} {u : Nat}, kC W s u l → kP W u l
  | [], _, _ => trivial
  | _ :: _, _, h => ⟨h.1.1, kC_path h.2⟩
section
variable {W s : Nat → Nat → Int} {n : Nat} (h : KStar W n s)
include h
theorem KStar.super {u m v : Nat} (hu : u < n) (hm : m < n) (hv : v < n) (h1 : s m u ≠ BOT) (h2 : s v m ≠ BOT) : s v u ≠ BOT ∧ s m u + s v m ≤ s v u := by
  rcases h.at' u m hu hm with e | ⟨a, a1, a2, a3, a4⟩
  · exact absurd e h1
  · rcases h.at' m v hm hv with e | ⟨b, b1, b2, b3, b4⟩
    · exact absurd e h2
    · have := h.ge u (a ++ b) hu (fun x hx => by
        rcases List.mem_append.1 hx with hx | hx
        · exact a1 x hx
        · exact b1 x hx) ((kP_app a b u).2 ⟨a2, by rw [a3]; exact b2⟩)
      rw [kE_app, a3, b3, kW_app, a3, a4, b4] at this
      exact this
theorem KStar.dia {u : Nat} (hu : u < n) : s u u ≠ BOT ∧ s u u = 0 := by
  have h1 := h.ge u [] hu (by simp) trivial
  simp only [kE, kW] at h1
  refine ⟨h1.1, ?_⟩
  rcases h.at' u u hu hu with e | ⟨l, l1, l2, l3, l4⟩
  · exact absurd e h1.1
  · have := h.np u l hu l1 l2 l3
    omega
theorem KStar.back : ∀ {l : List Nat} {u : Nat}, u < n → (∀ x ∈ l, x < n) → kC W s u l → s u (kE u l) ≠ BOT ∧ - kW W u l ≤ s u (kE u l)
  | [], u, hu, _, _ => by
    have := h.dia hu
    simp only [kE, kW]
    exact ⟨this.1, by omega⟩
  | v :: l, u, hu, hl, hc => by
    have hv := hl v (by simp)
    have hl' : ∀ x ∈ l, x < n := fun x hx => hl x (by simp [hx])
    obtain ⟨g1, g2⟩ := KStar.back (l := l) hv hl' hc.2
    have h3 := h.super (kE_lt hv hl') hv hu g1 hc.1.2.1
    have := hc.1.2.2
    simp only [kE, kW]
    exact ⟨h3.1, by omega⟩
theorem KStar.zero {u : Nat} {l : List Nat} (hu : u < n) (hl : ∀ x ∈ l, x < n) (hc : kC W s u l) (he : kE u l = u) : kW W u l = 0 := by
  have h1 := (h.back hu hl hc).2
  rw [he, (h.dia hu).2] at h1
  have := h.np u l hu hl (kC_path hc) he
  omega
theorem KStar.arc {v u : Nat} (hu : u < n) (hv : v < n) (ha : W v u ≠ BOT) (hs : s u v ≠ BOT) : W v u + s u v ≤ 0 := by
  rcases h.at' v u hv hu with e | ⟨l, l1, l2, l3, l4⟩
  · exact absurd e hs
  · have := h.np u (v :: l) hu (fun x hx => by
      rcases List.mem_cons.1 hx with rfl | hx
      · exact hv
      · exact l1 x hx) ⟨ha, l2⟩ l3
    simp only [kW] at this
    omega
theorem KStar.crit : ∀ {b a : List Nat} {u : Nat}, u < n → (∀ x ∈ a ++ b, x < n) → kP W u (a ++ b) → kE u (a ++ b) = u → kW W u (a ++ b) = 0 → kC W s (kE u a) b
  | [], _, _, _, _, _, _, _ => trivial
  | v :: b, a, u, hu, hl, hp, he, hw => by
    have hv := hl v (by simp)
    have ha : ∀ x ∈ a, x < n := fun x hx => hl x (by simp [hx])
    have hb : ∀ x ∈ b, x < n := fun x hx => hl x (by simp [hx])
    have hp2 := (kP_app a (v :: b) u).1 hp
    have he2 := he
    have hw2 := hw
    rw [kE_app] at he2
    rw [kW_app] at hw2
    simp only [kE] at he2
    simp only [kW] at hw2
    have hm := kE_lt hu ha
    have hge := h.ge v (b ++ a) hv (fun x hx => by
      rcases List.mem_append.1 hx with hx | hx
      · exact hb x hx
      · exact ha x hx) ((kP_app b a v).2 ⟨hp2.2.2, by rw [he2]; exact hp2.1⟩)
    rw [kE_app, he2, kW_app, he2] at hge
    have harc := h.arc hm hv hp2.2.1 hge.1
    refine ⟨⟨hp2.2.1, hge.1, by omega⟩, ?_⟩
    have e : a ++ v :: b = (a ++ [v]) ++ b := by simp
    have := KStar.crit (b := b) (a := a ++ [v]) hu (by rw [← e]; exact hl) (by rw [← e]; exact hp) (by rw [← e]; exact he) (by rw [← e]; exact hw)
    rw [kE_app] at this
    exact this
end
section
variable {W s C : Nat → Nat → Int} {n : Nat} (h : KStar W n s) (hC : ∀ u v, u < n → v < n → (C v u ≠ BOT ↔ crit W s v u))
include h
include hC
end
end Go.Proofs.Ytdgodkpobomneaa
end

section
namespace Go.Proofs.Ytdgodkpobomneaa
set_option linter.unusedSimpArgs false
set_option linter.unusedVariables false
open Go Go.RowKit
attribute [local irreducible] AL AD AW OpOk Le AC thenQ blockQ EndQ

/-- Ratios whose products fit. -/
def smallR (a : Int × Int) : Prop := (0 ≤ a.1 ∧ a.1 ≤ 1000000) ∧ (0 ≤ a.2 ∧ a.2 ≤ 1000000)
theorem smallR.mul [Mode] {a b : Int × Int} (h : smallR a) (k : smallR b) : (0 ≤ a.1 * b.2 ∧ a.1 * b.2 ≤ 1000000000000) ∧ (0 ≤ b.1 * a.2 ∧ b.1 * a.2 ≤ 1000000000000) :=
  ⟨mul_in h.1 k.2, mul_in k.1 h.2⟩
/-! ### Graphs with a faster place -/
end Go.Proofs.Ytdgodkpobomneaa
end

section
namespace Go.Proofs.Ytdgodkpobomneaa
set_option linter.unusedSimpArgs false
set_option linter.unusedVariables false
open Go Go.RowKit
attribute [local irreducible] AL AD AW OpOk Le AC thenQ blockQ EndQ

end Go.Proofs.Ytdgodkpobomneaa
end

section
namespace Go.Proofs.Ytdgodkpobomneaa
set_option linter.unusedSimpArgs false
set_option linter.unusedVariables false
open Go Go.RowKit

structure LsOk (D : Nat → Nat → Int) (n v K : Nat) (l : Int × Int) : Prop where
  pos : 0 < l.2
  red : Int.gcd l.1 l.2 = 1
  at' : ∃ k, k < K ∧ D k v ≠ BOT ∧ l = redR (D n v - D k v) ((n : Int) - k)
  le : ∀ k, k < K → D k v ≠ BOT → l.1 * ((n : Int) - k) ≤ (D n v - D k v) * l.2
end Go.Proofs.Ytdgodkpobomneaa
end

section
namespace Go.Proofs.Ytdgodkpobomneaa
set_option linter.unusedSimpArgs false
set_option linter.unusedVariables false
open Go Go.RowKit

structure MatOk (t : List (List Int)) (n : Nat) : Prop where
  sq : Sq t n
  pos : 1 ≤ n
  le : n ≤ 10
  b : ∀ u v, entN t v u ≠ BOT → -1000000 ≤ entN t v u ∧ entN t v u ≤ 1000000
section
variable {W : Nat → Nat → Int} {n : Nat} (hW : ∀ u v, W v u ≠ BOT → -1000000 ≤ W v u ∧ W v u ≤ 1000000) (hn : n ≤ 10)
include hW hn
omit hn in
omit hn in
end
end Go.Proofs.Ytdgodkpobomneaa
end
