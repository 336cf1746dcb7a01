/-
  Walks in the abstract reading, part 7.
-/
import Derived.Test.YtpgcmpbamlnkkaaKoU6
import Derived.Test.YtpgcmpbamlnkkaaKoA3
import Derived.Test.YtpgcmpbamlnkkaaKoU5
section
namespace Go.Proofs.Ytpgcmpbamlnkkaa
set_option linter.unusedSimpArgs false
set_option linter.unusedVariables false
open Go Go.RowKit

theorem growC_pre {xs : List Pl} {rn rd over : Int} : ∀ {k : Nat} {l : List Nat}, growC xs rn rd over k l ≠ [] → ∃ e, growC xs rn rd over k l = l ++ e
  | 0, _, h => by simp [growC] at h
  | k + 1, l, h => by
    unfold growC at h ⊢
    split
    · rename_i h1
      rw [if_pos h1] at h
      split
      · exact ⟨[], by simp⟩
      · rename_i h2; rw [if_neg h2] at h; exact absurd rfl h
    · rename_i h1
      rw [if_neg h1] at h
      obtain ⟨i, hi, h2, h3⟩ := tryAll_mem h
      rw [h3]
      split at h2
      · exact absurd rfl h2
      · rename_i hs
        rw [if_neg hs]
        obtain ⟨e, he⟩ := growC_pre h2
        exact ⟨i :: e, by rw [he]; simp⟩
theorem tryAll_congr {α : Type} {f g : Nat → List α} : ∀ {l : List Nat}, (∀ v ∈ l, f v = g v) → tryAll f l = tryAll g l
  | [], _ => rfl
  | v :: r, h => by
    unfold tryAll
    rw [h v (by simp), tryAll_congr fun x hx => h x (by simp [hx])]
theorem star_super {W : Nat → Nat → Int} {n : Nat} {s : Nat → Nat → Int} (hs : StarOk W n s) {u m v : Nat} (hu : u < n) (hm : m < n) (hv : v < n) (h1 : s m u ≠ BOT) (h2 : s v m ≠ BOT) : s v u ≠ BOT ∧ s m u + s v m ≤ s v u := by
  rcases hs.some u m hu hm with e | ⟨e, e2⟩ | ⟨c, c1, c2, c3⟩
  · exact absurd e h1
  · subst e; exact ⟨h2, by omega⟩
  · rcases hs.some m v hm hv with e | ⟨e, e2⟩ | ⟨c', d1, d2, d3⟩
    · exact absurd e h2
    · subst e; exact ⟨h1, by omega⟩
    · have := hs.all u v (c ++ m :: c') hu hv (fun x hx => by
        rcases List.mem_append.1 hx with h | h
        · exact c2 x h
        · rcases List.mem_cons.1 h with rfl | h
          · exact hm
          · exact d2 x h) (WM.app.2 ⟨c1, d1⟩)
      rw [wM_app] at this
      exact ⟨this.1, by omega⟩
theorem wk_wm {n : Nat} {xs : List Pl} {r : Int × Int} {t : List (List Int)} (hw : WmOk n xs r t) (hv : ∀ p ∈ xs, okPl n p) : ∀ {c : List Nat} {u v : Int}, Wk xs u c v → c ≠ [] → ∃ c', WM (entN t) u.toNat c' v.toNat ∧ (∀ x ∈ c', x < n) ∧ wgt xs r.1 r.2 c ≤ wM (entN t) u.toNat c' v.toNat
  | [], _, _, _, h => absurd rfl h
  | [i], u, v, ⟨h1, h2, h3⟩, _ => by
    have hp : plA xs i ∈ xs := by
      have e : plA xs i = xs[i] := by simp [plA, h1]
      rw [e]; exact List.getElem_mem h1
    have ha := hw.all _ hp
    have h3' : (plA xs i).t = v := h3
    subst h2 h3'
    exact ⟨[], ha.1, by simp, by simp only [wgt, wM]; omega⟩
  | i :: j :: c, u, v, ⟨h1, h2, h3⟩, _ => by
    have hp : plA xs i ∈ xs := by
      have e : plA xs i = xs[i] := by simp [plA, h1]
      rw [e]; exact List.getElem_mem h1
    have ha := hw.all _ hp
    obtain ⟨c', g1, g2, g3⟩ := wk_wm hw hv h3 (by simp)
    obtain ⟨_, ⟨k1, k2⟩, _⟩ := hv _ hp
    subst h2
    refine ⟨(plA xs i).t.toNat :: c', ⟨ha.1, g1⟩, fun x hx => ?_, ?_⟩
    · rcases List.mem_cons.1 hx with rfl | h
      · omega
      · exact g2 x h
    · have e : wgt xs r.1 r.2 (i :: j :: c) = pw r.1 r.2 (plA xs i) + wgt xs r.1 r.2 (j :: c) := rfl
      rw [e]
      simp only [wM]
      omega
/-- What is held of the weights, their star and the greatest ratio. -/
structure CrOk (xs : List Pl) (n : Nat) (r : Int × Int) (s : Nat → Nat → Int) : Prop where
  v : ∀ p ∈ xs, okPl n p
  mx : MaxR xs r
  w : WmOk n xs r (wmT n xs r)
  np : NoPos (entN (wmT n xs r)) n
  st : StarOk (entN (wmT n xs r)) n s
abbrev crB (xs : List Pl) (r : Int × Int) (s : Nat → Nat → Int) (i : Nat) : Bool := isCr s r.1 r.2 (plA xs i)
theorem crB_iff {xs : List Pl} {r : Int × Int} {s : Nat → Nat → Int} {i : Nat} : crB xs r s i = true ↔ s (plA xs i).f.toNat (plA xs i).t.toNat ≠ BOT ∧ pw r.1 r.2 (plA xs i) + s (plA xs i).f.toNat (plA xs i).t.toNat = 0 := by
  unfold crB isCr
  simp
theorem CrOk.at {xs : List Pl} {n : Nat} {r : Int × Int} {s : Nat → Nat → Int} (h : CrOk xs n r s) {i : Nat} (hi : i < xs.length) : (0 ≤ (plA xs i).f ∧ (plA xs i).f.toNat < n) ∧ (0 ≤ (plA xs i).t ∧ (plA xs i).t.toNat < n) ∧ plA xs i ∈ xs := by
  have hp : plA xs i ∈ xs := by
    have e : plA xs i = xs[i] := by simp [plA, hi]
    rw [e]; exact List.getElem_mem hi
  obtain ⟨⟨k1, k2⟩, ⟨k3, k4⟩, _⟩ := h.v _ hp
  exact ⟨⟨k1, by omega⟩, ⟨k3, by omega⟩, hp⟩
theorem CrOk.crit {xs : List Pl} {n : Nat} {r : Int × Int} {s : Nat → Nat → Int} (h : CrOk xs n r s) {c : List Nat} (hc : Circ xs c) (hz : wgt xs r.1 r.2 c = 0) {i : Nat} (hi : i ∈ c) : crB xs r s i = true := by
  have hil := hc.wk.lt i hi
  obtain ⟨⟨k1, k2⟩, ⟨k3, k4⟩, hp⟩ := h.at hil
  obtain ⟨a, b, rfl⟩ := List.append_of_mem hi
  obtain ⟨m, w1, w2, w3, w4⟩ := Wk.app.1 hc.wk
  have hwk : Wk xs (plA xs i).t (b ++ a) (plA xs i).f := Wk.app.2 ⟨_, w4, w3 ▸ w1⟩
  have hwt : wgt xs r.1 r.2 (b ++ a) = - pw r.1 r.2 (plA xs i) := by
    rw [wgt_app] at hz ⊢
    have e : wgt xs r.1 r.2 (i :: b) = pw r.1 r.2 (plA xs i) + wgt xs r.1 r.2 b := rfl
    omega
  rw [crB_iff]
  by_cases hne : b ++ a = []
  · rw [hne] at hwk hwt
    have e : (plA xs i).t = (plA xs i).f := hwk
    have hd := star_dia0 h.np h.st.some h.st.dia k2
    have hd2 := (h.st.dia _ k2).1
    rw [e, hd]
    have e0 : wgt xs r.1 r.2 ([] : List Nat) = 0 := rfl
    exact ⟨by decide, by omega⟩
  · obtain ⟨c', g1, g2, g3⟩ := wk_wm h.w h.v hwk hne
    have ha := h.st.all _ _ c' k4 k2 g2 g1
    have hg := gap_nn h.w h.np h.st (f := (plA xs i).f.toNat) (u := (plA xs i).t.toNat) k2 k4 hp (by omega) (by omega) ha.1
    exact ⟨ha.1, by omega⟩
theorem CrOk.back {xs : List Pl} {n : Nat} {r : Int × Int} {s : Nat → Nat → Int} (h : CrOk xs n r s) : ∀ {c : List Nat} {u v : Int}, Wk xs u c v → c ≠ [] → (∀ i ∈ c, crB xs r s i = true) → (v.toNat < n) ∧ s u.toNat v.toNat ≠ BOT ∧ - wgt xs r.1 r.2 c ≤ s u.toNat v.toNat
  | [], _, _, _, hn, _ => absurd rfl hn
  | [i], u, v, ⟨h1, h2, h3⟩, _, ha => by
    have h3' : (plA xs i).t = v := h3
    subst h2 h3'
    have hcr := crB_iff.1 (ha i (by simp))
    refine ⟨(h.at h1).2.1.2, hcr.1, ?_⟩
    have e : wgt xs r.1 r.2 [i] = pw r.1 r.2 (plA xs i) + 0 := rfl
    omega
  | i :: j :: c, u, v, ⟨h1, h2, h3⟩, _, ha => by
    obtain ⟨g0, g1, g2⟩ := h.back h3 (by simp) (fun x hx => ha x (by simp [hx]))
    obtain ⟨⟨k1, k2⟩, ⟨k3, k4⟩, hp⟩ := h.at h1
    have hcr := crB_iff.1 (ha i (by simp))
    subst h2
    have := star_super h.st (u := v.toNat) (m := (plA xs i).t.toNat) (v := (plA xs i).f.toNat) g0 k4 k2 g1 hcr.1
    have e : wgt xs r.1 r.2 (i :: j :: c) = pw r.1 r.2 (plA xs i) + wgt xs r.1 r.2 (j :: c) := rfl
    exact ⟨g0, this.1, by omega⟩
theorem CrOk.zero {xs : List Pl} {n : Nat} {r : Int × Int} {s : Nat → Nat → Int} (h : CrOk xs n r s) {c : List Nat} (hc : Circ xs c) (ha : ∀ i ∈ c, crB xs r s i = true) : wgt xs r.1 r.2 c = 0 := by
  obtain ⟨g0, g1, g2⟩ := h.back hc.wk hc.ne ha
  have hd := star_dia0 h.np h.st.some h.st.dia g0
  have := h.mx.le c hc
  omega
theorem CrOk.none {xs : List Pl} {n : Nat} {r : Int × Int} {s : Nat → Nat → Int} (h : CrOk xs n r s) {k : Nat} {l : List Nat} (hp : PathC xs l) {i : Nat} (hi : i ∈ l) (hcr : crB xs r s i = false) : growC xs r.1 r.2 (-1) k l = [] := by
  refine Classical.byContradiction fun hne => ?_
  obtain ⟨g1, g2⟩ := growC_sound hp hne
  obtain ⟨e, he⟩ := growC_pre hne
  have hz : wgt xs r.1 r.2 (growC xs r.1 r.2 (-1) k l) = 0 := by
    have := h.mx.le _ g1; omega
  have := h.crit g1 hz (i := i) (by rw [he]; simp [hi])
  rw [hcr] at this; cases this
theorem PathC.circ {xs : List Pl} {l : List Nat} (hp : PathC xs l) (h : lastT xs l = firstF xs l) : Circ xs l := ⟨hp.ne, by have := hp.wk; rwa [h] at this, hp.nd, hp.mn⟩
end Go.Proofs.Ytpgcmpbamlnkkaa
end

section
namespace Go.Proofs.Ytpgcmpbamlnkkaa
set_option linter.unusedSimpArgs false
set_option linter.unusedVariables false
open Go Go.RowKit
attribute [local irreducible] AL AD AW OpOk Le AC thenQ blockQ EndQ

/-- A row of truth values. -/
def boR (n : Nat) (g : Nat → Bool) : List (List D) := (List.range n).map fun e => [D.v (.bool (g e))]
theorem boR_len {n : Nat} {g : Nat → Bool} : (boR n g).length = n := by simp [boR]
theorem boR_get {n e : Nat} {g : Nat → Bool} (h : e < n) : (boR n g)[e]? = some [D.v (.bool (g e))] := by simp [boR, h]
theorem boR_congr {n : Nat} {f g : Nat → Bool} (h : ∀ j, j < n → f j = g j) : boR n f = boR n g := List.map_congr_left fun j hj => by rw [h j (List.mem_range.1 hj)]
theorem boR_set {n j : Nat} {g : Nat → Bool} {v : Bool} : (boR n g).set j [D.v (.bool v)] = boR n (fun b => if b = j then v else g b) := by
  unfold boR
  apply List.ext_getElem?
  intro i
  rw [List.getElem?_set]
  by_cases hi : i < n
  · by_cases e : j = i
    · subst e; simp [hi]
    · simp [hi, e, Ne.symm e]
  · by_cases e : j = i
    · subst e; simp [hi]
    · simp [hi, e]
theorem boR_0 {n : Nat} : dobj 1 (List.replicate n [D.v (.bool false)]) = dobj 1 (boR n fun _ => false) := by
  unfold boR; simp [List.map_const']
theorem tryAll_no {α : Type} {F : Nat → List α} {j m : Nat} (h : j < m) (h0 : F j = []) : tryAll F (List.range' j (m - j)) = tryAll F (List.range' (j + 1) (m - (j + 1))) := by
  rw [range'_cons h, tryAll, if_neg (by rw [h0]; simp)]
theorem tryAll_yes {α : Type} {F : Nat → List α} {j m : Nat} (h : j < m) (h0 : F j ≠ []) : tryAll F (List.range' j (m - j)) = F j := by
  rw [range'_cons h, tryAll, if_pos h0]
end Go.Proofs.Ytpgcmpbamlnkkaa
end

section
namespace Go.Proofs.Ytpgcmpbamlnkkaa
set_option linter.unusedSimpArgs false
set_option linter.unusedVariables false
open Go Go.RowKit
attribute [local irreducible] AL AD AW OpOk Le AC thenQ blockQ EndQ

section
variable {P : Program} {o : Oper} {A : Operand → AV} {H : Heap} {new : Nat}
theorem Ok.eqlNilV {t t' e : TypeId} {x : Operand} {k b : Nat} {z : Value} (ho : o.op = .binOp .eql t x (.const (.slice none 0 0)) t') [h : TySlice P t e k b z] (hx : A x = .d (.v (.slice none 0 0))) (hc : A (.const (.slice none 0 0)) = .d (.v (.slice none 0 0))) : OpOk P o A [] H new (Bo true) [] :=
  OpOk.bin ho hx hc rfl fun w => Lib.run_eql_slice_nil w t e none 0 0 0 0 h.u
theorem Ok.eqlNilO {t t' e : TypeId} {x : Operand} {k k' b off n : Nat} {l : Loc} {z : Value} (ho : o.op = .binOp .eql t x (.const (.slice none 0 0)) t') [h : TySlice P t e k b z] (hx : A x = .own k' l off n) (hc : A (.const (.slice none 0 0)) = .d (.v (.slice none 0 0))) (hn : 0 < n) : OpOk P o A [] H new (Bo false) [] :=
  .still [] fun ι F w H1 ρ _ _ hv => by
    have h1 := hv x (by simp [ho, Op.operands])
    have h2 := hv (.const (.slice none 0 0)) (by simp [ho, Op.operands])
    rw [hx] at h1
    rw [hc] at h2
    have h3 := h2.v_inv
    rcases h1.own_inv with ⟨b', sz, cap, _, _, _, e1⟩ | ⟨_, _, e1, _⟩
    · refine ⟨.bool false, ?_, .d (.v _)⟩
      have hr := Lib.run_eql_slice_nil (P := P) w t e (some ⟨b', off * k', none⟩) n cap 0 0 h.u
      have hgd := run_eqGuard (P := P) (op := .eql) (t := t) (x := x) (y := .const (.slice none 0 0)) (a := .slice (some ⟨b', off * k', none⟩) n cap) (b := .slice none 0 0) (w := w) rfl
      simp [execOp, ho, e1, h3, hgd, hr]
    · omega
end
/-- The search of a cycle, whatever its weight. -/
def goF (a : Nat → Nat → Int) (n : Nat) : Nat → List Nat → List Nat
  | 0, _ => []
  | m + 1, l => if a (hdN l) (lsN l) ≠ BOT then l else tryAll (fun v => if a v (lsN l) = BOT ∨ v ∈ l then [] else goF a n m (l ++ [v])) (List.range' (hdN l + 1) (n - (hdN l + 1)))
def fstF (a : Nat → Nat → Int) (n : Nat) : List Nat := tryAll (fun v => goF a n n [v]) (List.range' 0 n)
theorem goF_grow {a : Nat → Nat → Int} {n : Nat} (ha : ∀ u v, a u v = BOT ∨ 0 ≤ a u v) : ∀ (m : Nat) (l : List Nat) (w : Int), 0 ≤ w → growF a n (-1) m l w = goF a n m l
  | 0, _, _, _ => rfl
  | m + 1, l, w, hw => by
    have h1 := ha (hdN l) (lsN l)
    simp only [growF, goF]
    by_cases hb : a (hdN l) (lsN l) = BOT
    · rw [if_neg (fun h => h.1 hb), if_neg (fun h => h hb)]
      refine tryAll_congr fun v _ => ?_
      by_cases hc : a v (lsN l) = BOT ∨ v ∈ l
      · rw [if_pos hc, if_pos hc]
      · rw [if_neg hc, if_neg hc]
        have := (ha v (lsN l)).resolve_left (fun h => hc (.inl h))
        exact goF_grow ha m _ _ (by omega)
    · rw [if_pos ⟨hb, by have := h1.resolve_left hb; omega⟩, if_pos hb]
theorem fstF_over {a : Nat → Nat → Int} {n : Nat} (ha : ∀ u v, a u v = BOT ∨ 0 ≤ a u v) : overF a n (-1) = fstF a n :=
  tryAll_congr fun v _ => goF_grow ha n [v] 0 (Int.le_refl 0)
theorem goF_congr {a b : Nat → Nat → Int} {n : Nat} (h : ∀ u v, u < n → v < n → (a u v = BOT ↔ b u v = BOT)) : ∀ (m : Nat) (l : List Nat), l ≠ [] → (∀ v ∈ l, v < n) → goF a n m l = goF b n m l
  | 0, _, _, _ => rfl
  | m + 1, l, h0, hl => by
    have h1 := h (hdN l) (lsN l) (hl _ (hdN_mem h0)) (hl _ (lsN_mem h0))
    simp only [goF]
    by_cases hb : a (hdN l) (lsN l) = BOT
    · rw [if_neg (fun h => h hb), if_neg (fun h => h (h1.1 hb))]
      refine tryAll_congr fun v hv => ?_
      have hvn : v < n := by rw [List.mem_range'_1] at hv; omega
      have h2 := h v (lsN l) hvn (hl _ (lsN_mem h0))
      by_cases hc : a v (lsN l) = BOT ∨ v ∈ l
      · rw [if_pos hc, if_pos (hc.imp h2.1 id)]
      · rw [if_neg hc, if_neg (fun h3 => hc (h3.imp h2.2 id))]
        exact goF_congr h m _ (by simp) (fun x hx => by
          rcases List.mem_append.1 hx with hx | hx
          · exact hl x hx
          · simp at hx; omega)
    · rw [if_pos hb, if_pos (fun h3 => hb (h1.2 h3))]
theorem fstF_congr {a b : Nat → Nat → Int} {n : Nat} (h : ∀ u v, u < n → v < n → (a u v = BOT ↔ b u v = BOT)) : fstF a n = fstF b n :=
  tryAll_congr fun v hv => goF_congr h n [v] (by simp) (fun x hx => by simp at hx; rw [List.mem_range'_1] at hv; omega)
/-- A path of the search. -/
structure PathN (n : Nat) (l : List Nat) : Prop where
  ne : l ≠ []
  lt : ∀ v ∈ l, v < n
  nd : l.Nodup
  tl : ∀ v ∈ l.tail, hdN l < v
theorem PathN.snoc {n : Nat} {l : List Nat} (h : PathN n l) {v : Nat} (hv : v < n) (h0 : hdN l < v) (hm : v ∉ l) : PathN n (l ++ [v]) := by
  refine ⟨by simp, fun x hx => ?_, ?_, fun x hx => ?_⟩
  · rcases List.mem_append.1 hx with hx | hx
    · exact h.lt x hx
    · simp at hx; omega
  · rw [List.nodup_append]
    exact ⟨h.nd, by simp, fun x hx y hy e => by simp at hy; subst hy; subst e; exact hm hx⟩
  · rw [hdN_app h.ne]
    rw [List.tail_append_of_ne_nil h.ne] at hx
    rcases List.mem_append.1 hx with hx | hx
    · exact h.tl x hx
    · simp at hx; omega
theorem PathN.mem {n : Nat} {l : List Nat} (h : PathN n l) {v : Nat} (h0 : hdN l < v) : v ∈ l ↔ v ∈ l.tail := by
  cases l with
  | nil => exact absurd rfl h.ne
  | cons x l =>
    have e : hdN (x :: l) = x := rfl
    rw [e] at h0
    simp only [List.tail_cons, List.mem_cons]
    exact ⟨fun h => h.resolve_left (by omega), .inr⟩
abbrev usV (l : List Nat) : Nat → Bool := fun v => decide (v ∈ l.tail)
abbrev cyD (T : List (List Int)) (F : FuncId) : List AV := [TL T, .clo (.func F) [] []]
abbrev cyH (T : List (List Int)) (F : FuncId) (n : Nat) (l : List Nat) : Heap :=
  upd (upd (upd H0 ⟨2, []⟩ (some (dobj 1 (boR n (usV l))))) ⟨1, []⟩ (some (IO (cN l)))) ⟨0, []⟩ (some ⟨4, [cyD T F ++ [.own 1 ⟨1, []⟩ 0 l.length, .own 1 ⟨2, []⟩ 0 n]]⟩)
abbrev cyHF (T : List (List Int)) (F : FuncId) (n : Nat) (l : List Nat) : Heap :=
  upd (upd (upd H0 ⟨2, []⟩ (some (dobj 1 (boR n (usV l))))) ⟨3, []⟩ (some (IO (cN l)))) ⟨0, []⟩ (some ⟨4, [cyD T F ++ [.own 1 ⟨3, []⟩ 0 l.length, .own 1 ⟨2, []⟩ 0 n]]⟩)
abbrev cyHT (T : List (List Int)) (F : FuncId) (l : List Nat) : Heap :=
  upd (upd (upd H0 ⟨2, []⟩ none) ⟨3, []⟩ (some (IO (cN l)))) ⟨0, []⟩ (some ⟨4, [cyD T F ++ [.own 1 ⟨3, []⟩ 0 l.length, .dead]]⟩)
theorem cyHT_eq {T : List (List Int)} {F : FuncId} {l : List Nat} : cyHT T F l = heapL [(⟨0, []⟩, ⟨0, []⟩, ⟨4, [[TL T, .clo (.func F) [] [], .own 1 ⟨3, []⟩ 0 l.length, .dead]]⟩), (⟨3, []⟩, ⟨3, []⟩, IO (cN l))] := by
  have e : upd H0 ⟨2, []⟩ none = H0 := by funext l; simp [upd]
  unfold cyHT; rw [e]; rfl
theorem cyD_ar {T : List (List Int)} {F : FuncId} : ∀ c ∈ cyD T F, ∀ H lent τ L, AR H lent τ L c c := fun c hc H lent τ L => by
  simp only [List.mem_cons, List.not_mem_nil, or_false] at hc
  rcases hc with rfl | rfl
  · exact .dd _
  · exact AR.clo' ARs.nil ARs.nil
theorem cyD_rn {T : List (List Int)} {F : FuncId} : ∀ c ∈ cyD T F, ∀ g, rn g c = c := fun c hc g => by
  simp only [List.mem_cons, List.not_mem_nil, or_false] at hc
  rcases hc with rfl | rfl <;> simp [rn]
theorem cNr_get {l : List Nat} {i : Nat} {v : Nat} (h : l[i]? = some v) : (dobj 1 (IR (cN l))).rows[0 + i]? = some [I (v : Nat)] := by
  rw [Nat.zero_add]; simp [dobj, cN, h]
set_option maxHeartbeats 8000000 in
theorem goOnM_ac (T : List (List Int)) (n : Nat) (hT : Sq T n) (hn : n ≤ 1000) (F : FuncId) [FnBody Try.prog F] (hW : ∀ (l : List Int) (w : Int), AC Try.prog F [IL l, I w] H0 (Bo true) H0) : ∀ (k : Nat) (l : List Nat) (w : Int), PathN n l → k + l.length = n + 1 →
    AC Try.prog 201 [Bx 4 0, I w] (cyH T F n l) (Bo (decide (goF (entN T) n k l ≠ []))) (if goF (entN T) n k l = [] then cyHF T F n l else cyHT T F (goF (entN T) n k l)) := by
  intro m
  induction m with
  | zero =>
    intro l w hp hk
    have := nodup_le n l hp.nd hp.lt
    omega
  | succ m ih =>
    intro l w hp hk
    have hln := nodup_le n l hp.nd hp.lt
    have hlen : 0 < l.length := List.length_pos_iff.2 hp.ne
    have hfi := hp.lt _ (hdN_mem hp.ne)
    have hla := hp.lt _ (lsN_mem hp.ne)
    have htl : (mRows 1 (TR T)).length = n := by simp [hT.l]
    have hsg : ∀ i j, i < n → j < n → ∃ r, (mRows 1 (TR T))[((i : Nat) : Int).toNat]? = some [.sl 1 (IR r)] ∧ (IR r)[((j : Nat) : Int).toNat]? = some [DI (entN T i j)] ∧ (IR r).length = n := fun i j hi hj => by
      obtain ⟨r, h1, h2, h3⟩ := hT.get hi hj
      exact ⟨r, TR_get h1, IR_get h2, by rw [IR_len, h3]⟩
    have h0g : l[0]? = some (hdN l) := by
      cases l with
      | nil => exact absurd rfl hp.ne
      | cons x l => rfl
    have hng : l[l.length - 1]? = some (lsN l) := by
      unfold lsN
      rw [List.getLastD_eq_getLast?, List.getLast?_eq_getElem?]
      rw [List.getElem?_eq_getElem (show l.length - 1 < l.length by omega)]
      rfl
    have hfst : (dobj 1 (IR (cN l))).rows[0 + (0 : Int).toNat]? = some [I (hdN l : Nat)] := cNr_get h0g
    have hlst : (dobj 1 (IR (cN l))).rows[0 + ((l.length : Int) - 1).toNat]? = some [I (lsN l : Nat)] := by
      rw [show ((l.length : Int) - 1).toNat = l.length - 1 by omega]; exact cNr_get hng
    have hapl : (IR (cN l)).length = l.length := by simp
    have hpl : (dobj 1 (IR (cN l))).rows.length = l.length := by simp [dobj]
    obtain ⟨G, hG⟩ : ∃ G, goF (entN T) n (m + 1) l = G := ⟨_, rfl⟩
    rw [hG]
    unfold goF at hG
    generalize hFF : (fun v => if entN T v (lsN l) = BOT ∨ v ∈ l then [] else goF (entN T) n m (l ++ [v])) = Fv at hG
    have hFj0 : ∀ v, Fv v = if entN T v (lsN l) = BOT ∨ v ∈ l then [] else goF (entN T) n m (l ++ [v]) := fun v => by rw [← hFF]
    clear hFF
    obtain ⟨r0, e1, e2, e3⟩ := hsg (hdN l) (lsN l) hfi hla
    have hhd : ∀ v, hdN (l ++ [v]) = hdN l := fun v => hdN_app hp.ne
    generalize hfe : hdN l = fi at *
    generalize hle : lsN l = la at *
    by_cases harc : entN T fi la = BOT
    case neg =>
      rw [if_pos harc] at hG
      have hwc := hW (cN l)
      rw [← hG, if_neg hp.ne, decide_eq_true hp.ne, cyHT_eq]
      generalize entN T fi la = x at *
      unfold BOT at harc
      refine AC.of_body 3 Try.func201 rfl (fun l h => by simp [upd] at h; (repeat' split at h) <;> simp_all) (fun C hC => ?_)
      simp only [startFr, Try.ntmps201, List.length_cons, List.length_nil, Nat.reduceAdd, Nat.reduceSub, List.replicate_succ, List.replicate_zero, List.cons_append, List.nil_append]
      have hD : ∀ l, C.D0 l → l = ⟨0, []⟩ ∨ l = ⟨1, []⟩ ∨ l = ⟨2, []⟩ := fun l h => by have := (hC l).1 h; simp [upd] at this; (repeat' split at this) <;> simp_all
      repeat' (first | ((first | apply Ba | (apply Bb; (· rfl); (· rfl)) | (apply Bc; (· exact nxE)) | (apply Bd; (· rfl); (· rfl); (· exact nxE))); (· first | exact OpOk.loadCell rfl rfl rfl rfl hfst rfl | exact OpOk.loadCell rfl rfl rfl rfl hlst rfl | exact Ez rfl rfl (hwc _) (Sw (Sd Sn)) | exact OpOk.nilCheck rfl rfl | exact Ok.pe)) | ((first | apply Ca | (apply Cb; (· exact nxE))); (· first | exact Ok.e0)) | refine Sx ?_ | (refine Sy (fun h => ?_) (fun h => ?_) <;> try (exfalso; omega; done)) | refine Sz (fun h => ?_) (fun h => ?_))
      (refine end1p (by first | exact .inl rfl | exact .inr rfl) rfl (by first | exact rT rfl | exact rCA rfl rfl rfl rfl (by simp) | exact rCC rfl rfl rfl rfl rfl) ?_ (Le.head ([(⟨0, []⟩, ⟨0, []⟩, ⟨4, [[TL T, .clo (.func F) [] [], .own 1 ⟨3, []⟩ 0 l.length, .dead]]⟩), (⟨3, []⟩, ⟨1, []⟩, IO (cN l))]) (by first | exact fun l h => absurd h (hD l) | (intro l h; rcases hD l h with rfl; simp [tauL]) | (intro l h; rcases hD l h with rfl | rfl <;> simp [tauL]; done) | (intro l h; rcases hD l h with rfl | rfl | rfl <;> simp [tauL])) ?_ ?_ (by simp) (by simp) (by simp [AllP]) (n' := 1000)); (· rfl)) <;> (repeat' (first | exact trivial | exact ARs.nil | refine ARs.cons ?_ ?_ | exact AR.dead _ | exact AR.dd _ | exact AR.i (by (try dsimp only); omega) | exact AR.ptr _ _ _ _ (by simp [heapL, upd]) | exact AR.own _ _ _ _ (by simp [heapL, upd]) | refine AR.ownE _ _ _ ?_ (by simp [heapL, upd]) | refine ⟨⟨_, rfl, ?_⟩, ?_⟩ | exact ObA.data | refine ObA.box ?_ | refine ObA.frE ?_ | refine ObA.dataE ?_ | refine ARs.agg ?_ | refine ARs.tup ?_ | exact AR.clo' ARs.nil ARs.nil | exact AR.clo' ARs.nil (hca _ _)))
    rw [if_neg (fun h => h harc)] at hG
    refine AC.of_body 3 Try.func201 rfl (fun l h => by simp [upd] at h; (repeat' split at h) <;> simp_all) (fun C hC => ?_)
    simp only [startFr, Try.ntmps201, List.length_cons, List.length_nil, Nat.reduceAdd, Nat.reduceSub, List.replicate_succ, List.replicate_zero, List.cons_append, List.nil_append]
    have hD : ∀ l, C.D0 l → l = ⟨0, []⟩ ∨ l = ⟨1, []⟩ ∨ l = ⟨2, []⟩ := fun l h => by have := (hC l).1 h; simp [upd] at this; (repeat' split at this) <;> simp_all
    rw [harc] at e2
    unfold BOT at e2
    repeat' (first | ((first | apply Ba | (apply Bb; (· rfl); (· rfl)) | (apply Bc; (· exact nxE)) | (apply Bd; (· rfl); (· rfl); (· exact nxE))); (· first | exact OpOk.loadCell rfl rfl rfl rfl hfst rfl | exact OpOk.loadCell rfl rfl rfl rfl hlst rfl | exact OpOk.nilCheck rfl rfl | exact Ok.pe)) | ((first | apply Ca | (apply Cb; (· exact nxE))); (· first | exact Ok.e0)) | refine Sx ?_ | (refine Sy (fun h => ?_) (fun h => ?_) <;> try (exfalso; omega; done)) | refine Sz (fun h => ?_) (fun h => ?_))
    refine AW.loop (X := {k : Nat // k ≤ n - (fi + 1) ∧ G = tryAll Fv (List.range' (fi + 1 + k) (n - (fi + 1 + k)))}) (fun k => ⟨[Bx 4 0, I w, Oo, Oo, Oo, Oo, I la, Oo, I (fi + 1 + (k.1 : Nat) : Nat), Oo, Oo, Oo, Oo, Oo, Oo, Oo, Oo, Oo, Oo, Oo, Oo, Oo, Oo, Oo, Oo, Oo, Oo, Oo, Oo, Oo, Oo, Oo, Oo, Oo, Oo, Oo, Oo, Oo, Oo, Oo, Oo, Oo, Oo, Oo, Oo, Oo, Oo, Oo, Oo, Oo, Oo, Oo, Oo, Oo, Oo, Oo, Oo, Oo, Oo, Oo, Oo, Oo, Oo, Oo, Oo, Oo, Oo, Oo, Oo, Oo, Oo, Oo, Oo, Oo, Oo, Oo, Oo, Oo, Oo, Oo, Oo, Oo, Oo, Oo, Oo, Oo, Oo, Oo, Oo, Oo, Oo, Oo, Oo, Oo, Oo, Oo, Oo, Oo, Oo, Oo, Oo, Oo, Oo, Oo, Oo, Oo, Oo, Oo, Oo, Oo, Oo, Oo, Oo, Oo, Oo, Oo, Oo, Oo, Oo, Oo, Oo, Oo, Oo, Oo, Oo, Oo, Oo], heapL [(⟨0, []⟩, ⟨0, []⟩, ⟨4, [[TL T, .clo (.func F) [] [], .own 1 ⟨3, []⟩ 0 l.length, .own 1 ⟨2, []⟩ 0 n]]⟩), (⟨3, []⟩, ⟨3, []⟩, IO (cN l)), (⟨2, []⟩, ⟨2, []⟩, dobj 1 (boR n (usV l)))], 900⟩) (fun k => n - (fi + 1) - k.1) ⟨0, Nat.zero_le _, hG.symm⟩ ?_ (fun k => ?_)
    ·
      (apply Le.headZ [_, _, _] rfl)
      all_goals (try dsimp only [srcs])
      (case' hfr | hob => (repeat' (first | refine La ?_ ?_ | exact Lc | refine Lo ?_ | refine ⟨⟨_, rfl, ?_⟩, ?_⟩ | refine Lx ?_)))
      all_goals (first | (rfl) | exact Ld)
    obtain ⟨j0, hj, hinv⟩ := k
    simp only
    obtain ⟨j, hjj⟩ : ∃ j, fi + 1 + j0 = j := ⟨_, rfl⟩
    rw [hjj] at hinv ⊢
    by_cases hlt : j < n
    case neg =>
      have hG0 : G = [] := by rw [hinv, show n - j = 0 by omega]; rfl
      rw [hG0]
      rw [if_pos rfl, decide_eq_false (by simp)]
      repeat' (first | ((first | apply Ba | (apply Bb; (· rfl); (· rfl)) | (apply Bc; (· exact nxE)) | (apply Bd; (· rfl); (· rfl); (· exact nxE))); (· first | exact Ok.lenD rfl rfl htl | exact OpOk.nilCheck rfl rfl | exact Ok.pe)) | ((first | apply Ca | (apply Cb; (· exact nxE))); (· first | exact Ok.e0)) | refine Sx ?_ | (refine Sy (fun h => ?_) (fun h => ?_) <;> try (exfalso; omega; done)) | refine Sz (fun h => ?_) (fun h => ?_))
      (refine end1p (by first | exact .inl rfl | exact .inr rfl) rfl (by first | exact rT rfl | exact rCA rfl rfl rfl rfl (by simp) | exact rCC rfl rfl rfl rfl rfl) ?_ (Le.head ([(⟨0, []⟩, ⟨0, []⟩, ⟨4, [[TL T, .clo (.func F) [] [], .own 1 ⟨3, []⟩ 0 l.length, .own 1 ⟨2, []⟩ 0 n]]⟩), (⟨3, []⟩, ⟨3, []⟩, IO (cN l)), (⟨2, []⟩, ⟨2, []⟩, dobj 1 (boR n (usV l)))]) (by first | exact fun l h => absurd h (hD l) | (intro l h; rcases hD l h with rfl; simp [tauL]) | (intro l h; rcases hD l h with rfl | rfl <;> simp [tauL]; done) | (intro l h; rcases hD l h with rfl | rfl | rfl <;> simp [tauL])) ?_ ?_ (by simp) (by simp) (by simp [AllP]) (n' := 1000)); (· rfl)) <;> (repeat' (first | exact trivial | exact ARs.nil | refine ARs.cons ?_ ?_ | exact AR.dead _ | exact AR.dd _ | exact AR.i (by (try dsimp only); omega) | exact AR.ptr _ _ _ _ (by simp [heapL, upd]) | exact AR.own _ _ _ _ (by simp [heapL, upd]) | refine AR.ownE _ _ _ ?_ (by simp [heapL, upd]) | refine ⟨⟨_, rfl, ?_⟩, ?_⟩ | exact ObA.data | refine ObA.box ?_ | refine ObA.frE ?_ | refine ObA.dataE ?_ | refine ARs.agg ?_ | refine ARs.tup ?_ | exact AR.clo' ARs.nil ARs.nil | exact AR.clo' ARs.nil (hca _ _)))
    obtain ⟨r, q1, q2, q3⟩ := hsg j la hlt hla
    have hFj := hFj0 j
    have hus := boR_get (g := usV l) hlt
    have hmem := hp.mem (v := j) (by rw [hfe]; omega)
    have hskipEnd : Fv j = [] → G = tryAll Fv (List.range' (j + 1) (n - (j + 1))) := fun h => by rw [hinv, tryAll_no hlt h]
    have hnext : ∀ h : G = tryAll Fv (List.range' (j + 1) (n - (j + 1))), G = tryAll Fv (List.range' (fi + 1 + (j0 + 1)) (n - (fi + 1 + (j0 + 1)))) := fun h => by rw [show fi + 1 + (j0 + 1) = j + 1 by omega]; exact h
    by_cases hx : entN T j la = BOT
    · have hnx := hnext (hskipEnd (by rw [hFj, if_pos (.inl hx)]))
      rw [hx] at q2
      unfold BOT at q2
      repeat' (first | ((first | apply Ba | (apply Bb; (· rfl); (· rfl)) | (apply Bc; (· exact nxE)) | (apply Bd; (· rfl); (· rfl); (· exact nxE))); (· first | exact Ok.lenD rfl rfl htl | exact OpOk.nilCheck rfl rfl | exact Ok.pe)) | ((first | apply Ca | (apply Cb; (· exact nxE))); (· first | exact Ok.e0)) | refine Sx ?_ | (refine Sy (fun h => ?_) (fun h => ?_) <;> try (exfalso; omega; done)) | refine Sz (fun h => ?_) (fun h => ?_))
      refine ⟨⟨j0 + 1, by omega, hnx⟩, ?_, by simp only; omega⟩
      (apply Le.headZ [_, _, _] rfl)
      all_goals (try dsimp only [srcs])
      (case' hfr | hob => (repeat' (first | refine La ?_ ?_ | exact Lc | refine Lo ?_ | refine ⟨⟨_, rfl, ?_⟩, ?_⟩ | refine Lx ?_)))
      all_goals (first | (rfl) | exact Ld)
    by_cases hv : j ∈ l
    · have hnx := hnext (hskipEnd (by rw [hFj, if_pos (.inr hv)]))
      rw [show usV l j = true from decide_eq_true (hmem.1 hv)] at hus
      generalize entN T j la = x at *
      unfold BOT at hx
      repeat' (first | ((first | apply Ba | (apply Bb; (· rfl); (· rfl)) | (apply Bc; (· exact nxE)) | (apply Bd; (· rfl); (· rfl); (· exact nxE))); (· first | exact Ok.lenD rfl rfl htl | exact Ok.ld1 rfl rfl rfl hus | exact OpOk.nilCheck rfl rfl | exact Ok.pe)) | ((first | apply Ca | (apply Cb; (· exact nxE))); (· first | exact Ok.e0)) | refine Sx ?_ | (refine Sy (fun h => ?_) (fun h => ?_) <;> try (exfalso; omega; done)) | refine Sz (fun h => ?_) (fun h => ?_))
      refine ⟨⟨j0 + 1, by omega, hnx⟩, ?_, by simp only; omega⟩
      (apply Le.headZ [_, _, _] rfl)
      all_goals (try dsimp only [srcs])
      (case' hfr | hob => (repeat' (first | refine La ?_ ?_ | exact Lc | refine Lo ?_ | refine ⟨⟨_, rfl, ?_⟩, ?_⟩ | refine Lx ?_)))
      all_goals (first | (rfl) | exact Ld)
    have hvt : j ∉ l.tail := fun h => hv (hmem.2 h)
    rw [show usV l j = false from decide_eq_false hvt] at hus
    rw [if_neg (by rintro (h | h); exact hx h; exact hv h)] at hFj
    have hset1 : (boR n (usV l)).set j [D.v (.bool true)] = boR n (usV (l ++ [j])) := by
      rw [boR_set]
      refine boR_congr fun e _ => ?_
      simp only [usV, List.tail_append_of_ne_nil hp.ne, List.mem_append, List.mem_singleton]
      by_cases e1 : e = j
      · simp [e1]
      · simp [e1]
    have hget2 := boR_get (g := usV (l ++ [j])) hlt
    have hset2 : (boR n (usV (l ++ [j]))).set j [D.v (.bool false)] = boR n (usV l) := by
      rw [boR_set]
      refine boR_congr fun e _ => ?_
      simp only [usV, List.tail_append_of_ne_nil hp.ne, List.mem_append, List.mem_singleton]
      by_cases e1 : e = j
      · subst e1; simp [hvt]
      · simp [e1]
    have hll : (l ++ [j]).length = l.length + 1 := by simp
    have hIH := ih (l ++ [j]) (IntKind.i64.wrap (w + entN T j la)) (hp.snoc hlt (by rw [hfe]; omega) hv) (by rw [hll]; omega)
    by_cases hg : goF (entN T) n m (l ++ [j]) = []
    · have hnx := hnext (hskipEnd (by rw [hFj, hg]))
      rw [if_pos hg, hg, decide_eq_false (by simp)] at hIH
      unfold cyH cyHF IO at hIH
      rw [cN_snoc, hll] at hIH
      generalize usV (l ++ [j]) = sv at *
      generalize entN T j la = x at *
      unfold BOT at hx
      repeat' (first | ((first | apply Ba | (apply Bb; (· rfl); (· rfl)) | (apply Bc; (· exact nxE)) | (apply Bd; (· rfl); (· rfl); (· exact nxE))); (· first | exact Ok.lenD rfl rfl htl | exact Ok.ld1 rfl rfl rfl hus | exact Ok.sliceToO rfl rfl rfl (by omega) rfl (by omega) | exact OpOk.nilCheck rfl rfl | exact Ok.append1 (row := [DI (j : Nat)]) rfl rfl (by decide) rfl rfl hapl rfl rfl rfl (by rfl) (by omega) (by omega) | exact Ok.st1 rfl rfl rfl (by rw [boR_len]; omega) (by rw [hus]; rfl) rfl rfl hset1 | exact Ok.st1 rfl rfl rfl (by rw [boR_len]; omega) (by rw [hget2]; rfl) rfl rfl hset2 | exact OpOk.callB3a (b := ⟨0, []⟩) (p := ⟨943, []⟩) (q := ⟨2, []⟩) (x' := .own 1 ⟨2, []⟩ 0 n) rfl rfl hIH rfl rfl rfl (by decide) (by decide) (by decide) rfl (fun g => congrArg some (rnO_dobj _ _ _)) (by simp [Go.Proofs.Ytpgcmpbamlnkkaa.rn, emb, thr]) (.cons (AR.ptr _ _ _ _ (by simp)) (.cons (.dd _) .nil)) cyD_ar cyD_rn | exact Ok.storeC rfl rfl rfl rfl rfl (by simp; done) (by conv => lhs; whnf) (by rfl) (by rfl) rfl | exact Ok.pe)) | ((first | apply Ca | (apply Cb; (· exact nxE))); (· first | exact Ok.append1 (row := [DI (j : Nat)]) rfl rfl (by decide) rfl rfl hapl rfl rfl rfl (by rfl) (by omega) (by omega) | exact Ok.st1 rfl rfl rfl (by rw [boR_len]; omega) (by rw [hus]; rfl) rfl rfl hset1 | exact Ok.st1 rfl rfl rfl (by rw [boR_len]; omega) (by rw [hget2]; rfl) rfl rfl hset2 | exact OpOk.callB3a (b := ⟨0, []⟩) (p := ⟨943, []⟩) (q := ⟨2, []⟩) (x' := .own 1 ⟨2, []⟩ 0 n) rfl rfl hIH rfl rfl rfl (by decide) (by decide) (by decide) rfl (fun g => congrArg some (rnO_dobj _ _ _)) (by simp [Go.Proofs.Ytpgcmpbamlnkkaa.rn, emb, thr]) (.cons (AR.ptr _ _ _ _ (by simp)) (.cons (.dd _) .nil)) cyD_ar cyD_rn | exact Ok.storeC rfl rfl rfl rfl rfl (by simp; done) (by conv => lhs; whnf) (by rfl) (by rfl) rfl | exact Ok.e0)) | refine Sx ?_ | (refine Sy (fun h => ?_) (fun h => ?_) <;> try (exfalso; omega; done)) | refine Sz (fun h => ?_) (fun h => ?_))
      refine ⟨⟨j0 + 1, by omega, hnx⟩, ?_, by simp only; omega⟩
      refine (Le.takeL ⟨951, [3]⟩ l.length rfl).trans ?_
      (apply Le.headZ [_, _, _] rfl)
      all_goals (try dsimp only [srcs])
      (case' hfr | hob => (repeat' (first | refine La ?_ ?_ | exact Lc | refine Lo ?_ | refine ⟨⟨_, rfl, ?_⟩, ?_⟩ | refine Lx ?_)))
      all_goals (first | ((first | rfl | (simp [dobj]; done))) | exact Ld)
    · have hG1 : G = goF (entN T) n m (l ++ [j]) := by rw [hinv, tryAll_yes hlt (by rw [hFj]; exact hg), hFj]
      rw [if_neg hg, decide_eq_true hg] at hIH
      rw [hG1, if_neg hg, decide_eq_true hg, cyHT_eq]
      generalize goF (entN T) n m (l ++ [j]) = c at *
      unfold cyH cyHT IO at hIH
      rw [cN_snoc, hll] at hIH
      generalize usV (l ++ [j]) = sv at *
      generalize entN T j la = x at *
      unfold BOT at hx
      repeat' (first | ((first | apply Ba | (apply Bb; (· rfl); (· rfl)) | (apply Bc; (· exact nxE)) | (apply Bd; (· rfl); (· rfl); (· exact nxE))); (· first | exact Ok.lenD rfl rfl htl | exact Ok.ld1 rfl rfl rfl hus | exact OpOk.nilCheck rfl rfl | exact Ok.append1 (row := [DI (j : Nat)]) rfl rfl (by decide) rfl rfl hapl rfl rfl rfl (by rfl) (by omega) (by omega) | exact Ok.st1 rfl rfl rfl (by rw [boR_len]; omega) (by rw [hus]; rfl) rfl rfl hset1 | exact OpOk.callB3a (b := ⟨0, []⟩) (p := ⟨943, []⟩) (q := ⟨2, []⟩) (x' := .dead) rfl rfl hIH rfl rfl rfl (by decide) (by decide) (by decide) rfl (fun _ => rfl) (by simp [Go.Proofs.Ytpgcmpbamlnkkaa.rn]) (.cons (AR.ptr _ _ _ _ (by simp)) (.cons (.dd _) .nil)) cyD_ar cyD_rn | exact Ok.pe)) | ((first | apply Ca | (apply Cb; (· exact nxE))); (· first | exact Ok.append1 (row := [DI (j : Nat)]) rfl rfl (by decide) rfl rfl hapl rfl rfl rfl (by rfl) (by omega) (by omega) | exact Ok.st1 rfl rfl rfl (by rw [boR_len]; omega) (by rw [hus]; rfl) rfl rfl hset1 | exact OpOk.callB3a (b := ⟨0, []⟩) (p := ⟨943, []⟩) (q := ⟨2, []⟩) (x' := .dead) rfl rfl hIH rfl rfl rfl (by decide) (by decide) (by decide) rfl (fun _ => rfl) (by simp [Go.Proofs.Ytpgcmpbamlnkkaa.rn]) (.cons (AR.ptr _ _ _ _ (by simp)) (.cons (.dd _) .nil)) cyD_ar cyD_rn | exact Ok.e0)) | refine Sx ?_ | (refine Sy (fun h => ?_) (fun h => ?_) <;> try (exfalso; omega; done)) | refine Sz (fun h => ?_) (fun h => ?_))
      (refine end1p (by first | exact .inl rfl | exact .inr rfl) rfl (by first | exact rT rfl | exact rCA rfl rfl rfl rfl (by simp) | exact rCC rfl rfl rfl rfl rfl) ?_ (Le.head ([(⟨0, []⟩, ⟨0, []⟩, ⟨4, [[TL T, .clo (.func F) [] [], .own 1 ⟨3, []⟩ 0 c.length, .dead]]⟩), (⟨3, []⟩, ⟨951, [3]⟩, IO (cN c))]) (by first | exact fun l h => absurd h (hD l) | (intro l h; rcases hD l h with rfl; simp [tauL]) | (intro l h; rcases hD l h with rfl | rfl <;> simp [tauL]; done) | (intro l h; rcases hD l h with rfl | rfl | rfl <;> simp [tauL])) ?_ ?_ (by simp) (by simp) (by simp [AllP]) (n' := 1000)); (· rfl)) <;> (repeat' (first | exact trivial | exact ARs.nil | refine ARs.cons ?_ ?_ | exact AR.dead _ | exact AR.dd _ | exact AR.i (by (try dsimp only); omega) | exact AR.ptr _ _ _ _ (by simp [heapL, upd]) | exact AR.own _ _ _ _ (by simp [heapL, upd]) | refine AR.ownE _ _ _ ?_ (by simp [heapL, upd]) | refine ⟨⟨_, rfl, ?_⟩, ?_⟩ | exact ObA.data | refine ObA.box ?_ | refine ObA.frE ?_ | refine ObA.dataE ?_ | refine ARs.agg ?_ | refine ARs.tup ?_ | exact AR.clo' ARs.nil ARs.nil | exact AR.clo' ARs.nil (hca _ _)))
end Go.Proofs.Ytpgcmpbamlnkkaa
end

section
namespace Go.Proofs.Ytpgcmpbamlnkkaa
set_option linter.unusedSimpArgs false
set_option linter.unusedVariables false
open Go Go.RowKit
attribute [local irreducible] AL AD AW OpOk Le AC thenQ blockQ EndQ

def dmS (t : List (List Int)) (p : Pl) : List (List Int) := if p.k = 0 then setT t p.t.toNat p.f.toNat (max (entN t p.t.toNat p.f.toNat) p.d) else t
def dmT (n : Nat) (xs : List Pl) : List (List Int) := xs.foldl dmS (botT n n)
theorem dmS_sq {n : Nat} {t : List (List Int)} {p : Pl} (h : Sq t n) : Sq (dmS t p) n := by
  unfold dmS; split
  · exact h.setT
  · exact h
theorem dm_sq {n : Nat} : ∀ {xs : List Pl} {t : List (List Int)}, Sq t n → Sq (xs.foldl dmS t) n
  | [], _, h => h
  | p :: xs, _, h => dm_sq (xs := xs) (dmS_sq h)
theorem dm_take {xs : List Pl} {n k : Nat} (h : k < xs.length) : (xs.take (k + 1)).foldl dmS (botT n n) = dmS ((xs.take k).foldl dmS (botT n n)) (plA xs k) := by
  have e : xs[k]? = some (plA xs k) := by simp [plA, h]
  exact take_fold e
theorem dm_bot {n : Nat} : ∀ {xs : List Pl} {t : List (List Int)}, Sq t n → (∀ p ∈ xs, okPl n p) → ∀ {a b : Nat}, a < n → b < n → (entN (xs.foldl dmS t) a b = BOT ↔ entN t a b = BOT ∧ wPl xs a b = false)
  | [], t, _, _, a, b, _, _ => by simp [wPl]
  | p :: r, t, hs, hv, a, b, ha, hb => by
    obtain ⟨⟨h1, h2⟩, ⟨h3, h4⟩, ⟨h5, _⟩, _⟩ := hv p (by simp)
    rw [List.foldl_cons, dm_bot (dmS_sq hs) (fun q hq => hv q (by simp [hq])) ha hb]
    have hw : wPl (p :: r) a b = ((decide (p.t = a) && (decide (p.k = 0) && decide (p.f = b))) || wPl r a b) := by simp [wPl]
    rw [hw]
    unfold dmS
    by_cases hk : p.k = 0
    · rw [if_pos hk, entN_setT hs (by omega) (by omega)]
      by_cases e : a = p.t.toNat ∧ b = p.f.toNat
      · rw [if_pos e]
        have hne : ¬ max (entN t p.t.toNat p.f.toNat) p.d = BOT := by unfold BOT; omega
        have ht : (decide (p.t = (a : Int)) && (decide (p.k = 0) && decide (p.f = (b : Int)))) = true := by simp [hk]; omega
        rw [ht]; simp [hne]
      · rw [if_neg e]
        have ht : (decide (p.t = (a : Int)) && (decide (p.k = 0) && decide (p.f = (b : Int)))) = false := by
          simp only [hk, decide_true, Bool.true_and, Bool.and_eq_false_iff, decide_eq_false_iff_not]
          by_cases e1 : a = p.t.toNat
          · right; intro h; exact e ⟨e1, by omega⟩
          · left; omega
        rw [ht, Bool.false_or]
    · rw [if_neg hk]
      have ht : (decide (p.t = (a : Int)) && (decide (p.k = 0) && decide (p.f = (b : Int)))) = false := by simp [hk]
      rw [ht, Bool.false_or]
theorem dead_fst {n : Nat} {xs : List Pl} (hv : ∀ p ∈ xs, okPl n p) : deadC n xs = fstF (entN (dmT n xs)) n := by
  have hfe : ∀ {u v : Nat}, u < n → v < n → entN (freeT n xs) u v = if wPl xs u v = true then 0 else BOT := fun hu hv' => by
    unfold freeT
    rw [free_entN (Sq.bot n) hv hu hv', entN_bot hu hv']
  have hc : ∀ u v, u < n → v < n → (entN (freeT n xs) u v = BOT ↔ entN (dmT n xs) u v = BOT) := fun u v hu hv' => by
    unfold dmT
    rw [dm_bot (Sq.bot n) hv hu hv', entN_bot hu hv', hfe hu hv']
    cases hw : wPl xs u v
    · simp
    · simp [BOT]
  have h1 : overF (entN (freeT n xs)) n (-1) = fstF (entN (freeT n xs)) n := by
    refine fstF_over fun u v => ?_
    have hs := free_sq (xs := xs) (Sq.bot n)
    by_cases hu : u < n
    · by_cases hv2 : v < n
      · rw [hfe hu hv2]; split
        · exact .inr (Int.le_refl _)
        · exact .inl rfl
      · right
        unfold entN
        have h1 : u < (freeT n xs).length := by show u < (xs.foldl freeS (botT n n)).length; rw [hs.l]; exact hu
        rw [List.getElem?_eq_getElem h1, Option.getD_some, List.getElem?_eq_none (by rw [hs.r _ (List.getElem_mem h1)]; omega)]
        exact Int.le_refl _
    · right
      unfold entN
      rw [show (freeT n xs)[u]? = none from List.getElem?_eq_none (by show (xs.foldl freeS (botT n n)).length ≤ u; rw [hs.l]; omega)]
      exact Int.le_refl _
  unfold deadC
  rw [h1]
  exact fstF_congr hc
set_option maxHeartbeats 4000000 in
theorem delayMatrix_ac (n : Nat) (xs : List Pl) (hn : n ≤ 10) (hx : xs.length ≤ 1000) (hv : ∀ p ∈ xs, okPl n p) : AC Try.prog 96 [grD n xs, I 0] H0 (own1 1 n) (hpM 1 (TR (dmT n xs))) := by
  have hB := bottomMatrix_ac n (by omega)
  refine AC.of_body 0 Try.func96 rfl (fun l h => absurd rfl h) (fun C hC => ?_)
  have hD : ∀ l, ¬ C.D0 l := fun l h => (hC l).1 h rfl
  simp only [startFr, Try.ntmps96, List.length_cons, List.length_nil, Nat.reduceAdd, Nat.reduceSub, List.replicate_succ, List.replicate_zero, List.cons_append, List.nil_append]
  repeat' (first | ((first | apply Ba | (apply Bb; (· rfl); (· rfl)) | (apply Bc; (· exact nxE)) | (apply Bd; (· rfl); (· rfl); (· exact nxE))); (· first | exact Tb rfl rfl (hB) (Sd (Sd Sn)) | exact Ok.pe)) | ((first | apply Ca | (apply Cb; (· exact nxE))); (· first | exact Tb rfl rfl (hB) (Sd (Sd Sn)) | exact Ok.e0)) | refine Sx ?_ | (refine Sy (fun h => ?_) (fun h => ?_) <;> try (exfalso; omega; done)) | refine Sz (fun h => ?_) (fun h => ?_))
  refine AW.loop (X := {k : Nat // k ≤ xs.length}) (fun k => ⟨[Oo, I 0, Oo, Oo, Oo, .own 1 ⟨1, []⟩ 0 n, Oo, Oo, Oo, Oo, Oo, Oo, Oo, Oo, PL xs, I xs.length, I (k.1 : Nat), Oo, Oo, Oo, Oo, Oo, Oo, Oo, Oo, Oo, Oo, Oo, Oo, Oo, Oo, Oo, Oo, Oo, Oo, Oo, Oo, Oo, Oo, Oo, Oo, Oo, Oo, Oo, Oo, Oo], heapX [] [mi1 ⟨1, []⟩ (TR ((xs.take k.1).foldl dmS (botT n n)))], 900⟩) (fun k => xs.length - k.1) ⟨0, Nat.zero_le _⟩ ?_ (fun k => ?_)
  ·
    (apply Le.headG [] [{ l := ⟨1, []⟩, k := 1, R := TR (botT n n), src := ⟨6, [0]⟩, base := ⟨6, [0]⟩ }] (fun _ => False))
    (case' hlen => rfl)
    (case' hms => rfl)
    all_goals (try dsimp only [srcs])
    (case' hfr | hob => (repeat' (first | refine La ?_ ?_ | exact Lc | refine Lo ?_ | refine ⟨⟨_, rfl, ?_⟩, ?_⟩ | refine Lx ?_)))
    (case' hok => first | exact ⟨MI.ok_same rfl (Cg), trivial⟩ | exact trivial)
    (case' hN => rfl)
    (case' hS => rfl)
    all_goals (first | exact Ld | (rfl))
  obtain ⟨k, hk⟩ := k
  simp only
  by_cases hlt : k < xs.length
  · have hrow := pl_row (n := 0) hlt
    have hst := dm_take (n := n) hlt
    obtain ⟨⟨g1, g2⟩, ⟨g3, g4⟩, g5, g6⟩ := okPl_at hv k hlt
    have hsq : Sq ((xs.take k).foldl dmS (botT n n)) n := dm_sq (Sq.bot n)
    generalize hT : (xs.take k).foldl dmS (botT n n) = T at hst hsq
    rw [show dmS T (plA xs k) = if (plA xs k).k = 0 then setT T (plA xs k).t.toNat (plA xs k).f.toNat (max (entN T (plA xs k).t.toNat (plA xs k).f.toNat) (plA xs k).d) else T from rfl] at hst
    generalize plA xs k = p at *
    obtain ⟨pf, pt, pd, pk⟩ := p
    obtain ⟨f, rfl⟩ : ∃ f : Nat, pf = f := ⟨pf.toNat, by simp at g1; omega⟩
    obtain ⟨t, rfl⟩ : ∃ t : Nat, pt = t := ⟨pt.toNat, by simp at g3; omega⟩
    simp only [Int.toNat_natCast] at hrow g2 g4 g5 g6 hst
    obtain ⟨r, hr1, hr2, hr3⟩ := hsq.get (show t < n by omega) (show f < n by omega)
    have hr1' : (TR T)[t]? = some (IR r) := by simp [hr1]
    have hrl : (IR r).length = n := by rw [IR_len, hr3]
    have hrf : (IR r)[f]? = some [DI (entN T t f)] := by simp [hr2]
    by_cases hk0 : pk = 0
    · rw [if_pos hk0] at hst
      repeat' (first | ((first | apply Ba | (apply Bb; (· rfl); (· rfl)) | (apply Bc; (· exact nxE)) | (apply Bd; (· rfl); (· rfl); (· exact nxE))); (· first | exact Ok.ldTn rfl rfl rfl hr1' hrl | exact Ok.ld1 rfl rfl (congrArg (Option.map (dobj 1)) hr1') hrf | exact Ok.st1 rfl rfl (congrArg (Option.map (dobj 1)) hr1') (by omega) (by rw [hrf]; rfl) rfl rfl IR_set | exact Ok.pe)) | ((first | apply Ca | (apply Cb; (· exact nxE))); (· first | exact Ok.st1 rfl rfl (congrArg (Option.map (dobj 1)) hr1') (by omega) (by rw [hrf]; rfl) rfl rfl IR_set | exact Ok.e0)) | refine Sx ?_ | (refine Sy (fun h => ?_) (fun h => ?_) <;> try (exfalso; omega; done)) | refine Sz (fun h => ?_) (fun h => ?_))
      refine ⟨⟨k + 1, by omega⟩, ?_, by simp only; omega⟩
      (apply Le.headG [] [{ l := ⟨1, []⟩, k := 1, R := TR ((xs.take (k + 1)).foldl dmS (botT n n)), src := ⟨1, []⟩, base := ⟨1, []⟩ }] (fun _ => False))
      (case' hlen => rfl)
      (case' hms => rfl)
      all_goals (try dsimp only [srcs])
      (case' hfr | hob => (repeat' (first | refine La ?_ ?_ | exact Lc | refine Lo ?_ | refine ⟨⟨_, rfl, ?_⟩, ?_⟩ | refine Lx ?_)))
      (case' hok => first | exact ⟨MI.ok_row (r0 := IR r) (r := IR (r.set f (max (entN T t f) pd))) (by rw [hst]; exact setT_TR hr1) hr1' (by simp) rfl (Cg), trivial⟩ | exact trivial)
      (case' hN => rfl)
      (case' hS => rfl)
      all_goals (first | exact Ld | (rfl))
    · rw [if_neg hk0] at hst
      repeat' (first | ((first | apply Ba | (apply Bb; (· rfl); (· rfl)) | (apply Bc; (· exact nxE)) | (apply Bd; (· rfl); (· rfl); (· exact nxE))); (· first | exact Ok.pe)) | ((first | apply Ca | (apply Cb; (· exact nxE))); (· first | exact Ok.e0)) | refine Sx ?_ | (refine Sy (fun h => ?_) (fun h => ?_) <;> try (exfalso; omega; done)) | refine Sz (fun h => ?_) (fun h => ?_))
      refine ⟨⟨k + 1, by omega⟩, ?_, by simp only; omega⟩
      rw [hst]
      (apply Le.headG [] [mi1 ⟨1, []⟩ (TR T)] (fun _ => False))
      (case' hlen => rfl)
      (case' hms => rfl)
      all_goals (try dsimp only [srcs])
      (case' hfr | hob => (repeat' (first | refine La ?_ ?_ | exact Lc | refine Lo ?_ | refine ⟨⟨_, rfl, ?_⟩, ?_⟩ | refine Lx ?_)))
      (case' hok => first | exact ⟨MI.ok_same rfl (Cg), trivial⟩ | exact trivial)
      (case' hN => rfl)
      (case' hS => rfl)
      all_goals (first | exact Ld | (rfl))
  ·
    obtain rfl : k = xs.length := by omega
    rw [List.take_length]
    repeat' (first | ((first | apply Ba | (apply Bb; (· rfl); (· rfl)) | (apply Bc; (· exact nxE)) | (apply Bd; (· rfl); (· rfl); (· exact nxE))); (· first | exact Ok.pe)) | ((first | apply Ca | (apply Cb; (· exact nxE))); (· first | exact Ok.e0)) | refine Sx ?_ | (refine Sy (fun h => ?_) (fun h => ?_) <;> try (exfalso; omega; done)) | refine Sz (fun h => ?_) (fun h => ?_))
    refine Ya ?_
    (apply Le.headG [] [{ l := ⟨0, []⟩, k := 1, R := TR (dmT n xs), src := ⟨1, []⟩, base := ⟨1, []⟩ }] (fun _ => False))
    (case' hlen => rfl)
    (case' hms => rfl)
    all_goals (try dsimp only [srcs])
    (case' hfr | hob => (repeat' (first | refine La ?_ ?_ | exact Lc | refine Lo ?_ | refine ⟨⟨_, rfl, ?_⟩, ?_⟩ | refine Lx ?_)))
    (case' hok => first | exact ⟨MI.ok_same rfl (Cg), trivial⟩ | exact trivial)
    (case' hN => rfl)
    (case' hS => rfl)
    all_goals (first | exact Ld | (rfl))
set_option maxHeartbeats 4000000 in
theorem firstCycle_ac (T : List (List Int)) (n : Nat) (hT : Sq T n) (hn : n ≤ 1000) (F : FuncId) [FnBody Try.prog F] (hW : ∀ (l : List Int) (w : Int), AC Try.prog F [IL l, I w] H0 (Bo true) H0) :
    AC Try.prog 95 [TL T, .clo (.func F) [] []] H0 (if fstF (entN T) n = [] then nilS else own1 1 (fstF (entN T) n).length) (if fstF (entN T) n = [] then H0 else hp1 (IO (cN (fstF (entN T) n)))) := by
  have htl : (mRows 1 (TR T)).length = n := by simp [hT.l]
  obtain ⟨G, hG⟩ : ∃ G, fstF (entN T) n = G := ⟨_, rfl⟩
  rw [hG]
  unfold fstF at hG
  generalize hFF : (fun v => goF (entN T) n n [v]) = Fv at hG
  have hFj0 : ∀ v, Fv v = goF (entN T) n n [v] := fun v => by rw [← hFF]
  clear hFF
  rw [show List.range' 0 n = List.range' 0 (n - 0) by simp] at hG
  refine AC.of_body 0 Try.func95 rfl (fun l h => absurd rfl h) (fun C hC => ?_)
  have hD : ∀ l, ¬ C.D0 l := fun l h => (hC l).1 h rfl
  simp only [startFr, Try.ntmps95, List.length_cons, List.length_nil, Nat.reduceAdd, Nat.reduceSub, List.replicate_succ, List.replicate_zero, List.cons_append, List.nil_append]
  repeat' (first | ((first | apply Ba | (apply Bb; (· rfl); (· rfl)) | (apply Bc; (· exact nxE)) | (apply Bd; (· rfl); (· rfl); (· exact nxE))); (· first | exact Ok.lenD rfl rfl htl | exact Ok.pe)) | ((first | apply Ca | (apply Cb; (· exact nxE))); (· first | exact Ok.e0)) | refine Sx ?_ | (refine Sy (fun h => ?_) (fun h => ?_) <;> try (exfalso; omega; done)) | refine Sz (fun h => ?_) (fun h => ?_))
  refine AW.loop (X := {k : Nat // k ≤ n ∧ G = tryAll Fv (List.range' k (n - k))}) (fun k => ⟨[TL T, .clo (.func F) [] [], Oo, Oo, Oo, Oo, Oo, Oo, I n, I (k.1 : Nat), Oo, Oo, Oo, Oo, Oo, Oo, Oo, Oo, Oo, Oo, Oo, Oo, Oo, Oo], heapL [], 900⟩) (fun k => n - k.1) ⟨0, Nat.zero_le _, hG.symm⟩ ?_ (fun k => ?_)
  ·
    (apply Le.headZ [] rfl)
    all_goals (try dsimp only [srcs])
    (case' hfr | hob => (repeat' (first | refine La ?_ ?_ | exact Lc | refine Lo ?_ | refine ⟨⟨_, rfl, ?_⟩, ?_⟩ | refine Lx ?_)))
    all_goals (first | (rfl) | exact Ld)
  obtain ⟨j, hj, hinv⟩ := k
  simp only
  by_cases hlt : j < n
  case neg =>
    have hG0 : G = [] := by rw [hinv, show n - j = 0 by omega]; rfl
    rw [if_pos hG0, if_pos hG0]
    repeat' (first | ((first | apply Ba | (apply Bb; (· rfl); (· rfl)) | (apply Bc; (· exact nxE)) | (apply Bd; (· rfl); (· rfl); (· exact nxE))); (· first | exact Ok.pe)) | ((first | apply Ca | (apply Cb; (· exact nxE))); (· first | exact Ok.e0)) | refine Sx ?_ | (refine Sy (fun h => ?_) (fun h => ?_) <;> try (exfalso; omega; done)) | refine Sz (fun h => ?_) (fun h => ?_))
    (refine end1p (by first | exact .inl rfl | exact .inr rfl) rfl (by first | exact rT rfl | exact rCA rfl rfl rfl rfl (by simp) | exact rCC rfl rfl rfl rfl rfl) ?_ (Le.head ([]) (by first | exact fun l h => absurd h (hD l) | (intro l h; rcases hD l h with rfl; simp [tauL]) | (intro l h; rcases hD l h with rfl | rfl <;> simp [tauL]; done) | (intro l h; rcases hD l h with rfl | rfl | rfl <;> simp [tauL])) ?_ ?_ (by simp) (by simp) (by simp [AllP]) (n' := 1000)); (· rfl)) <;> (repeat' (first | exact trivial | exact ARs.nil | refine ARs.cons ?_ ?_ | exact AR.dead _ | exact AR.dd _ | exact AR.i (by (try dsimp only); omega) | exact AR.ptr _ _ _ _ (by simp [heapL, upd]) | exact AR.own _ _ _ _ (by simp [heapL, upd]) | refine AR.ownE _ _ _ ?_ (by simp [heapL, upd]) | refine ⟨⟨_, rfl, ?_⟩, ?_⟩ | exact ObA.data | refine ObA.box ?_ | refine ObA.frE ?_ | refine ObA.dataE ?_ | refine ARs.agg ?_ | refine ARs.tup ?_ | exact AR.clo' ARs.nil ARs.nil | exact AR.clo' ARs.nil (hca _ _)))
  have hIH := goOnM_ac T n hT hn F hW n [j] 0 ⟨by simp, by simp [hlt], by simp, by simp⟩ rfl
  have hus : usV [j] = fun _ => false := by funext e; simp [usV]
  by_cases hg : goF (entN T) n n [j] = []
  · have hnx : G = tryAll Fv (List.range' (j + 1) (n - (j + 1))) := by rw [hinv, tryAll_no hlt (by rw [hFj0, hg])]
    rw [if_pos hg, hg, decide_eq_false (by simp)] at hIH
    unfold cyH cyHF IO at hIH
    rw [hus] at hIH
    repeat' (first | ((first | apply Ba | (apply Bb; (· rfl); (· rfl)) | (apply Bc; (· exact nxE)) | (apply Bd; (· rfl); (· rfl); (· exact nxE))); (· first | exact Ok.lenD rfl rfl htl | exact OpOk.callB3a (b := ⟨911, []⟩) (p := ⟨906, []⟩) (q := ⟨909, []⟩) (x' := .own 1 ⟨909, []⟩ 0 n) rfl rfl hIH rfl rfl (congrArg some boR_0) (by decide) (by decide) (by decide) rfl (fun g => congrArg some (rnO_dobj _ _ _)) (by simp [Go.Proofs.Ytpgcmpbamlnkkaa.rn, emb, thr]) (.cons (AR.ptr _ _ _ _ (by simp)) (.cons (.dd _) .nil)) cyD_ar cyD_rn | exact Ok.pe)) | ((first | apply Ca | (apply Cb; (· exact nxE))); (· first | exact OpOk.callB3a (b := ⟨911, []⟩) (p := ⟨906, []⟩) (q := ⟨909, []⟩) (x' := .own 1 ⟨909, []⟩ 0 n) rfl rfl hIH rfl rfl (congrArg some boR_0) (by decide) (by decide) (by decide) rfl (fun g => congrArg some (rnO_dobj _ _ _)) (by simp [Go.Proofs.Ytpgcmpbamlnkkaa.rn, emb, thr]) (.cons (AR.ptr _ _ _ _ (by simp)) (.cons (.dd _) .nil)) cyD_ar cyD_rn | exact Ok.e0)) | refine Sx ?_ | (refine Sy (fun h => ?_) (fun h => ?_) <;> try (exfalso; omega; done)) | refine Sz (fun h => ?_) (fun h => ?_))
    refine ⟨⟨j + 1, by omega, hnx⟩, ?_, by simp only; omega⟩
    (apply Le.headZ [] rfl)
    all_goals (try dsimp only [srcs])
    (case' hfr | hob => (repeat' (first | refine La ?_ ?_ | exact Lc | refine Lo ?_ | refine ⟨⟨_, rfl, ?_⟩, ?_⟩ | refine Lx ?_)))
    all_goals (first | (rfl) | exact Ld)
  · have hG1 : G = goF (entN T) n n [j] := by rw [hinv, tryAll_yes hlt (by rw [hFj0]; exact hg), hFj0]
    rw [if_neg hg, decide_eq_true hg] at hIH
    rw [hG1, if_neg hg, if_neg hg]
    generalize goF (entN T) n n [j] = c at *
    unfold cyH cyHT IO at hIH
    rw [hus] at hIH
    repeat' (first | ((first | apply Ba | (apply Bb; (· rfl); (· rfl)) | (apply Bc; (· exact nxE)) | (apply Bd; (· rfl); (· rfl); (· exact nxE))); (· first | exact Ok.lenD rfl rfl htl | exact OpOk.callB3a (b := ⟨911, []⟩) (p := ⟨906, []⟩) (q := ⟨909, []⟩) (x' := .dead) rfl rfl hIH rfl rfl (congrArg some boR_0) (by decide) (by decide) (by decide) rfl (fun _ => rfl) (by simp [Go.Proofs.Ytpgcmpbamlnkkaa.rn]) (.cons (AR.ptr _ _ _ _ (by simp)) (.cons (.dd _) .nil)) cyD_ar cyD_rn | exact Ok.pe)) | ((first | apply Ca | (apply Cb; (· exact nxE))); (· first | exact OpOk.callB3a (b := ⟨911, []⟩) (p := ⟨906, []⟩) (q := ⟨909, []⟩) (x' := .dead) rfl rfl hIH rfl rfl (congrArg some boR_0) (by decide) (by decide) (by decide) rfl (fun _ => rfl) (by simp [Go.Proofs.Ytpgcmpbamlnkkaa.rn]) (.cons (AR.ptr _ _ _ _ (by simp)) (.cons (.dd _) .nil)) cyD_ar cyD_rn | exact Ok.e0)) | refine Sx ?_ | (refine Sy (fun h => ?_) (fun h => ?_) <;> try (exfalso; omega; done)) | refine Sz (fun h => ?_) (fun h => ?_))
    refine Ya ?_
    (apply Le.head [(⟨0, []⟩, _, _)])
    (case' hfr | hob => (repeat' (first | refine La ?_ ?_ | exact Lc | refine Lo ?_ | refine ⟨⟨_, rfl, ?_⟩, ?_⟩ | refine Lx ?_)))
    all_goals (first | exact Ld | (rfl))
end Go.Proofs.Ytpgcmpbamlnkkaa
end
