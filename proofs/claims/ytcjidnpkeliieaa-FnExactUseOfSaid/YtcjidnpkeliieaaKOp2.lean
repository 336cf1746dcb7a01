/-
  The laws' arguments, opened in general: what comes in reads as data: numbers, texts, slices of records, slices of slices, structs.
-/
import Derived.Test.YtcjidnpkeliieaaProg
import Derived.Test.YtcjidnpkeliieaaKA1
import Derived.Test.YtcjidnpkeliieaaKA2
import Derived.ProofKit
import Derived.Deep.Slices
namespace Go.Proofs.Ytcjidnpkeliieaa
set_option linter.unusedSimpArgs false
set_option linter.unusedVariables false
open Go.RowKit Go.ChangeShapes Go.WideShapes Go.Deep

def RdRow (w : World) (r : List D) (cs : List Value) : Prop := r.length = cs.length ∧ ∀ (j : Nat) c v, r[j]? = some c → cs[j]? = some v → DR (fun b => b < w.heap.size) w c v
theorem cell_lt2 {w : World} {a : Addr} {v : Value} (h : w.cell? a = some v) : a.block < w.heap.size := by
  unfold World.cell? at h
  split at h
  · rename_i e; exact (Array.getElem?_eq_some_iff.1 e).1
  · cases h
theorem RdRow.v {w : World} (v : Value) : RdRow w [.v v] [v] := ⟨rfl, fun j c u hc hu => by
  cases j with
  | zero => simp at hc hu; subst hc; subst hu; exact .v _
  | succ j => simp at hc⟩
theorem RdRow.one {w : World} {x : D} {v : Value} (h : DR (fun b => b < w.heap.size) w x v) : RdRow w [x] [v] := ⟨rfl, fun j c u hc hu => by
  cases j with
  | zero => simp at hc hu; subst hc; subst hu; exact h
  | succ j => simp at hc⟩
theorem RdRow.nil {w : World} : RdRow w [] [] := ⟨rfl, fun j c u hc hu => by simp at hc⟩
theorem RdRow.app {w : World} {r r' : List D} {cs cs' : List Value} (h : RdRow w r cs) (h' : RdRow w r' cs') : RdRow w (r ++ r') (cs ++ cs') := by
  refine ⟨by simp [h.1, h'.1], fun j c u hc hu => ?_⟩
  by_cases hj : j < r.length
  · rw [List.getElem?_append_left hj] at hc
    rw [List.getElem?_append_left (by rw [← h.1]; exact hj)] at hu
    exact h.2 j c u hc hu
  · rw [List.getElem?_append_right (by omega)] at hc
    rw [List.getElem?_append_right (by rw [← h.1]; omega), ← h.1] at hu
    exact h'.2 _ c u hc hu
/-- A struct's first field, and the rest. -/
theorem RdRow.cut {w : World} {r r' : List D} {cs : List Value} {n : Nat} (h : RdRow w r ((cs.drop 0).take n)) (h' : RdRow w r' (cs.drop n)) : RdRow w (r ++ r') cs := by
  have := h.app h'
  rwa [List.drop_zero, List.take_append_drop] at this
theorem RdRow.cutD {w : World} {r r' : List D} {cs : List Value} {m n k : Nat} (hk : m + n = k) (h : RdRow w r ((cs.drop m).take n)) (h' : RdRow w r' (cs.drop k)) : RdRow w (r ++ r') (cs.drop m) := by
  have := h.app h'
  have e : cs.drop k = (cs.drop m).drop n := by rw [List.drop_drop, hk]
  rwa [e, List.take_append_drop] at this
theorem RdRow.endD {w : World} {cs : List Value} {m : Nat} (h : cs.length = m) : RdRow w [] (cs.drop m) := by
  rw [List.drop_of_length_le (by omega)]; exact .nil
theorem RdRow.agg {ι : Iota} {w : World} {r : List D} {cs : List Value} (h : RdRow w r cs) : VR ι (fun b => b < w.heap.size) w (.agg (r.map .d)) (.agg cs.toArray) := by
  refine .agg _ cs (by simp [h.1]) fun i c v hc hv => ?_
  simp only [List.getElem?_map, Option.map_eq_some_iff] at hc
  obtain ⟨x, hx, rfl⟩ := hc
  exact .d (h.2 i x v hx hv)
theorem RdRow.cell {ι : Iota} {w : World} {x : D} {v : Value} (h : RdRow w [x] [v]) : VR ι (fun b => b < w.heap.size) w (.d x) v := .d (h.2 0 x v rfl rfl)

section
variable {H : Type} {enc : TypeId × Value → H} {w : World} {base : Nat} {spare : Nat → Bool} {held : Bool}
abbrev Rd (enc : TypeId × Value → H) (w : World) (base : Nat) (spare : Nat → Bool) (held : Bool) (t : TypeId) (S : List D → Prop) : Prop :=
  ∀ {fuel : Nat} {cs : List Value} {x : DataW H × List MemPlace}, DataW.trod enc Try.prog w base spare held fuel t cs = some x → ∃ r, S r ∧ RdRow w r cs
def i64 (n : Int) : Prop := -9223372036854775808 ≤ n ∧ n ≤ 9223372036854775807
theorem rdc_int : Rd enc w base spare held 2 (fun r => ∃ n, i64 n ∧ r = [DI n]) := fun h => by
  obtain ⟨n, e, _, hw⟩ := DataW.trod_int Try.underlying2 h
  subst e
  refine ⟨_, ⟨n, ?_, rfl⟩, .v _⟩
  simp only [Lit.wf, Bool.and_eq_true, decide_eq_true_eq] at hw
  exact hw
theorem rdc_slice {k : Nat} {t e : TypeId} {S : List D → Prop} (ht : Try.prog.underlying t = some (.slice e)) (hk : Try.prog.cellsOf e = k) (hk0 : 0 < k) (hrd : Rd enc w base spare held e (fun r => S r ∧ r.length = k)) :
    Rd enc w base spare held t (fun r => ∃ rows, rows.length ≤ maxLen ∧ (∀ r ∈ rows, S r) ∧ r = [.sl k rows]) := fun {fuel cs x} h => by
  rcases open_slice ht h with ⟨hc, _⟩ | ⟨a, len, cap, m, n, DD, Q, hc, _, hl, hm, hmm, _, hi⟩
  · subst hc
    exact ⟨_, ⟨[], Nat.zero_le _, fun _ h => by simp at h, rfl⟩, .one (.sl k [] none 0 (fun _ _ => undef) (Nat.le_refl _) (fun i r j c h => by simp at h) (fun i r j c h => by simp at h))⟩
  · have hlm : len ≤ m := by rw [hmm]; split <;> omega
    rw [hk] at hi
    obtain ⟨f, hf⟩ := choose_lt (α := List Value × List D) (p := fun i p => w.cells? base (a.add (i * k)) k = some p.1 ∧ S p.2 ∧ p.2.length = k ∧ RdRow w p.2 p.1) (n := len) (fun i hi' => by
      obtain ⟨cs', h1, h2⟩ := hi i (by omega)
      obtain ⟨r, ⟨hs, hl⟩, hr⟩ := hrd h2
      exact ⟨(cs', r), h1, hs, hl, hr⟩)
    subst hc
    refine ⟨_, ⟨(List.range len).map fun i => (f i).2, by simp; omega, fun r hr => ?_, rfl⟩, ?_⟩
    · obtain ⟨i, hi', rfl⟩ := List.mem_map.1 hr
      exact (hf i (List.mem_range.1 hi')).2.1
    · refine .one ?_
      have hget : ∀ (i : Nat) r, ((List.range len).map fun i => (f i).2)[i]? = some r → i < len ∧ r = (f i).2 := fun i r hr => by
        simp only [List.getElem?_map, Option.map_eq_some_iff] at hr
        obtain ⟨i', hi', rfl⟩ := hr
        obtain ⟨hlt, e1⟩ := List.getElem?_eq_some_iff.1 hi'
        simp at hlt e1
        subst e1
        exact ⟨hlt, rfl⟩
      have key : ∀ (i : Nat) r j c, ((List.range len).map fun i => (f i).2)[i]? = some r → r[j]? = some c → i < len ∧ j < k ∧ (f i).2[j]? = some c ∧ ∃ v, (f i).1[j]? = some v := fun i r j c hr hc => by
        obtain ⟨hlt, rfl⟩ := hget i r hr
        obtain ⟨h1, h2, h3, h4⟩ := hf i hlt
        have hj : j < k := by rw [← h3]; exact (List.getElem?_eq_some_iff.1 hc).1
        exact ⟨hlt, hj, hc, (f i).1[j]'(by rw [← h4.1, h3]; exact hj), List.getElem?_eq_getElem _⟩
      have hlen : ((List.range len).map fun i => (f i).2).length = len := by simp
      rw [show (Value.slice (some a) len cap) = .slice (some a) ((List.range len).map fun i => (f i).2).length cap by rw [hlen]]
      refine .sl k _ (some a) cap (fun i j => ((f i).1[j]?).getD undef) (by rw [hlen]; exact hl) (fun i r j c hr hc => ?_) (fun i r j c hr hc => ?_)
      · obtain ⟨hlt, hj, hc', v, hv⟩ := key i r j c hr hc
        obtain ⟨_, _, hcell⟩ := World.cells?_some (hf i hlt).1
        have hsp : a.spot = none := by
          obtain ⟨_, hl0, hc0⟩ := World.cells?_some (hf 0 (by omega)).1
          have h0 := hc0 0 hk0
          rw [List.getElem?_eq_getElem (by rw [hl0]; exact hk0)] at h0
          cases hs : a.spot with
          | none => rfl
          | some s =>
            exfalso
            simp [Addr.add, World.cell?, hs] at h0
            split at h0 <;> simp at h0
        obtain ⟨b, off, sp⟩ := a
        simp only at hsp
        subst hsp
        have h1 := hcell j hj
        rw [hv] at h1
        have e : (Addr.add (Addr.add ⟨b, off, none⟩ (i * k)) j) = ⟨b, off + i * k + j, none⟩ := by
          simp only [Addr.add]
          by_cases h1 : i * k = 0 <;> by_cases h2 : j = 0 <;> simp [h1, h2]
        rw [e] at h1
        exact ⟨b, off, rfl, cell_lt2 h1, by rw [hv]; exact h1⟩
      · obtain ⟨hlt, hj, hc', v, hv⟩ := key i r j c hr hc
        simp only [hv, Option.getD_some]
        exact (hf i hlt).2.2.2.2 j c v hc' hv
theorem Rd.mono {t : TypeId} {S S' : List D → Prop} (h : Rd enc w base spare held t S) (hs : ∀ r, S r → S' r) : Rd enc w base spare held t S' := fun h' => by
  obtain ⟨r, h1, h2⟩ := h h'
  exact ⟨r, hs _ h1, h2⟩
/-- Rows that are all told by something are told by a list of such. -/
theorem rows_of {α : Type} {row : α → List D} {Q : α → Prop} : ∀ {rows : List (List D)}, (∀ r ∈ rows, ∃ x, Q x ∧ r = row x) → ∃ xs : List α, (∀ x ∈ xs, Q x) ∧ rows = xs.map row
  | [], _ => ⟨[], fun _ h => by simp at h, rfl⟩
  | r :: rows, h => by
    obtain ⟨x, hx, rfl⟩ := h r (by simp)
    obtain ⟨xs, hxs, rfl⟩ := rows_of (rows := rows) (fun r hr => h r (by simp [hr]))
    exact ⟨x :: xs, fun y hy => by
      rcases List.mem_cons.1 hy with rfl | hy
      · exact hx
      · exact hxs y hy, rfl⟩
/-- A slice of records. -/
theorem rdc_recs {α : Type} {k : Nat} {t e : TypeId} {row : α → List D} {Q : α → Prop} (ht : Try.prog.underlying t = some (.slice e)) (hk : Try.prog.cellsOf e = k) (hk0 : 0 < k) (hl : ∀ x, (row x).length = k) (hrd : Rd enc w base spare held e (fun r => ∃ x, Q x ∧ r = row x)) :
    Rd enc w base spare held t (fun r => ∃ xs : List α, xs.length ≤ maxLen ∧ (∀ x ∈ xs, Q x) ∧ r = [.sl k (xs.map row)]) :=
  Rd.mono (rdc_slice (S := fun r => ∃ x, Q x ∧ r = row x) ht hk hk0 (Rd.mono hrd (by rintro r ⟨x, hx, e⟩; exact ⟨⟨x, hx, e⟩, by rw [e, hl]⟩))) (by
    rintro r ⟨rows, h1, h2, h3⟩
    obtain ⟨xs, h4, rfl⟩ := rows_of h2
    exact ⟨xs, by simpa using h1, h4, h3⟩)
set_option maxRecDepth 100000 in
theorem rdt_int {S : List D → Prop} {r : Reach} {b0 : Nat} {v : Value} {d : DataW H} {p : List MemPlace} (hv : Value.okWide Try.prog w r b0 2 v) (h : DataW.Trod enc Try.prog w base spare held 2 v d p) (hrd : Rd enc w base spare held 2 S) : ∃ r, S r ∧ RdRow w r [v] := by
  obtain ⟨n, rfl⟩ := okWide_int Try.underlying2 hv
  obtain ⟨fuel, hf⟩ := h
  exact hrd hf
set_option maxRecDepth 100000 in
theorem rdt_struct {t : TypeId} {S : List D → Prop} {fs : Array Field} {r : Reach} {b0 : Nat} {v : Value} {d : DataW H} {p : List MemPlace} (ht : Try.prog.underlying t = some (.struct fs)) (hv : Value.okWide Try.prog w r b0 t v) (h : DataW.Trod enc Try.prog w base spare held t v d p) (hrd : Rd enc w base spare held t S) : ∃ r cs, S r ∧ RdRow w r cs ∧ v = .agg cs.toArray := by
  obtain ⟨cs, rfl, _⟩ := okWide_struct ht hv
  obtain ⟨fuel, hf⟩ := h
  have : (Value.agg cs).cells.toList = cs.toList := by simp [Value.cells]
  rw [this] at hf
  obtain ⟨r, h1, h2⟩ := hrd hf
  exact ⟨r, cs.toList, h1, h2, by simp⟩
end
end Go.Proofs.Ytcjidnpkeliieaa
