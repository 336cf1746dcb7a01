/-
  What the operations do, in the abstract reading: structs and slices built, slices cut, appended to.
-/
import Derived.Test.YtemomjcgkpinfaaA5
namespace Go.Proofs.Ytemomjcgkpinfaa
open Go Go.RowKit
set_option linter.unusedSimpArgs false
set_option linter.unusedVariables false

/-! ### Literals -/
theorem foldl_seg (off : Nat) : ∀ (vs : List Value) (n : Nat) (cur : Array Value), off + n + vs.length ≤ cur.size →
    ((vs.zipIdx n).foldl (fun cs (x : Value × Nat) => cs.setIfInBounds (off + x.2) x.1) cur).toList = cur.toList.take (off + n) ++ vs ++ cur.toList.drop (off + n + vs.length)
  | [], n, cur, h => by simp
  | v :: vs, n, cur, h => by
    simp only [List.zipIdx_cons, List.foldl_cons]
    rw [foldl_seg off vs (n + 1) _ (by simp at h ⊢; omega)]
    have e := list_seg_step cur.toList (off + n) v vs (by simp at h ⊢; omega)
    simp only [List.length_cons, Array.toList_setIfInBounds]
    rw [show off + (n + 1) = off + n + 1 by omega, e]
def fillA (place : Nat → Option (Nat × Nat)) (cells : List AV) : List (Nat × AV) → Option (List AV)
  | [] => some cells
  | (i, v) :: rest =>
    match place i with
    | none => none
    | some (off, size) => if v.cells.length ≠ size || off + size > cells.length then none else fillA place (cells.take off ++ v.cells ++ cells.drop (off + size)) rest
section
variable {ι : Iota} {F : Nat → Prop} {w : World}
theorem VRs.append {cs cs' : List AV} {vs vs' : List Value} (h : VRs ι F w cs vs) (h' : VRs ι F w cs' vs') : VRs ι F w (cs ++ cs') (vs ++ vs') := by
  refine ⟨by simp [h.1, h'.1], fun i c v hc hv => ?_⟩
  rw [List.getElem?_append] at hc hv
  rw [h.1] at hv
  split at hc
  · rename_i hi; rw [if_pos hi] at hv; exact h.2 i c v hc hv
  · rename_i hi; rw [if_neg hi] at hv; exact h'.2 _ c v hc hv
theorem VRs.take {cs : List AV} {vs : List Value} (h : VRs ι F w cs vs) (n : Nat) : VRs ι F w (cs.take n) (vs.take n) := by
  refine ⟨by simp [h.1], fun i c v hc hv => ?_⟩
  rw [List.getElem?_take] at hc hv
  split at hc
  · rename_i hi; rw [if_pos hi] at hv; exact h.2 i c v hc hv
  · cases hc
theorem VRs.drop {cs : List AV} {vs : List Value} (h : VRs ι F w cs vs) (n : Nat) : VRs ι F w (cs.drop n) (vs.drop n) := by
  refine ⟨by simp [h.1], fun i c v hc hv => ?_⟩
  rw [List.getElem?_drop] at hc hv
  exact h.2 _ c v hc hv
theorem fill_sound {place : Nat → Option (Nat × Nat)} : ∀ {parts : List (Nat × Operand)} {A : Operand → AV} {ρ : Operand → Value} {cells cells' : List AV} {cur : Array Value}, VRs ι F w cells cur.toList → (∀ p ∈ parts, VR ι F w (A p.2) (ρ p.2)) → (∀ p ∈ parts, (A p.2).cells.all AV.one = true) →
    fillA place cells (parts.map fun p => (p.1, A p.2)) = some cells' → ∃ cur', Instr.fill place cur (parts.map fun p => (p.1, ρ p.2)) = some cur' ∧ VRs ι F w cells' cur'.toList
  | [], A, ρ, cells, cells', cur, hv, _, _, h => by simp [fillA] at h; subst h; exact ⟨cur, rfl, hv⟩
  | (i, x) :: rest, A, ρ, cells, cells', cur, hv, hp, ho, h => by
    simp only [List.map_cons, fillA] at h
    simp only [List.map_cons, Instr.fill]
    cases hpl : place i with
    | none => rw [hpl] at h; cases h
    | some os =>
      obtain ⟨off, size⟩ := os
      rw [hpl] at h
      simp only at h ⊢
      split at h
      · cases h
      · rename_i hc
        simp only [Bool.or_eq_true, decide_eq_true_eq, not_or, ne_eq, Decidable.not_not, Nat.not_lt] at hc
        obtain ⟨hcx, hone⟩ := (hp (i, x) (by simp)).cells (ho (i, x) (by simp))
        have hvl : (ρ x).cells.size = size := by have := hcx.1; simp at this; rw [this]; exact hc.1
        have hcl : cells.length = cur.size := by have := hv.1; simpa using this.symm
        have hcond : ¬ ((ρ x).cells.size ≠ size || decide (off + (ρ x).cells.size > cur.size)) = true := by
          simp [hvl]; omega
        rw [if_neg hcond]
        have hseg : ((ρ x).cells.zipIdx.foldl (fun cs (x : Value × Nat) => cs.setIfInBounds (off + x.2) x.1) cur).toList = cur.toList.take off ++ (ρ x).cells.toList ++ cur.toList.drop (off + size) := by
          have := foldl_seg off (ρ x).cells.toList 0 cur (by simp; omega)
          simp only [Nat.add_zero, Array.length_toList, hvl] at this
          rw [← Array.foldl_toList]
          simpa using this
        exact fill_sound (cur := (ρ x).cells.zipIdx.foldl (fun cs (x : Value × Nat) => cs.setIfInBounds (off + x.2) x.1) cur) (by rw [hseg]; exact ((hv.take off).append hcx).append (hv.drop (off + size))) (fun p hp' => hp p (by simp [hp'])) (fun p hp' => ho p (by simp [hp'])) h
end
theorem flatten_at {k : Nat} : ∀ {rows : List (List AV)} {i j : Nat} {r : List AV} {c : AV}, (∀ r ∈ rows, r.length = k) → rows[i]? = some r → r[j]? = some c → rows.flatten[i * k + j]? = some c
  | [], i, j, r, c, _, h, _ => by simp at h
  | y :: ys, 0, j, r, c, _, h, hc => by
    simp at h; subst h
    simp only [List.flatten_cons, Nat.zero_mul, Nat.zero_add]
    rw [List.getElem?_append_left (List.getElem?_eq_some_iff.1 hc).1]; exact hc
  | y :: ys, i + 1, j, r, c, hk, h, hc => by
    simp at h
    have := flatten_at (fun r hr => hk r (by simp [hr])) h hc
    have hy := hk y (by simp)
    simp only [List.flatten_cons]
    rw [List.getElem?_append_right (by rw [hy, Nat.succ_mul]; omega), hy, show (i + 1) * k + j - k = i * k + j by rw [Nat.succ_mul]; omega]
    exact this
theorem flatten_len {k : Nat} : ∀ {rows : List (List AV)}, (∀ r ∈ rows, r.length = k) → rows.flatten.length = rows.length * k
  | [], _ => by simp
  | y :: ys, h => by rw [List.flatten_cons, List.length_append, h y (by simp), flatten_len fun r hr => h r (by simp [hr]), List.length_cons, Nat.succ_mul, Nat.add_comm]
/-- Parts in order fill the whole. -/
theorem fillA_rows {k : Nat} : ∀ (xs : List AV) (n : Nat) (cells : List AV), (∀ x ∈ xs, x.cells.length = k) → cells.length = (n + xs.length) * k → fillA (fun i => some (i * k, k)) cells ((xs.zipIdx n).map fun p => (p.2, p.1)) = some (cells.take (n * k) ++ (xs.map AV.cells).flatten)
  | [], n, cells, _, hl => by simp [fillA, List.take_of_length_le, hl]
  | x :: xs, n, cells, hk, hl => by
    have hx := hk x (by simp)
    have hle : n * k + k ≤ cells.length := by
      have : (n + 1) * k ≤ (n + (xs.length + 1)) * k := Nat.mul_le_mul_right _ (by omega)
      rw [Nat.succ_mul] at this
      rw [hl]; simpa using this
    simp only [List.zipIdx_cons, List.map_cons, fillA, hx]
    have hcond : ¬ ((k ≠ k || decide (n * k + k > cells.length)) = true) := by simp; omega
    rw [if_neg hcond]
    rw [fillA_rows xs (n + 1) _ (fun y hy => hk y (by simp [hy])) (by
      simp only [List.length_append, List.length_take, List.length_drop, hx]
      rw [Nat.min_eq_left (by omega)]
      simp only [List.length_cons] at hl
      rw [show n + 1 + xs.length = n + (xs.length + 1) by omega, ← hl]; omega)]
    congr 1
    have hm : min (n * k) cells.length = n * k := by omega
    have e1 : (List.take (n * k) cells ++ x.cells ++ List.drop (n * k + k) cells).take ((n + 1) * k) = List.take (n * k) cells ++ x.cells := by
      rw [List.take_append_of_le_length (by simp [hx, hm, Nat.succ_mul]), List.take_of_length_le (by simp [hx, hm, Nat.succ_mul])]
    rw [e1]
    simp
section
variable {P : Program} {o : Oper} {A : Operand → AV} {H : Heap} {new : Nat}
theorem zero_flat {z : Value} {k n : Nat} (hz : z.cells.size = k) (ι : Iota) (F : Nat → Prop) (w : World) : VRs ι F w ((madeCells z.cells (n * k)).toList.map fun x => .d (.v x)) (madeCells z.cells (n * k)).toList := by
  refine ⟨by simp, fun i c v hc hv => ?_⟩
  simp only [List.getElem?_map, hv, Option.map_some, Option.some.injEq] at hc
  subst hc; exact .d (.v _)
theorem run_buildSlice' {t e : TypeId} {n k b : Nat} {z : Value} {pv : Array (Nat × Value)} {cur : Array Value} {w : World} [h : TySlice P t e k b z] (hsm : n * k ≤ 16777216) (hf : Instr.fill (fun i => some (i * k, k)) (madeCells z.cells (n * k)) pv.toList = some cur) :
    (Instr.buildSlice t n pv).run P w = .ok (.slice (some ⟨w.heap.size, 0, none⟩) n n) (w.alloc (.cells cur e)) := by
  have hsi := h.s
  cases hi : P.info? e with
  | none => rw [hi] at hsi; cases hsi
  | some i =>
    rw [hi] at hsi
    simp only [Option.map_some, Option.some.injEq, Prod.mk.injEq] at hsi
    obtain ⟨rfl, rfl, hz⟩ := hsi
    have hbig : ¬ (n * i.size > 16777216) := by omega
    unfold madeCells at hf
    by_cases h0 : n * i.size = 0
    · rw [h0] at hf
      simp only [Array.range_zero', Array.map_empty] at hf
      simp [Instr.buildSlice, run_underlying h.u, sizeOf, typeInfo, hi, h0, hf, Go.newRow, Array.range_zero']
    · simp [Instr.buildSlice, run_underlying h.u, sizeOf, typeInfo, hi, hbig, h0, zeroValue, hz, hf, Go.newRow]
theorem OpOk.buildSlice {t e : TypeId} {n k b : Nat} {z : Value} {parts : Array (Nat × Operand)} (xs : List Operand) (ho : o.op = .buildSlice t n parts) [h : TySlice P t e k b z] (hp : parts.toList = (xs.zipIdx).map fun p => (p.2, p.1)) (hn : xs.length = n) (hsm : n * k ≤ 16777216)
    (hone : ∀ x ∈ xs, (A x).cells.all AV.one = true) (hlen : ∀ x ∈ xs, (A x).cells.length = k) : OpOk P o A [] H new (.own k ⟨new, []⟩ 0 n) [.one ⟨new, []⟩ (some ⟨k, xs.map fun x => (A x).cells⟩)] := by
  refine .newRow [] (by simpa using hn) (fun r hr => by obtain ⟨x, hx, rfl⟩ := List.mem_map.1 hr; exact hlen x hx) fun ι F w H1 ρ _ hs hv => ?_
  have hpl : parts = ((xs.zipIdx).map fun p => (p.2, p.1)).toArray := by rw [← hp]
  have hops : ∀ x ∈ xs, VR ι F w (A x) (ρ x) := fun x hx => hv x (by
    obtain ⟨i, hi⟩ := List.getElem?_of_mem hx
    have : (x, i) ∈ xs.zipIdx := List.mem_zipIdx_iff_getElem?.2 hi
    simp only [ho, Op.operands, hp, List.map_map]
    exact List.mem_toArray.2 (List.mem_map.2 ⟨(x, i), this, rfl⟩))
  have hm2 : ∀ p ∈ (xs.zipIdx).map (fun p : Operand × Nat => (p.2, p.1)), p.2 ∈ xs := fun p hp' => by
    obtain ⟨q, hq, rfl⟩ := List.mem_map.1 hp'
    exact List.fst_mem_of_mem_zipIdx hq
  have hfa := fillA_rows (k := k) (xs.map A) 0 ((madeCells z.cells (n * k)).toList.map fun x => .d (.v x)) (fun y hy => by obtain ⟨x, hx, rfl⟩ := List.mem_map.1 hy; exact hlen x hx) (by simp [size_madeCells, hn])
  have hmap : ((xs.map A).zipIdx 0).map (fun p => (p.2, p.1)) = ((xs.zipIdx).map fun p => (p.2, p.1)).map fun p => (p.1, A p.2) := by
    simp [List.zipIdx_map, List.map_map, Function.comp_def]
  rw [hmap] at hfa
  simp only [Nat.zero_mul, List.take_zero, List.nil_append] at hfa
  obtain ⟨cur', hf, hvs⟩ := fill_sound (place := fun i => some (i * k, k)) (zero_flat (z := z) (k := k) (n := n) h.zs ι F w) (fun p hp' => hops p.2 (hm2 p hp')) (fun p hp' => hone p.2 (hm2 p hp')) hfa
  have hlk : cur'.size = n * k := by
    have := hvs.1
    simp only [Array.length_toList] at this
    rw [this, flatten_len (k := k) (fun r hr => by
      obtain ⟨y, hy, rfl⟩ := List.mem_map.1 hr
      obtain ⟨x, hx, rfl⟩ := List.mem_map.1 hy
      exact hlen x hx)]
    simp [hn]
  refine ⟨w, cur'.toList, n, e, ?_, .inl rfl, Nat.le_refl _, by simp [hlk], fun i r hr j c hj => ?_⟩
  · have hr := run_buildSlice' (P := P) (t := t) (e := e) (n := n) (k := k) (b := b) (z := z) (w := w) (pv := parts.map fun (x : Nat × Operand) => (x.1, ρ x.2)) (cur := cur') hsm (by rw [Array.toList_map, hp]; exact hf)
    simp [execOp, ho, hr]
  · have hr' : (xs.map A).map AV.cells = xs.map fun x => (A x).cells := by simp
    have := flatten_at (k := k) (rows := xs.map fun x => (A x).cells) (fun r hr => by obtain ⟨x, hx, rfl⟩ := List.mem_map.1 hr; exact hlen x hx) hr hj
    rw [hr'] at hvs
    exact hvs.get this
end
end Go.Proofs.Ytemomjcgkpinfaa
