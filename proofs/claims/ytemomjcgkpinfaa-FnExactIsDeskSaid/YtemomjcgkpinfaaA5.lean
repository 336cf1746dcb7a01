/-
  What the operations do, in the abstract reading: fields, elements, lengths, sums and tests; slices made, cut, appended to.
-/
import Derived.Test.YtemomjcgkpinfaaA4
namespace Go.Proofs.Ytemomjcgkpinfaa
open Go Go.RowKit
set_option linter.unusedSimpArgs false
set_option linter.unusedVariables false

section
variable {P : Program} {o : Oper} {A : Operand → AV} {H : Heap} {new : Nat}
/-- An operation on known values. -/
theorem OpOk.known1 {x : Operand} {a v : Value} (hx : A x = .d (.v a)) (hm : x ∈ o.op.operands) (h : ∀ (ρ : Operand → Value) (w : World), ρ x = a → (execOp ρ o).run P w = .ok (.value v) w) : OpOk P o A [] H new (.d (.v v)) [] :=
  .still [] fun ι F w H1 ρ _ _ hv => by
    have h1 := hv x hm
    rw [hx] at h1
    exact ⟨v, h ρ w h1.v_inv, .d (.v _)⟩
theorem OpOk.known2 {x y : Operand} {a b v : Value} (hx : A x = .d (.v a)) (hy : A y = .d (.v b)) (hm : x ∈ o.op.operands) (hm' : y ∈ o.op.operands) (h : ∀ (ρ : Operand → Value) (w : World), ρ x = a → ρ y = b → (execOp ρ o).run P w = .ok (.value v) w) : OpOk P o A [] H new (.d (.v v)) [] :=
  .still [] fun ι F w H1 ρ _ _ hv => by
    have h1 := hv x hm
    have h2 := hv y hm'
    rw [hx] at h1; rw [hy] at h2
    exact ⟨v, h ρ w h1.v_inv h2.v_inv, .d (.v _)⟩
def plainEq : Value → Value → Bool
  | .nilIface, .nilIface => false
  | .agg _, .agg _ => false
  | _, _ => true
theorem run_eqGuard {op : BinOp} {t : TypeId} {x y : Operand} {a b : Value} {w : World} (hg : plainEq a b = true) : (eqGuard op t x y a b).run P w = .ok () w := by
  unfold eqGuard
  cases op <;> first
    | rfl
    | (cases a <;> cases b <;> first | (simp [plainEq] at hg; done) | rfl)
/-- A test or a sum of two known values of one cell each. -/
theorem OpOk.bin {op : BinOp} {t t' : TypeId} {x y : Operand} {a b v : Value} (ho : o.op = .binOp op t x y t') (hx : A x = .d (.v a)) (hy : A y = .d (.v b)) (hg : plainEq a b = true)
    (h : ∀ w, (binOp op t a b).run P w = .ok v w) : OpOk P o A [] H new (.d (.v v)) [] := by
  refine .known2 hx hy (by simp [ho, Op.operands]) (by simp [ho, Op.operands]) fun ρ w h1 h2 => ?_
  have hgd := run_eqGuard (P := P) (op := op) (t := t) (x := x) (y := y) (w := w) hg
  simp [execOp, ho, h1, h2, hgd, h w]
theorem OpOk.un {op : UnOp} {t : TypeId} {x : Operand} {a v : Value} (ho : o.op = .unOp op t x) (hx : A x = .d (.v a)) (h : ∀ w, (Op.unary op a).run P w = .ok v w) : OpOk P o A [] H new (.d (.v v)) [] :=
  .known1 hx (by simp [ho, Op.operands]) fun ρ w h1 => by simp [execOp, ho, h1, h w]
theorem OpOk.conv {s t : TypeId} {x : Operand} {a v : Value} (ho : o.op = .convert s t x) (hx : A x = .d (.v a)) (h : ∀ w, (convert s t a).run P w = .ok v w) : OpOk P o A [] H new (.d (.v v)) [] :=
  .known1 hx (by simp [ho, Op.operands]) fun ρ w h1 => by simp [execOp, ho, h1, h w]

theorem run_fieldAt' {s t : TypeId} {f off n : Nat} [h : TyField P s f off t n] (hn : n ≠ 0) {b o' : Nat} {w : World} : (Instr.fieldAt s (.pointer (some ⟨b, o', none⟩)) f).run P w = .ok (.pointer (some ⟨b, o' + off, none⟩)) w := by
  have h1 := h.u
  cases hu : P.underlying s with
  | none => rw [hu] at h1; cases h1
  | some d =>
    rw [hu] at h1
    cases d <;> simp only [reduceCtorEq] at h1
    rename_i fs
    cases hf : fs[f]? with
    | none => rw [hf] at h1; cases h1
    | some x =>
      rw [hf] at h1
      simp only [Option.map_some, Option.some.injEq, Prod.mk.injEq] at h1
      obtain ⟨rfl, rfl⟩ := h1
      simp [Instr.fieldAt, run_underlying hu, hf, Instr.sureAddr, fieldPlace, run_sizeOf' h.s, hn, addr_add]
theorem OpOk.fieldAddr {s t : TypeId} {x : Operand} {f off n k i j : Nat} {l : Loc} (ho : o.op = .fieldAddr s x f) (hx : A x = .ptr k l i j) [TyField P s f off t n] (hn : n ≠ 0) : OpOk P o A [] H new (.ptr k l i (j + off)) [] :=
  .still [] fun ι F w H1 ρ _ _ hv => by
    have h1 := hv x (by simp [ho, Op.operands])
    rw [hx] at h1
    obtain ⟨b, sz, e, hp⟩ := h1.ptr_inv
    refine ⟨.pointer (some ⟨b, i * k + j + off, none⟩), by simp [execOp, ho, hp, run_fieldAt' (P := P) (s := s) (f := f) (off := off) (t := t) (n := n) hn], ?_⟩
    rw [Nat.add_assoc]
    exact .ptr k l i (j + off) b sz e
theorem OpOk.fieldDAddr {s t : TypeId} {x : Operand} {f off n : Nat} {cs : List D} (ho : o.op = .fieldAddr s x f) (hx : A x = .dptr cs) [TyField P s f off t n] (hn : n ≠ 0) : OpOk P o A [] H new (.dptr (cs.drop off)) [] :=
  .still [] fun ι F w H1 ρ _ _ hv => by
    have h1 := hv x (by simp [ho, Op.operands])
    rw [hx] at h1
    generalize hy : ρ x = y at h1
    cases h1 with
    | dptr _ b of g hF h hd =>
      refine ⟨.pointer (some ⟨b, of + off, none⟩), by simp [execOp, ho, hy, run_fieldAt' (P := P) (s := s) (f := f) (off := off) (t := t) (n := n) hn], ?_⟩
      refine .dptr _ b (of + off) (fun j => g (off + j)) hF (fun j c hc => ?_) (fun j c hc => ?_)
      · rw [List.getElem?_drop] at hc; rw [Nat.add_assoc]; exact h _ _ hc
      · rw [List.getElem?_drop] at hc; exact hd _ _ hc

theorem run_indexAt' {t e : TypeId} {k b : Nat} {z : Value} [h : TySlice P t e k b z] {B off n cap : Nat} {kd : IntKind} {i : Int} {w : World} (h0 : 0 ≤ i) (h1 : i < n) :
    (Instr.indexAt t (.slice (some ⟨B, off, none⟩) n cap) (.int kd i)).run P w = .ok (.pointer (some ⟨B, off + i.toNat * k, none⟩)) w := by
  have hs : (P.info? e).map (·.size) = some k := by
    have := h.s
    cases hi : P.info? e with
    | none => rw [hi] at this; cases this
    | some i => rw [hi] at this; simp at this; simp [this.1]
  simp [Instr.indexAt, asIntOf, run_underlying h.u, h0, h1, run_sizeOf' hs, addr_add]
theorem OpOk.indexOwn {t e : TypeId} {x y : Operand} {k b off n : Nat} {z : Value} {l : Loc} {kd : IntKind} {i : Int} (ho : o.op = .indexAddr t x y) (hx : A x = .own k l off n) (hy : A y = .d (.v (.int kd i))) [TySlice P t e k b z] (h0 : 0 ≤ i) (h1 : i < n) : OpOk P o A [] H new (.ptr k l (off + i.toNat) 0) [] :=
  .still [] fun ι F w H1 ρ _ _ hv => by
    have h2 := hv x (by simp [ho, Op.operands])
    have h3 := hv y (by simp [ho, Op.operands])
    rw [hx] at h2; rw [hy] at h3
    have h4 := h3.v_inv
    rcases h2.own_inv with ⟨B, sz, cap, e1, _, _, hp⟩ | ⟨_, _, rfl, _⟩
    · refine ⟨.pointer (some ⟨B, off * k + i.toNat * k, none⟩), by simp [execOp, ho, hp, h4, run_indexAt' (P := P) (t := t) (k := k) (b := b) (z := z) h0 h1], ?_⟩
      rw [← Nat.add_mul]
      exact .ptr k l (off + i.toNat) 0 B sz e1
    · omega
theorem OpOk.indexD {t e : TypeId} {x y : Operand} {k b : Nat} {z : Value} {rows : List (List D)} {r : List D} {kd : IntKind} {i : Int} (ho : o.op = .indexAddr t x y) (hx : A x = .d (.sl k rows)) (hy : A y = .d (.v (.int kd i))) [TySlice P t e k b z] (h0 : 0 ≤ i) (hr : rows[i.toNat]? = some r) (hk : 0 < r.length) : OpOk P o A [] H new (.dptr r) [] :=
  .still [] fun ι F w H1 ρ _ _ hv => by
    have h2 := hv x (by simp [ho, Op.operands])
    have h3 := hv y (by simp [ho, Op.operands])
    rw [hx] at h2; rw [hy] at h3
    have h4 := h3.v_inv
    have h5 := h2.sl_inv
    have hlt := (List.getElem?_eq_some_iff.1 hr).1
    generalize hq : ρ x = q at h5
    cases h5 with
    | sl _ _ a cap g hcap h hd =>
      obtain ⟨B, off, rfl, hF, hc⟩ := h i.toNat r 0 r[0] hr (List.getElem?_eq_getElem hk)
      refine ⟨.pointer (some ⟨B, off + i.toNat * k, none⟩), by simp [execOp, ho, hq, h4, run_indexAt' (P := P) (t := t) (k := k) (b := b) (z := z) h0 (by omega : i < rows.length)], ?_⟩
      refine .dptr r B _ (fun j => g i.toNat j) hF (fun j c hc => ?_) (fun j c hc => hd _ _ _ _ hr hc)
      obtain ⟨B', off', e', _, h6⟩ := h i.toNat r j c hr hc
      simp only [Option.some.injEq, Addr.mk.injEq, and_true] at e'
      obtain ⟨rfl, rfl⟩ := e'
      exact h6
theorem OpOk.len {ts : Array TypeId} {t e : TypeId} {x : Operand} {k b n k' : Nat} {z : Value} (ho : o.op = .call { callee := .builtin .len, args := #[x], argTypes := ts }) (ht : ts[0]? = some t) [h : TySlice P t e k b z] (hx : (∃ l off, A x = .own k' l off n) ∨ (∃ rows, A x = .d (.sl k' rows) ∧ rows.length = n) ∨ (A x = .d (.v (.slice none 0 0)) ∧ n = 0)) : OpOk P o A [] H new (.d (.v (.int .i64 n))) [] :=
  .still [] fun ι F w H1 ρ _ _ hv => by
    have h2 := hv x (by simp [ho, Op.operands, Call.operands])
    have h3 : ∃ a cap, ρ x = .slice a n cap := by
      rcases hx with ⟨l, off, hx⟩ | ⟨rows, hx, rfl⟩ | ⟨hx, rfl⟩ <;> rw [hx] at h2
      · rcases h2.own_inv with ⟨B, sz, cap, _, _, _, hp⟩ | ⟨_, _, rfl, hp⟩
        · exact ⟨_, _, hp⟩
        · exact ⟨_, _, hp⟩
      · have h5 := h2.sl_inv
        generalize ρ x = q at h5
        cases h5 with | sl _ _ a cap g hcap h hd => exact ⟨_, _, rfl⟩
      · exact ⟨_, _, h2.v_inv⟩
    obtain ⟨a, cap, h3⟩ := h3
    exact ⟨.int .i64 n, by simp [execOp, ho, resolve, invoke, builtin, Builtin.len_, ht, h3, run_underlying h.u, goInt], .d (.v _)⟩
theorem OpOk.lenStr {ts : Array TypeId} {t : TypeId} {x : Operand} {s : ByteArray} (ho : o.op = .call { callee := .builtin .len, args := #[x], argTypes := ts }) (ht : ts[0]? = some t) [h : TyString P t] (hx : A x = .d (.v (.string s))) : OpOk P o A [] H new (.d (.v (.int .i64 s.size))) [] :=
  .known1 hx (by simp [ho, Op.operands, Call.operands]) fun ρ w h3 => by simp [execOp, ho, resolve, invoke, builtin, Builtin.len_, ht, h3, run_underlying h.u, goInt]
theorem OpOk.extract {x : Operand} {i : Nat} {cs : List AV} {c : AV} (ho : o.op = .extract x i) (hx : A x = .tup cs) (hc : cs[i]? = some c) : OpOk P o A [] H new c [] :=
  .still [] fun ι F w H1 ρ _ _ hv => by
    have h2 := hv x (by simp [ho, Op.operands])
    rw [hx] at h2
    obtain ⟨vs, hp, h⟩ := h2.tup_inv
    obtain ⟨v, h1, h3⟩ := h.get hc
    exact ⟨v, by simp [execOp, ho, hp, Instr.extract, h1], h3⟩
theorem OpOk.fieldCell {s t : TypeId} {x : Operand} {f off n : Nat} {cs : List AV} {c : AV} (ho : o.op = .field s x f) (hx : A x = .agg cs) [h : TyField P s f off t n] [ht : TyCell P t] (hc : cs[off]? = some c) : OpOk P o A [] H new c [] :=
  .still [] fun ι F w H1 ρ _ _ hv => by
    have h2 := hv x (by simp [ho, Op.operands])
    rw [hx] at h2
    obtain ⟨vs, hp, hvs⟩ := h2.agg_inv
    obtain ⟨v, h1, h3⟩ := hvs.get hc
    have hu := h.u
    refine ⟨v, ?_, h3⟩
    cases hd : P.underlying s with
    | none => rw [hd] at hu; cases hu
    | some d =>
      rw [hd] at hu
      cases d <;> simp only [reduceCtorEq] at hu
      rename_i fs
      cases hf : fs[f]? with
      | none => rw [hf] at hu; cases hu
      | some y =>
        rw [hf] at hu
        simp only [Option.map_some, Option.some.injEq, Prod.mk.injEq] at hu
        obtain ⟨rfl, rfl⟩ := hu
        simp [execOp, ho, hp, Instr.field, run_underlying hd, hf, asAgg, part, run_isAgg ht.u, h1]
theorem OpOk.fieldAgg {s t : TypeId} {x : Operand} {f off n : Nat} {cs : List AV} (ho : o.op = .field s x f) (hx : A x = .agg cs) [h : TyField P s f off t n] [ht : TyAgg P t n] (hc : off + n ≤ cs.length) : OpOk P o A [] H new (.agg ((cs.drop off).take n)) [] :=
  .still [] fun ι F w H1 ρ _ _ hv => by
    have h2 := hv x (by simp [ho, Op.operands])
    rw [hx] at h2
    obtain ⟨vs, hp, hvs⟩ := h2.agg_inv
    have hu := h.u
    have hvs' : VRs ι F w ((cs.drop off).take n) ((vs.drop off).take n) := by
      refine ⟨by simp [hvs.1], fun m c v hc hv => ?_⟩
      simp only [List.getElem?_take, List.getElem?_drop] at hc hv
      split at hc
      · rename_i hm
        rw [if_pos hm] at hv
        exact hvs.2 _ _ _ hc hv
      · cases hc
    refine ⟨_, ?_, hvs'.agg⟩
    cases hd : P.underlying s with
    | none => rw [hd] at hu; cases hu
    | some d =>
      rw [hd] at hu
      cases d <;> simp only [reduceCtorEq] at hu
      rename_i fs
      cases hf : fs[f]? with
      | none => rw [hf] at hu; cases hu
      | some y =>
        rw [hf] at hu
        simp only [Option.map_some, Option.some.injEq, Prod.mk.injEq] at hu
        obtain ⟨rfl, rfl⟩ := hu
        simp [execOp, ho, hp, Instr.field, run_underlying hd, hf, asAgg, part, run_isAgg ht.u, run_sizeOf' ht.s]

/-! ### New rows -/
/-- A new row of the call's own, off an operation that lays one. -/
theorem OpOk.newRow {k n : Nat} {rows : List (List AV)} (reads : List Loc) (hrn : rows.length = n) (hrk : ∀ r ∈ rows, r.length = k)
    (h : ∀ (ι : Iota) (F : Nat → Prop) (w : World) (H1 : Heap) (ρ : Operand → Value), (∀ l ∈ reads, H1 l = H l) → Sim ι F H1 w → (∀ x ∈ o.op.operands, VR ι F w (A x) (ρ x)) →
      ∃ (w1 : World) (cs : List Value) (cap : Nat) (T : TypeId), (execOp ρ o).run P w = .ok (.value (.slice (some ⟨w.heap.size, 0, none⟩) n cap)) (w1.alloc (.cells cs.toArray T)) ∧ (w1 = w ∨ w1 = w.drew) ∧ n ≤ cap ∧ cap * k ≤ cs.length ∧
        ∀ (i : Nat) r, rows[i]? = some r → ∀ (j : Nat) c, r[j]? = some c → ∃ v, cs[i * k + j]? = some v ∧ VR ι F w c v) :
    OpOk P o A reads H new (.own k ⟨new, []⟩ 0 n) [.one ⟨new, []⟩ (some ⟨k, rows⟩)] := by
  intro ι F w H1 ρ h1 hn hs hv
  obtain ⟨w1, cs, cap, T, hr, hw, hcap, hfit, hc⟩ := h ι F w H1 ρ h1 hs hv
  rw [hr]
  have hsz : w1.heap.size = w.heap.size := by rcases hw with rfl | rfl <;> rfl
  have hs1 : Sim ι F H1 w1 := by rcases hw with rfl | rfl <;> first | exact hs | exact hs.drew
  have hp := Post.alloc hs1 hn cs T ⟨k, rows⟩ (by rw [hrn]; exact Nat.le_trans (Nat.mul_le_mul_right _ hcap) hfit) (fun i r hr => ⟨hrk r (List.mem_of_getElem? hr), fun j c hj => by
    obtain ⟨v, h2, h3⟩ := hc i r hr j c hj
    exact ⟨v, h2, h3.mono (fun _ _ h => h) (fun _ h => h) (fun b _ => by rcases hw with rfl | rfl <;> rfl)⟩⟩) reads
  rw [hsz] at hp
  have hp' : Post ι F H1 w reads new (updι ι ⟨new, []⟩ (some (w.heap.size, cs.length))) F (upd H1 ⟨new, []⟩ (some ⟨k, rows⟩)) (w1.alloc (.cells cs.toArray T)) := by
    rcases hw with rfl | rfl
    · exact hp
    · exact ⟨hp.sim, hp.ext, hp.dom, hp.sub, hp.sup, ⟨hp.step.os, hp.step.tape, hp.step.output, hp.step.size, hp.step.block⟩, hp.own⟩
  refine ⟨_, F, ?_, hp'⟩
  have := VR.own (ι := updι ι ⟨new, []⟩ (some (w.heap.size, cs.length))) (F := F) (w := w1.alloc (.cells cs.toArray T)) k ⟨new, []⟩ 0 n w.heap.size cs.length cap (by simp [updι]) hcap (by simpa using hfit)
  simpa using this
theorem madeCells_get {z : Array Value} {n k : Nat} (hz : z.size = k) {i j : Nat} (hi : i < n) (hj : j < k) : (madeCells z (n * k)).toList[i * k + j]? = z[j]? := by
  have hlt : i * k + j < n * k := by
    have : (i + 1) * k ≤ n * k := Nat.mul_le_mul_right _ hi
    rw [Nat.succ_mul] at this; omega
  have hm : (i * k + j) % k = j := by rw [Nat.add_comm, Nat.add_mul_mod_self_right, Nat.mod_eq_of_lt hj]
  have hjz : j < z.size := by omega
  simp [madeCells, hlt, hz, hm]
  rw [getElem!_pos z j hjz, Array.getElem?_eq_getElem hjz]
theorem OpOk.makeSlice {t e : TypeId} {x y : Operand} {k b : Nat} {z : Value} {kl kc : IntKind} {n : Int} (ho : o.op = .makeSlice t x y) (hx : A x = .d (.v (.int kl n))) (hy : A y = .d (.v (.int kc n))) [h : TySlice P t e k b z] (h0 : 0 ≤ n) (hb : (b : Int) * n ≤ 281474976710656) (h63 : n ≤ 9223372036854775807) :
    OpOk P o A [] H new (.own k ⟨new, []⟩ 0 n.toNat) [.one ⟨new, []⟩ (some ⟨k, List.replicate n.toNat (z.cells.toList.map fun x => .d (.v x))⟩)] := by
  refine .newRow [] (by simp) (fun r hr => by rw [List.eq_of_mem_replicate hr]; simpa using h.zs) fun ι F w H1 ρ _ hs hv => ?_
  have h1 := hv x (by simp [ho, Op.operands])
  have h2 := hv y (by simp [ho, Op.operands])
  rw [hx] at h1; rw [hy] at h2
  have h3 := h1.v_inv
  have h4 := h2.v_inv
  have hsi := h.s
  cases hi : P.info? e with
  | none => rw [hi] at hsi; cases hsi
  | some i =>
    rw [hi] at hsi
    simp only [Option.map_some, Option.some.injEq, Prod.mk.injEq] at hsi
    obtain ⟨rfl, rfl, hz⟩ := hsi
    have hr := run_make (P := P) w t e i z h.u hi hz kl kc n n h0 (Int.le_refl _) hb h63
    refine ⟨w, (madeCells z.cells (n.toNat * i.size)).toList, n.toNat, e, by simp [execOp, ho, h3, h4, hr], .inl rfl, Nat.le_refl _, by simp [size_madeCells], fun m r hm j c hj => ?_⟩
    rw [List.getElem?_replicate] at hm
    split at hm
    · cases hm
      simp only [List.getElem?_map, Option.map_eq_some_iff] at hj
      obtain ⟨v, h5, rfl⟩ := hj
      have hjk : j < i.size := by have := (List.getElem?_eq_some_iff.1 h5).1; rw [← h.zs]; simpa using this
      exact ⟨v, by rw [madeCells_get h.zs (by assumption) hjk]; simpa using h5, .d (.v _)⟩
    · cases hm
end
end Go.Proofs.Ytemomjcgkpinfaa
