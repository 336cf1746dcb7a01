/-
  The abstract reading: slices cut.
-/
import Derived.Test.YtemomjcgkpinfaaA14
namespace Go.Proofs.Ytemomjcgkpinfaa
open Go Go.RowKit
set_option linter.unusedSimpArgs false
set_option linter.unusedVariables false

theorem run_sliceBound {P : Program} {w : World} {kd : IntKind} {i : Int} {y : Nat} {code : BoundsCode} (h0 : 0 ≤ i) (h1 : i ≤ y) : (Instr.sliceBound (.int kd i) y code).run P w = .ok i.toNat w := by
  simp [Instr.sliceBound, asIntOf, h0, h1]
theorem run_sliceAt {P : Program} {w : World} {t e : TypeId} {k b : Nat} {z : Value} [h : TySlice P t e k b z] {a : Option Addr} {len cap l hb : Nat} {lo hi : Option Value} (hlo : (lo = none ∧ l = 0) ∨ ∃ kd i, lo = some (.int kd i) ∧ 0 ≤ i ∧ i.toNat = l) (hhi : (hi = none ∧ hb = len) ∨ ∃ kd i, hi = some (.int kd i) ∧ 0 ≤ i ∧ i.toNat = hb) (hl : l ≤ hb) (hh : hb ≤ len) (hc : len ≤ cap) :
    (Instr.sliceAt t (.slice a len cap) lo hi none).run P w = .ok (.slice (if cap = l then a else a.map (·.add (l * k))) (hb - l) (cap - l)) w := by
  have hs : (sizeOf e).run P w = .ok k w := run_sizeOf' (by
    have := h.s
    cases hi : P.info? e with
    | none => rw [hi] at this; cases this
    | some i => rw [hi] at this; simp only [Option.map_some, Option.some.injEq, Prod.mk.injEq] at this; simp [this.1])
  have hb1 : (match hi with | some v => Instr.sliceBound v cap .sliceAcap | none => pure len).run P w = .ok hb w := by
    rcases hhi with ⟨rfl, rfl⟩ | ⟨kd, i, rfl, h0, rfl⟩
    · simp
    · exact run_sliceBound h0 (by omega)
  have hb2 : (match lo with | some v => Instr.sliceBound v hb .sliceB | none => pure 0).run P w = .ok l w := by
    rcases hlo with ⟨rfl, rfl⟩ | ⟨kd, i, rfl, h0, rfl⟩
    · simp
    · exact run_sliceBound h0 (by omega)
  have hbd : (Instr.sliceBounds true len cap lo hi none).run P w = .ok (l, hb, cap) w := by
    unfold Instr.sliceBounds
    rcases hhi with ⟨rfl, rfl⟩ | ⟨kd, i, rfl, h0, rfl⟩ <;> rcases hlo with ⟨rfl, rfl⟩ | ⟨kd', i', rfl, h0', rfl⟩
    · simp
    · simp [run_sliceBound (P := P) (w := w) h0' (by omega : i' ≤ (hb : Int))]
    · simp [run_sliceBound (P := P) (w := w) h0 (by omega : i ≤ (cap : Int))]
    · simp [run_sliceBound (P := P) (w := w) h0 (by omega : i ≤ (cap : Int)), run_sliceBound (P := P) (w := w) h0' (by omega : i' ≤ (i.toNat : Int))]
  simp [Instr.sliceAt, Instr.slice, run_underlying h.u, hbd, hs]
/-- A bound of a cut: left out, or a number. -/
def BndIs (A : Operand → AV) (x : Option Operand) (dflt v : Nat) : Prop := (x = none ∧ v = dflt) ∨ ∃ y kd i, x = some y ∧ A y = .d (.v (.int kd i)) ∧ 0 ≤ i ∧ i.toNat = v
theorem BndIs.none {A : Operand → AV} {d : Nat} : BndIs A none d d := .inl ⟨rfl, rfl⟩
theorem BndIs.some {A : Operand → AV} {d : Nat} {y : Operand} {kd : IntKind} {i : Int} {v : Nat} (h : A y = .d (.v (.int kd i))) (h0 : 0 ≤ i) (h1 : i.toNat = v) : BndIs A (some y) d v := .inr ⟨y, kd, i, rfl, h, h0, h1⟩
section
variable {P : Program} {o : Oper} {A : Operand → AV} {H : Heap} {new : Nat}
theorem BndIs.val {ι : Iota} {F : Nat → Prop} {w : World} {ρ : Operand → Value} {x : Option Operand} {d v : Nat} (h : BndIs A x d v) (hv : ∀ y, x = Option.some y → VR ι F w (A y) (ρ y)) : (x.map ρ = Option.none ∧ v = d) ∨ ∃ kd i, x.map ρ = Option.some (.int kd i) ∧ 0 ≤ i ∧ i.toNat = v := by
  rcases h with ⟨rfl, rfl⟩ | ⟨y, kd, i, rfl, h1, h0, h2⟩
  · exact .inl ⟨rfl, rfl⟩
  · have := hv y rfl
    rw [h1] at this
    have := this.v_inv
    exact .inr ⟨kd, i, by simp [this], h0, h2⟩
theorem OpOk.sliceD {t e : TypeId} {x : Operand} {lo hi : Option Operand} {k b l hb : Nat} {z : Value} {rows : List (List D)} (ho : o.op = .slice t x lo hi none) [h : TySlice P t e k b z] (hx : A x = .d (.sl k rows)) (hlo : BndIs A lo 0 l) (hhi : BndIs A hi rows.length hb) (hl : l ≤ hb) (hh : hb ≤ rows.length) :
    OpOk P o A [] H new (.d (.sl k ((rows.drop l).take (hb - l)))) [] :=
  .still [] fun ι F w H1 ρ _ hs hv => by
    have h1 := hv x (by simp [ho, Op.operands])
    rw [hx] at h1
    generalize hq : ρ x = q at h1
    cases h1 with
    | d h1 =>
      cases h1 with
      | sl _ _ a cap g hcap hcl hd =>
        have hr := run_sliceAt (P := P) (w := w) (a := a) (cap := cap) (h := h) (hlo.val (ρ := ρ) fun y hy => hv y (by subst hy; simp [ho, Op.operands])) (hhi.val (ρ := ρ) fun y hy => hv y (by subst hy; simp [ho, Op.operands])) hl hh hcap
        refine ⟨.slice (if cap = l then a else a.map (·.add (l * k))) (hb - l) (cap - l), by simp [execOp, ho, hq, hr], ?_⟩
        have hlen : ((rows.drop l).take (hb - l)).length = hb - l := by simp; omega
        have hget : ∀ (i : Nat) r, ((rows.drop l).take (hb - l))[i]? = some r → rows[l + i]? = some r ∧ i < hb - l := fun i r hi => by
          have hlt : i < hb - l := by rw [← hlen]; exact (List.getElem?_eq_some_iff.1 hi).1
          rw [List.getElem?_take, if_pos hlt, List.getElem?_drop] at hi
          exact ⟨hi, hlt⟩
        generalize (rows.drop l).take (hb - l) = R at hlen hget ⊢
        rw [← hlen]
        refine .d (.sl k _ _ _ (fun i j => g (l + i) j) (by omega) (fun i r j c hi hj => ?_) (fun i r j c hi hj => hd _ r j c (hget i r hi).1 hj))
        obtain ⟨h2, h3⟩ := hget i r hi
        obtain ⟨b', off, e1, hF, hcell⟩ := hcl (l + i) r j c h2 hj
        refine ⟨b', off + l * k, ?_, hF, ?_⟩
        · have hne : ¬ cap = l := by omega
          rw [if_neg hne, e1]
          simp [addr_add]
        · rw [show off + l * k + i * k + j = off + (l + i) * k + j by rw [Nat.add_mul]; omega]
          exact hcell
theorem OpOk.sliceO {t e : TypeId} {x : Operand} {lo hi : Option Operand} {k b l hb off n : Nat} {z : Value} {l0 : Loc} (ho : o.op = .slice t x lo hi none) [h : TySlice P t e k b z] (hx : A x = .own k l0 off n) (hlo : BndIs A lo 0 l) (hhi : BndIs A hi n hb) (hl : l < hb ∨ l = 0) (hh : hb ≤ n) (hl' : l ≤ hb) :
    OpOk P o A [] H new (.own k l0 (off + l) (hb - l)) [] :=
  .still [] fun ι F w H1 ρ _ hs hv => by
    have h1 := hv x (by simp [ho, Op.operands])
    rw [hx] at h1
    generalize hq : ρ x = q at h1
    cases h1 with
    | own _ _ _ _ bb sz cap hi2 hn hsz =>
      have hr := run_sliceAt (P := P) (w := w) (a := some ⟨bb, off * k, none⟩) (cap := cap) (h := h) (hlo.val (ρ := ρ) fun y hy => hv y (by subst hy; simp [ho, Op.operands])) (hhi.val (ρ := ρ) fun y hy => hv y (by subst hy; simp [ho, Op.operands])) hl' hh hn
      refine ⟨.slice (if cap = l then some ⟨bb, off * k, none⟩ else (some ⟨bb, off * k, none⟩ : Option Addr).map (·.add (l * k))) (hb - l) (cap - l), by simp [execOp, ho, hq, hr], ?_⟩
      have e : (if cap = l then some ⟨bb, off * k, none⟩ else (some ⟨bb, off * k, none⟩ : Option Addr).map (·.add (l * k))) = some ⟨bb, (off + l) * k, none⟩ := by
        split
        · have : l = 0 := by omega
          subst this; simp
        · simp [addr_add, Nat.add_mul]
      rw [e]
      refine .own k l0 (off + l) (hb - l) bb sz (cap - l) hi2 (by omega) ?_
      rw [show off + l + (cap - l) = off + cap by omega]; exact hsz
    | ownNil _ _ hi2 =>
      have hr := run_sliceAt (P := P) (w := w) (a := none) (cap := 0) (len := 0) (h := h) (hlo.val (ρ := ρ) fun y hy => hv y (by subst hy; simp [ho, Op.operands])) (hhi.val (ρ := ρ) fun y hy => hv y (by subst hy; simp [ho, Op.operands])) hl' hh (Nat.le_refl _)
      have e1 : hb = 0 := by omega
      have e2 : l = 0 := by omega
      subst e1 e2
      refine ⟨.slice none 0 0, by simp [execOp, ho, hq, hr], ?_⟩
      exact .ownNil k l0 hi2
end
end Go.Proofs.Ytemomjcgkpinfaa
