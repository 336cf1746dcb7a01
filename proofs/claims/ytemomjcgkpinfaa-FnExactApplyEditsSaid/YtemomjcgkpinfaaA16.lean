/-
  The abstract reading: operations whose answer is not told by what is known: every answer that they may give is walked.
-/
import Derived.Test.YtemomjcgkpinfaaA15
import Derived.WalkSpells
namespace Go.Proofs.Ytemomjcgkpinfaa
open Go Go.RowKit
set_option linter.unusedSimpArgs false
set_option linter.unusedVariables false

/-- An operation that writes nothing and answers one of several values. -/
def OpAny {α : Type} (P : Program) (o : Oper) (A : Operand → AV) (H : Heap) (val : α → AV) (cond : α → Prop) : Prop :=
  ∀ (ι : Iota) (F : Nat → Prop) (w : World) (ρ : Operand → Value), Sim ι F H w → (∀ x ∈ o.op.operands, VR ι F w (A x) (ρ x)) → ∃ i v, cond i ∧ (execOp ρ o).run P w = .ok (.value v) w ∧ VR ι F w (val i) v
section
variable {P : Program} {C : Ctx} {ops : Array Oper} {Q : Exit → AS → Prop} {rest : List Oper} {o : Oper} {H : Heap}
theorem AL.any {α : Type} {val : α → AV} {cond : α → Prop} {fr : List AV} {n : Nat} (hg : o.guard = none) (h1 : OpAny P o (evalF fr) H val cond) (h2 : ∀ i, cond i → AL P C ops Q rest ⟨putF fr o.dst (val i), H, n + 1⟩) : AL P C ops Q (o :: rest) ⟨fr, H, n⟩ := by
  intro a w r
  have hw : Region.wanted o (yielded ops a.tmps) = true := by obtain ⟨ι, F, _, hv, _⟩ := r; exact GuardIs.wanted (fr := fr) (ops := ops) (by unfold GuardIs; rw [hg]) hv
  unfold wpList
  rw [hw, if_pos rfl]
  left
  obtain ⟨ι, F, hs, hv, hd, hi, hu⟩ := r
  obtain ⟨i, v, hc, hr, hvr⟩ := h1 ι F w a.eval hs (fun x _ => hv.eval x)
  have hup : Upon P (fun v' w' => v' = v ∧ w' = w) ((execOp a.eval o).run P w) := by rw [hr]; exact ⟨rfl, rfl⟩
  refine hup.wp ?_
  rintro _ _ ⟨rfl, rfl⟩
  refine h2 i hc _ _ ⟨ι, F, hs, hv.put hvr, ?_, hi, fun id hid k => hu id (Nat.le_of_lt hid) k⟩
  cases o.dst <;> exact hd
theorem AL.stAny {α : Type} {val : α → AV} {cond : α → Prop} {fr : List AV} {n n' t : Nat} {op : Op} {ty : TypeId} {pos : String} {after : Array Edge} (h1 : OpAny P ⟨some t, op, ty, pos, after, none⟩ (evalF fr) H val cond) (hn : n + 1 = n') (h2 : ∀ i, cond i → AL P C ops Q rest ⟨fr.set t (val i), H, n'⟩) : AL P C ops Q (⟨some t, op, ty, pos, after, none⟩ :: rest) ⟨fr, H, n⟩ := by
  subst hn; exact AL.any rfl h1 h2
theorem OpAny.eqNilD {A : Operand → AV} {t t' e : TypeId} {x : Operand} {k k' b : Nat} {z : Value} {rows : List (List D)} (ho : o.op = .binOp .eql t x (.const (.slice none 0 0)) t') [h : TySlice P t e k b z] (hx : A x = .d (.sl k' rows)) (hc : A (.const (.slice none 0 0)) = .d (.v (.slice none 0 0))) (hk : ∀ r ∈ rows, r ≠ []) : OpAny P o A H (fun b : Bool => Bo b) (fun b => b = true → rows = []) := fun ι F w ρ _ hv => by
  have h1 := hv x (by simp [ho, Op.operands])
  have h2 := hv (.const (.slice none 0 0)) (by simp [ho, Op.operands])
  rw [hx] at h1
  rw [hc] at h2
  have h3 := h2.v_inv
  generalize hq : ρ x = q at h1
  cases h1 with
  | d h1 =>
    cases h1 with
    | sl _ _ a cap g hcap hcl hd =>
      refine ⟨a.isNone, .bool a.isNone, fun hn => ?_, ?_, .d (.v _)⟩
      · cases rows with
        | nil => rfl
        | cons r rs =>
          cases r with
          | nil => exact absurd rfl (hk [] (by simp))
          | cons c cs =>
            obtain ⟨b', off, e1, _⟩ := hcl 0 (c :: cs) 0 c rfl rfl
            rw [e1] at hn; cases hn
      · have hr := Lib.run_eql_slice_nil (P := P) w t e a rows.length cap 0 0 h.u
        have hgd := run_eqGuard (P := P) (op := .eql) (t := t) (x := x) (y := .const (.slice none 0 0)) (a := .slice a rows.length cap) (b := .slice none 0 0) (w := w) rfl
        simp [execOp, ho, hq, h3, hgd, hr]
/-- The end of a function that hands back a nil slice: told as an empty row. -/
theorem end1nil {fr : List AV} {n : Nat} {fn : Func} {e : Exit} {rv : ResultVar} {k : Nat} (he : e = .ret ∨ e = .normal) (hr : fn.results.toList = [rv]) (h : ResOf P fr H rv (.d (.v (.slice none 0 0)))) (hD : ∀ l, ¬ C.D0 l) :
    EndQ P C fn (.own k ⟨0, []⟩ 0 0) (upd H0 ⟨0, []⟩ (some ⟨k, []⟩)) e ⟨fr, H, n⟩ := by
  refine end1 he hr h rfl ((Le.nilR k (.nil (l := ⟨n, []⟩))).trans (Le.head [(⟨0, []⟩, ⟨n, []⟩, ⟨k, []⟩)] (n' := 1) (fun l h => absurd h (hD l)) ?_ ?_ (by simp) (by simp) (by simp [AllP])))
  · exact ⟨⟨_, upd_same .., rfl, rfl, fun i r r' h => by simp at h⟩, trivial⟩
  · exact ARs.cons (AR.own k ⟨0, []⟩ 0 0 (by simp [heapL, upd])) ARs.nil
/-- Rows of data, appended. -/
theorem Ok.appendD {A : Operand → AV} {new : Nat} {t t' e e' : TypeId} {ts : Array TypeId} {s x : Operand} {k b b' n m : Nat} {z z' : Value} {rows R : List (List D)} {l : Loc} (ho : o.op = .call { callee := .builtin .append, args := #[s, x], argTypes := ts }) (hts : ts = #[t, t']) [h : TySlice P t e k b z] [h' : TySlice P t' e' k b' z'] (hk0 : 0 < k)
    (hs : A s = .own k l 0 n) (hl : H l = some (dobj k rows)) (hn : rows.length = n) (hx : A x = .d (.sl k R)) (hR : R.length = m) (hk : ∀ r ∈ R, r.length = k) (hone : ∀ r ∈ R, (r.map AV.d).all AV.one = true) (hsz : (n + m) * b ≤ 140737488355328) (h63 : n + m ≤ 9223372036854775807) :
    OpOk P o A [l] H new (.own k ⟨new, []⟩ 0 (n + m)) [.one l none, .one ⟨new, []⟩ (some (dobj k (rows ++ R)))] := by
  subst hR
  have hd : (dobj k rows).rows.length = n := by simp [dobj, hn]
  have := OpOk.append (P := P) (H := H) (new := new) (A := A) (S := rows.map fun r => r.map .d) (R := R.map fun r => r.map .d) (rd := []) (rs := [l]) (wr := [.one l none, .one ⟨new, []⟩ (some ⟨k, (rows.map fun r => r.map .d) ++ R.map fun r => r.map .d⟩)]) (n := n) ho hts hk0
    (.inl ⟨l, _, hs, hl, rfl, by rw [hd]; exact Nat.le_refl _, by simp only [dobj]; rw [List.take_of_length_le (by simp [hn])], rfl, rfl⟩) (by rw [hx]; exact .data R hk) (by intro r hr; obtain ⟨r', hr', rfl⟩ := List.mem_map.1 hr; exact hone r' hr') (by simpa using hsz) (by simpa using h63)
  simpa [dobj] using this
theorem Ok.build0 {A : Operand → AV} {new : Nat} {t : TypeId} {pl : List (Nat × Nat)} {zs : List Value} {cs : List AV} (ho : o.op = .build t #[]) [h : TyBuild P t pl zs] (hc : zs.map (fun x => AV.d (.v x)) = cs) : OpOk P o A [] H new (.agg cs) [] :=
  OpOk.build ho (by simp) rfl hc
/-- Rows of data, cut at their end, or at their start. -/
theorem Ok.sliceTo {A : Operand → AV} {new : Nat} {α : Type} {row : α → List D} {xs : List α} {t e : TypeId} {x y : Operand} {k b : Nat} {i : Int} {z : Value} (ho : o.op = .slice t x none (some y) none) [h : TySlice P t e k b z] (hx : A x = .d (.sl k (xs.map row))) (hy : A y = I i) (h0 : 0 ≤ i) (h1 : i ≤ xs.length) : OpOk P o A [] H new (.d (.sl k ((xs.take i.toNat).map row))) [] := by
  have := OpOk.sliceD (P := P) (H := H) (new := new) (A := A) (hb := i.toNat) ho hx BndIs.none (BndIs.some hy h0 rfl) (Nat.zero_le _) (by simp; omega)
  simpa [List.map_take] using this
theorem Ok.sliceFrom {A : Operand → AV} {new : Nat} {α : Type} {row : α → List D} {xs : List α} {t e : TypeId} {x y : Operand} {k b : Nat} {i : Int} {z : Value} (ho : o.op = .slice t x (some y) none none) [h : TySlice P t e k b z] (hx : A x = .d (.sl k (xs.map row))) (hy : A y = I i) (h0 : 0 ≤ i) (h1 : i ≤ xs.length) : OpOk P o A [] H new (.d (.sl k ((xs.drop i.toNat).map row))) [] := by
  have := OpOk.sliceD (P := P) (H := H) (new := new) (A := A) (l := i.toNat) ho hx (BndIs.some hy h0 rfl) BndIs.none (by simp; omega) (Nat.le_refl _)
  rw [List.take_of_length_le (by simp)] at this
  simpa [List.map_drop] using this
/-- The end of a function that hands back a struct of a number and a nil slice, and a number. -/
theorem end2nilG {fr : List AV} {n : Nat} {fn : Func} {e : Exit} {rv rv' : ResultVar} {k : Nat} {y0 y : D} {c0 : AV} (he : e = .ret ∨ e = .normal) (hr : fn.results.toList = [rv, rv']) (h : ResOf P fr H rv c0) (hc0 : c0 = .agg [.d y0, .d (.v (.slice none 0 0))]) (h' : ResOf P fr H rv' (.d y)) (hD : ∀ l, ¬ C.D0 l) :
    EndQ P C fn (.tup [.agg [.d y0, .own k ⟨0, []⟩ 0 0], .d y]) (upd H0 ⟨0, []⟩ (some ⟨k, []⟩)) e ⟨fr, H, n⟩ := by
  subst hc0
  refine end2 he hr h h' rfl ((Le.nilR k (.tup [.agg [.d y0, .d (.v (.slice none 0 0))], .d y] [.agg [.d y0, .own k ⟨n, []⟩ 0 0], .d y] rfl fun i c c' h1 h2 => ?_)).trans (Le.head [(⟨0, []⟩, ⟨n, []⟩, ⟨k, []⟩)] (n' := 1) (fun l h => absurd h (hD l)) ?_ ?_ (by simp) (by simp) (by simp [AllP])))
  · match i with
    | 0 =>
      simp at h1 h2; subst h1; subst h2
      refine .agg _ _ rfl fun i c c' h1 h2 => ?_
      match i with
      | 0 => simp at h1 h2; subst h1; subst h2; exact .refl _
      | 1 => simp at h1 h2; subst h1; subst h2; exact .nil
      | i + 2 => simp at h1
    | 1 => simp at h1 h2; subst h1; subst h2; exact .refl _
    | i + 2 => simp at h1
  · exact ⟨⟨_, upd_same .., rfl, rfl, fun i r r' h => by simp at h⟩, trivial⟩
  · exact ARs.cons (ARs.tup (ARs.cons (ARs.agg (ARs.cons (AR.dd _) (ARs.cons (AR.own k ⟨0, []⟩ 0 0 (by simp [heapL, upd])) ARs.nil))) (ARs.cons (AR.dd _) ARs.nil))) ARs.nil
end
end Go.Proofs.Ytemomjcgkpinfaa
