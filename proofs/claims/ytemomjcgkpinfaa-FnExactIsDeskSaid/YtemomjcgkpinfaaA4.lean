/-
  What the operations do, in the abstract reading: new places, stores, loads; moves, tests, sums.
-/
import Derived.Test.YtemomjcgkpinfaaA3
import Derived.Laws.CopyRow
import Derived.Laws.Append
import Derived.Laws.MakeOwn
import Derived.Laws.AppendOwn
import Derived.WalkKit
namespace Go.Proofs.Ytemomjcgkpinfaa
open Go Go.RowKit
set_option linter.unusedSimpArgs false
set_option linter.unusedVariables false

/-! ### Steps of the heap -/
section
variable {ι : Iota} {F : Nat → Prop} {H : Heap} {w : World}
theorem ext_rfl (ι : Iota) : Ext ι ι := fun _ _ h => h
def updι (ι : Iota) (l : Loc) (x : Option (Nat × Nat)) : Iota := fun l' => if l' = l then some x else ι l'
theorem ext_updι {l : Loc} {x : Option (Nat × Nat)} (h : ι l = none) : Ext ι (updι ι l x) := by
  intro l' y hy
  unfold updι
  split
  · rename_i e; subst e; rw [h] at hy; cases hy
  · exact hy
/-- A new block of the call's own. -/
theorem Post.alloc (hs : Sim ι F H w) {new : Nat} (hn : ∀ k, ι ⟨new, k⟩ = none) (cs : List Value) (T : TypeId) (o : AObj) (hl : o.rows.length * o.k ≤ cs.length)
    (h : ∀ (i : Nat) r, o.rows[i]? = some r → r.length = o.k ∧ ∀ (j : Nat) c, r[j]? = some c → ∃ v, cs[i * o.k + j]? = some v ∧ VR ι F w c v) (reads : List Loc) :
    Post ι F H w reads new (updι ι ⟨new, []⟩ (some (w.heap.size, cs.length))) F (upd H ⟨new, []⟩ (some o)) (w.alloc (.cells cs.toArray T)) := by
  have he : Ext ι (updι ι ⟨new, []⟩ (some (w.heap.size, cs.length))) := ext_updι (hn [])
  have hw : ∀ b, b < w.heap.size → (w.alloc (.cells cs.toArray T)).heap[b]? = w.heap[b]? := fun b hb => Below.heap_alloc _ _ _ hb
  have hF : ∀ b, F b → (w.alloc (.cells cs.toArray T)).heap[b]? = w.heap[b]? := fun b hb => hw b (hs.lt b hb)
  have hnew : H ⟨new, []⟩ = none := hs.isNone (hn [])
  have hval : updι ι ⟨new, []⟩ (some (w.heap.size, cs.length)) ⟨new, []⟩ = some (some (w.heap.size, cs.length)) := by simp [updι]
  have hoth : ∀ l, l ≠ ⟨new, []⟩ → updι ι ⟨new, []⟩ (some (w.heap.size, cs.length)) l = ι l := fun l hl => by simp [updι, hl]
  have hHoth : ∀ l, l ≠ ⟨new, []⟩ → upd H ⟨new, []⟩ (some o) l = H l := fun l hl => upd_ne hl
  refine ⟨⟨fun l ob hob => ?_, fun l l' b s s' h1 h2 e1 e2 => ?_, fun l b s h1 e1 => ?_, fun b hb => ?_⟩, he, fun l hl => ?_, fun _ h => h, fun _ h => .inl h, ⟨rfl, rfl, rfl, by simp, fun b hb _ => hw b hb⟩, fun l b s h1 e1 => ?_⟩
  · by_cases hl' : l = ⟨new, []⟩
    · subst hl'
      rw [upd_same] at hob; cases hob
      exact .inr ⟨w.heap.size, cs, T, hval, heap_alloc_new w _, hl, fun i r hr => ⟨(h i r hr).1, fun j c hc => let ⟨v, h1, h2⟩ := (h i r hr).2 j c hc; ⟨v, h1, h2.mono he (fun _ h => h) hF⟩⟩⟩
    · rw [hHoth l hl'] at hob
      exact (hs.obj l ob hob).mono he (fun _ h => h) hF (fun b s e => hw b (hs.blt (by rw [hob]; simp) e))
  · by_cases hl1 : l = ⟨new, []⟩ <;> by_cases hl2 : l' = ⟨new, []⟩
    · rw [hl1, hl2]
    · exfalso
      subst hl1
      rw [hval] at e1; rw [hoth _ hl2] at e2; rw [hHoth _ hl2] at h2
      simp only [Option.some.injEq, Prod.mk.injEq] at e1
      have := hs.blt h2 e2; omega
    · exfalso
      subst hl2
      rw [hval] at e2; rw [hoth _ hl1] at e1; rw [hHoth _ hl1] at h1
      simp only [Option.some.injEq, Prod.mk.injEq] at e2
      have := hs.blt h1 e1; omega
    · rw [hoth _ hl1] at e1; rw [hoth _ hl2] at e2; rw [hHoth _ hl1] at h1; rw [hHoth _ hl2] at h2
      exact hs.inj l l' b s s' h1 h2 e1 e2
  · by_cases hl1 : l = ⟨new, []⟩
    · subst hl1
      rw [hval] at e1
      simp only [Option.some.injEq, Prod.mk.injEq] at e1
      intro hb; have := hs.lt b hb; omega
    · rw [hoth _ hl1] at e1; rw [hHoth _ hl1] at h1
      exact hs.notF l b s h1 e1
  · have := hs.lt b hb; simp; omega
  · by_cases hl1 : l = ⟨new, []⟩
    · right; rw [hl1]
    · left; rwa [hoth _ hl1] at hl
  · by_cases hl1 : l = ⟨new, []⟩
    · subst hl1
      rw [hval] at e1
      simp only [Option.some.injEq, Prod.mk.injEq] at e1
      right; omega
    · rw [hoth _ hl1] at e1; rw [hHoth _ hl1] at h1
      exact .inl ⟨l, h1, s, e1⟩
/-- A new nil slice of the call's own. -/
theorem Post.allocNil (hs : Sim ι F H w) {new : Nat} (hn : ∀ k, ι ⟨new, k⟩ = none) (k : Nat) (reads : List Loc) :
    Post ι F H w reads new (updι ι ⟨new, []⟩ none) F (upd H ⟨new, []⟩ (some ⟨k, []⟩)) w := by
  have he : Ext ι (updι ι ⟨new, []⟩ none) := ext_updι (hn [])
  have hval : updι ι ⟨new, []⟩ none ⟨new, []⟩ = some none := by simp [updι]
  have hoth : ∀ l, l ≠ ⟨new, []⟩ → updι ι ⟨new, []⟩ none l = ι l := fun l hl => by simp [updι, hl]
  have hHoth : ∀ l, l ≠ ⟨new, []⟩ → upd H ⟨new, []⟩ (some ⟨k, []⟩) l = H l := fun l hl => upd_ne hl
  refine ⟨⟨fun l ob hob => ?_, fun l l' b s s' h1 h2 e1 e2 => ?_, fun l b s h1 e1 => ?_, hs.lt⟩, he, fun l hl => ?_, fun _ h => h, fun _ h => .inl h, Step.refl _ _, fun l b s h1 e1 => ?_⟩
  · by_cases hl' : l = ⟨new, []⟩
    · subst hl'
      rw [upd_same] at hob; cases hob
      exact .inl ⟨hval, rfl⟩
    · rw [hHoth l hl'] at hob
      exact (hs.obj l ob hob).mono he (fun _ h => h) (fun _ _ => rfl) (fun b s e => rfl)
  · by_cases hl1 : l = ⟨new, []⟩
    · subst hl1; rw [hval] at e1; cases e1
    · by_cases hl2 : l' = ⟨new, []⟩
      · subst hl2; rw [hval] at e2; cases e2
      · rw [hoth _ hl1] at e1; rw [hoth _ hl2] at e2; rw [hHoth _ hl1] at h1; rw [hHoth _ hl2] at h2
        exact hs.inj l l' b s s' h1 h2 e1 e2
  · by_cases hl1 : l = ⟨new, []⟩
    · subst hl1; rw [hval] at e1; cases e1
    · rw [hoth _ hl1] at e1; rw [hHoth _ hl1] at h1
      exact hs.notF l b s h1 e1
  · by_cases hl1 : l = ⟨new, []⟩
    · right; rw [hl1]
    · left; rwa [hoth _ hl1] at hl
  · by_cases hl1 : l = ⟨new, []⟩
    · subst hl1; rw [hval] at e1; cases e1
    · rw [hoth _ hl1] at e1; rw [hHoth _ hl1] at h1
      exact .inl ⟨l, h1, s, e1⟩
theorem heap_setRow_ne (w : World) (g : Nat) (cs : Array Value) (b : Nat) (h : b ≠ g) : (w.setRow g cs).heap[b]? = w.heap[b]? := by
  simp only [World.setRow, Array.getElem?_modify]
  rw [if_neg (by omega)]
/-- A store into a place of the call's own. -/
theorem Post.write (hs : Sim ι F H w) {l : Loc} {o o' : AObj} {b : Nat} {cs cs' : List Value} {T : TypeId} (hl : H l = some o) (he : ι l = some (some (b, cs.length))) (hb : w.heap[b]? = some (.cells cs.toArray T (0, 0))) (hlen : cs'.length = cs.length)
    (hsz : o'.rows.length * o'.k ≤ cs'.length) (h : ∀ (i : Nat) r, o'.rows[i]? = some r → r.length = o'.k ∧ ∀ (j : Nat) c, r[j]? = some c → ∃ v, cs'[i * o'.k + j]? = some v ∧ VR ι F w c v) (reads : List Loc) (hr : l ∈ reads) (new : Nat) :
    Post ι F H w reads new ι F (upd H l (some o')) (w.setRow b cs'.toArray) := by
  have hH : ∀ l', upd H l (some o') l' ≠ none → H l' ≠ none := fun l' h' => by
    by_cases e : l' = l
    · subst e; rw [hl]; simp
    · rwa [upd_ne e] at h'
  have hF : ∀ b', F b' → (w.setRow b cs'.toArray).heap[b']? = w.heap[b']? := fun b' hb' => heap_setRow_ne _ _ _ _ fun e => by
    subst e; exact hs.notF l b' _ (by rw [hl]; simp) he hb'
  refine ⟨⟨fun l' ob hob => ?_, fun l1 l2 b s s' h1 h2 e1 e2 => hs.inj l1 l2 b s s' (hH _ h1) (hH _ h2) e1 e2, fun l1 b s h1 e1 => hs.notF l1 b s (hH _ h1) e1, fun b' hb' => by simpa [World.setRow] using hs.lt b' hb'⟩, ext_rfl ι, fun _ h => .inl h, fun _ h => h, fun _ h => .inl h,
    ⟨rfl, rfl, rfl, by simp [World.setRow], fun b' _ hno => heap_setRow_ne _ _ _ _ fun e => hno ⟨l, hr, by rw [hl]; simp, cs.length, by rw [e]; exact he⟩⟩, fun l1 b s h1 e1 => .inl ⟨l1, hH _ h1, s, e1⟩⟩
  by_cases e : l' = l
  · subst e
    rw [upd_same] at hob; cases hob
    refine .inr ⟨b, cs', T, by rw [hlen]; exact he, by simpa using setRow_heap w b cs.toArray cs'.toArray T (0, 0) hb, hsz, fun i r hr => ⟨(h i r hr).1, fun j c hc => ?_⟩⟩
    obtain ⟨v, h1, h2⟩ := (h i r hr).2 j c hc
    exact ⟨v, h1, h2.mono (ext_rfl ι) (fun _ h => h) hF⟩
  · rw [upd_ne e] at hob
    refine (hs.obj l' ob hob).mono (ext_rfl ι) (fun _ h => h) hF (fun b' s e' => heap_setRow_ne _ _ _ _ fun eb => ?_)
    subst eb
    exact e (hs.inj l' l b' s _ (by rw [hob]; simp) (by rw [hl]; simp) e' he)
/-- A place is given up. -/
theorem Sim.drop (hs : Sim ι F H w) (l : Loc) : Sim ι F (upd H l none) w := by
  have hH : ∀ l', upd H l none l' ≠ none → H l' ≠ none ∧ l' ≠ l := fun l' h' => by
    by_cases e : l' = l
    · subst e; rw [upd_same] at h'; exact absurd rfl h'
    · exact ⟨by rwa [upd_ne e] at h', e⟩
  refine ⟨fun l' ob hob => ?_, fun l1 l2 b s s' h1 h2 e1 e2 => hs.inj l1 l2 b s s' (hH _ h1).1 (hH _ h2).1 e1 e2, fun l1 b s h1 e1 => hs.notF l1 b s (hH _ h1).1 e1, hs.lt⟩
  have := hH l' (by rw [hob]; simp)
  rw [upd_ne this.2] at hob
  exact hs.obj l' ob hob
end

/-! ### Values -/
/-- Values of one cell. -/
def AV.one : AV → Bool
  | .agg _ | .tup _ | .dead => false
  | .d (.v x) => x.oneCell'
  | _ => true
theorem VR.one {ι : Iota} {F : Nat → Prop} {w : World} {c : AV} {v : Value} (h : VR ι F w c v) (hc : c.one = true) : v.oneCell' = true := by
  cases h with
  | d h => cases h with
    | v x => exact hc
    | sl => rfl
  | agg => cases hc
  | tup => cases hc
  | own => rfl
  | ownNil => rfl
  | ownc => rfl
  | owncNil => rfl
  | ptr => rfl
  | dptr => rfl
  | clo => rfl
  | dead => cases hc
def AV.cells : AV → List AV
  | .agg cs => cs
  | c => [c]
/-- The cells of a value as the machine has them. -/
theorem VR.cells {ι : Iota} {F : Nat → Prop} {w : World} {c : AV} {v : Value} (h : VR ι F w c v) (hc : c.cells.all AV.one = true) : VRs ι F w c.cells v.cells.toList ∧ ∀ u ∈ v.cells.toList, u.oneCell' = true := by
  cases c with
  | agg cs =>
    obtain ⟨vs, rfl, h'⟩ := h.agg_inv
    refine ⟨by simpa [AV.cells, Value.cells] using h', fun u hu => ?_⟩
    simp only [Value.cells] at hu
    obtain ⟨i, hi⟩ := List.getElem?_of_mem hu
    simp only [AV.cells, List.all_eq_true] at hc
    have hl : i < cs.length := by rw [← h'.1]; exact (List.getElem?_eq_some_iff.1 hi).1
    exact (h'.2 i _ u (List.getElem?_eq_getElem hl) hi).one (hc cs[i] (List.getElem_mem hl))
  | _ =>
    simp only [AV.cells, List.all_cons, List.all_nil, Bool.and_true] at hc
    have h1 := h.one hc
    have hv : v.cells = #[v] := by cases v <;> first | rfl | (simp [Value.oneCell'] at h1)
    rw [hv]
    exact ⟨.cons h .nil, fun u hu => by simp at hu; rw [hu]; exact h1⟩

/-! ### Types -/
def isAggD : TypeDesc → Bool
  | .struct _ | .array _ _ => true
  | _ => false
class TyAgg (P : Program) (t : TypeId) (n : outParam Nat) : Prop where
  u : (P.underlying t).map isAggD = some true
  s : (P.info? t).map (·.size) = some n
class TyCell (P : Program) (t : TypeId) : Prop where
  u : (P.underlying t).map isAggD = some false
  s : (P.info? t).map (·.size) = some 1
class TyZero (P : Program) (t : TypeId) (z : outParam Value) : Prop where
  z : (P.info? t).map (·.zero) = some (some z)
class TySlice (P : Program) (t : TypeId) (e : outParam TypeId) (k b : outParam Nat) (z : outParam Value) : Prop where
  u : P.underlying t = some (.slice e)
  s : (P.info? e).map (fun i => (i.size, i.bytes, i.zero)) = some (k, b, some z)
  zs : z.cells.size = k
class TyField (P : Program) (s : TypeId) (f : Nat) (off : outParam Nat) (t : outParam TypeId) (n : outParam Nat) : Prop where
  u : (match P.underlying s with | some (.struct fs) => (fs[f]?).map fun x => (x.offset, x.type) | _ => none) = some (off, t)
  s : (P.info? t).map (·.size) = some n
class TyString (P : Program) (t : TypeId) : Prop where
  u : P.underlying t = some .string
section
variable {P : Program} {w : World}
theorem run_isAgg {t : TypeId} {b : Bool} (h : (P.underlying t).map isAggD = some b) : (isAgg t).run P w = .ok b w := by
  cases hd : P.underlying t with
  | none => rw [hd] at h; cases h
  | some d =>
    rw [hd] at h
    simp only [Option.map_some, Option.some.injEq] at h
    subst h
    simp only [isAgg, Sem.run_bind, run_underlying hd, Result.andThen_ok]
    cases d <;> rfl
theorem run_sizeOf' {t : TypeId} {n : Nat} (h : (P.info? t).map (·.size) = some n) : (sizeOf t).run P w = .ok n w := by
  cases hd : P.info? t with
  | none => rw [hd] at h; cases h
  | some i =>
    rw [hd] at h
    simp only [Option.map_some, Option.some.injEq] at h
    subst h
    simp [sizeOf, typeInfo, hd]
theorem addr_add (b o j : Nat) : (⟨b, o, none⟩ : Addr).add j = ⟨b, o + j, none⟩ := by unfold Addr.add; split <;> simp_all
theorem run_loadVar_agg {t : TypeId} {n : Nat} [h : TyAgg P t n] {b o : Nat} {cs : List Value} (hl : cs.length = n) (hc : ∀ j v, cs[j]? = some v → w.cell? ⟨b, o + j, none⟩ = some v) : (loadVar t ⟨b, o, none⟩).run P w = .ok (.agg cs.toArray) w := by
  have h1 := run_loadCells_list (P := P) w ⟨b, o, none⟩ cs (fun j v hj => by rw [addr_add]; exact hc j v hj)
  rw [hl] at h1
  simp only [loadVar, Sem.run_bind, run_isAgg h.u, Result.andThen_ok, if_true, run_sizeOf' h.s, h1]
  rfl
theorem run_loadVar_cell {t : TypeId} [h : TyCell P t] {a : Addr} {v : Value} (hc : w.cell? a = some v) : (loadVar t a).run P w = .ok v w := by
  simp only [loadVar, Sem.run_bind, run_isAgg h.u, Result.andThen_ok]
  simp [load, Sem.run, hc]
theorem run_storeVar {t : TypeId} {n : Nat} (hs : (P.info? t).map (·.size) = some n) {b o : Nat} {cs : List Value} {T : TypeId} {v : Value} (hb : w.heap[b]? = some (.cells cs.toArray T (0, 0))) (hl : v.cells.size = n) (hfit : o + n ≤ cs.length) (h1 : ∀ u ∈ v.cells.toList, u.oneCell' = true) :
    (storeVar t ⟨b, o, none⟩ v).run P w = .ok () (w.setRow b (cs.take o ++ v.cells.toList ++ cs.drop (o + n)).toArray) := by
  have h2 := run_storeCells_at P b o T v.cells.toList 0 cs.toArray w hb (by simp; omega) h1
  simp only [Nat.add_zero, Array.length_toList, hl] at h2
  simp only [storeVar, Sem.run_bind, run_sizeOf' hs, Result.andThen_ok, hl, ne_eq, not_true_eq_false, if_false]
  simpa using h2
end

/-! ### Operations -/
section
variable {P : Program} {o : Oper} {A : Operand → AV} {H : Heap} {new : Nat}
/-- An operation that leaves all as it is. -/
theorem OpOk.still {val : AV} (reads : List Loc) (h : ∀ (ι : Iota) (F : Nat → Prop) (w : World) (H1 : Heap) (ρ : Operand → Value), (∀ l ∈ reads, H1 l = H l) → Sim ι F H1 w → (∀ x ∈ o.op.operands, VR ι F w (A x) (ρ x)) → ∃ v, (execOp ρ o).run P w = .ok (.value v) w ∧ VR ι F w val v) :
    OpOk P o A reads H new val [] := by
  intro ι F w H1 ρ h1 h2 h3 h4
  obtain ⟨v, hr, hv⟩ := h ι F w H1 ρ h1 h3 h4
  rw [hr]
  exact ⟨ι, F, hv, Post.same h3 reads new⟩
theorem OpOk.move {x : Operand} (ho : o.op = .move x) : OpOk P o A [] H new (A x) [] :=
  .still [] fun ι F w H1 ρ _ _ hv => ⟨ρ x, by simp [execOp, ho], hv x (by simp [ho, Op.operands])⟩
theorem OpOk.assign {x : Operand} (ho : o.op = .assign x) : OpOk P o A [] H new (A x) [] :=
  .still [] fun ι F w H1 ρ _ _ hv => ⟨ρ x, by simp [execOp, ho], hv x (by simp [ho, Op.operands])⟩
theorem OpOk.pick {c x y : Operand} {b : Bool} (ho : o.op = .pick c x y) (hc : A c = .d (.v (.bool b))) : OpOk P o A [] H new (if b then A x else A y) [] :=
  .still [] fun ι F w H1 ρ _ _ hv => by
    have h1 := hv c (by simp [ho, Op.operands])
    rw [hc] at h1
    have h2 := h1.v_inv
    refine ⟨if b then ρ x else ρ y, by simp [execOp, ho, h2, asBool], ?_⟩
    cases b
    · exact hv y (by simp [ho, Op.operands])
    · exact hv x (by simp [ho, Op.operands])
theorem OpOk.box {t : TypeId} {x : Operand} (ho : o.op = .box t x) (h1 : (A x).cells.all AV.one = true) : OpOk P o A [] H new (.ptr (A x).cells.length ⟨new, []⟩ 0 0) [.one ⟨new, []⟩ (some ⟨(A x).cells.length, [(A x).cells]⟩)] := by
  intro ι F w H1 ρ _ hn hs hv
  obtain ⟨hc, hone⟩ := (hv x (by simp [ho, Op.operands])).cells h1
  have hrun : (execOp ρ o).run P w = .ok (.value (.pointer (some ⟨w.heap.size, 0, none⟩))) (w.alloc (.cells (ρ x).cells t)) := by
    simp [execOp, ho, Instr.box, newVar, newRow]
  rw [hrun]
  refine ⟨updι ι ⟨new, []⟩ (some (w.heap.size, (ρ x).cells.toList.length)), F, ?_, ?_⟩
  rotate_left
  · have := Post.alloc hs hn (ρ x).cells.toList t ⟨(A x).cells.length, [(A x).cells]⟩ (by simp [hc.1]) (fun i r hr => ?_) []
    · simpa [upds, W.app] using this
    · cases i with
      | zero =>
        simp at hr; subst hr
        refine ⟨rfl, fun j c hj => ?_⟩
        obtain ⟨v, h1, h2⟩ := hc.get hj
        exact ⟨v, by simpa using h1, h2⟩
      | succ i => simp at hr
  · have := VR.ptr (ι := updι ι ⟨new, []⟩ (some (w.heap.size, (ρ x).cells.toList.length))) (F := F) (w := w.alloc (.cells (ρ x).cells t)) (A x).cells.length ⟨new, []⟩ 0 0 w.heap.size (ρ x).cells.toList.length (by simp [updι])
    simpa using this
theorem OpOk.alloc {t : TypeId} {z : Value} (ho : o.op = .alloc t) [hz : TyZero P t z] : OpOk P o A [] H new (.ptr z.cells.size ⟨new, []⟩ 0 0) [.one ⟨new, []⟩ (some ⟨z.cells.size, [z.cells.toList.map fun x => .d (.v x)]⟩)] := by
  intro ι F w H1 ρ _ hn hs hv
  have hrun : (execOp ρ o).run P w = .ok (.value (.pointer (some ⟨w.heap.size, 0, none⟩))) (w.alloc (.cells z.cells t)) := by
    have := hz.z
    cases hi : P.info? t with
    | none => rw [hi] at this; cases this
    | some i =>
      rw [hi] at this
      simp at this
      simp [execOp, ho, Instr.alloc, zeroValue, typeInfo, hi, this, newVar, newRow]
  rw [hrun]
  refine ⟨updι ι ⟨new, []⟩ (some (w.heap.size, z.cells.toList.length)), F, ?_, ?_⟩
  rotate_left
  · have := Post.alloc hs hn z.cells.toList t ⟨z.cells.size, [z.cells.toList.map fun x => .d (.v x)]⟩ (by simp) (fun i r hr => ?_) []
    · simpa [upds, W.app] using this
    · cases i with
      | zero =>
        simp at hr; subst hr
        refine ⟨by simp, fun j c hj => ?_⟩
        simp only [List.getElem?_map, Option.map_eq_some_iff] at hj
        obtain ⟨v, h1, rfl⟩ := hj
        exact ⟨v, by simpa using h1, .d (.v _)⟩
      | succ i => simp at hr
  · have := VR.ptr (ι := updι ι ⟨new, []⟩ (some (w.heap.size, z.cells.toList.length))) (F := F) (w := w.alloc (.cells z.cells t)) z.cells.size ⟨new, []⟩ 0 0 w.heap.size z.cells.toList.length (by simp [updι])
    simpa using this

/-- What lies in an owned place, at a row. -/
theorem Sim.row {ι : Iota} {F : Nat → Prop} {w : World} (hs : Sim ι F H w) {l : Loc} {ob : AObj} (hl : H l = some ob) {i : Nat} {r : List AV} (hr : ob.rows[i]? = some r) :
    ∃ (b : Nat) (cs : List Value) (T : TypeId), ι l = some (some (b, cs.length)) ∧ w.heap[b]? = some (.cells cs.toArray T (0, 0)) ∧ r.length = ob.k ∧ (i + 1) * ob.k ≤ cs.length ∧ ∀ (j : Nat) c, r[j]? = some c → ∃ v, cs[i * ob.k + j]? = some v ∧ VR ι F w c v := by
  rcases hs.obj l ob hl with ⟨_, e⟩ | ⟨b, cs, T, e, hb, hlen, h⟩
  · rw [e] at hr; simp at hr
  · refine ⟨b, cs, T, e, hb, (h i r hr).1, Nat.le_trans (Nat.mul_le_mul_right _ ?_) hlen, (h i r hr).2⟩
    exact (List.getElem?_eq_some_iff.1 hr).1
theorem cell_of_cells {w : World} {b : Nat} {cs : List Value} {T : TypeId} (hb : w.heap[b]? = some (.cells cs.toArray T (0, 0))) {j : Nat} {v : Value} (h : cs[j]? = some v) : w.cell? ⟨b, j, none⟩ = some v := by
  simp [World.cell?, hb, h]
theorem OpOk.loadCell {t : TypeId} {a : Operand} {k i j : Nat} {l : Loc} {ob : AObj} {r : List AV} {c : AV} (ho : o.op = .load t a) (ha : A a = .ptr k l i j) [TyCell P t] (hl : H l = some ob) (hk : ob.k = k) (hr : ob.rows[i]? = some r) (hc : r[j]? = some c) : OpOk P o A [l] H new c [] :=
  .still [l] fun ι F w H1 ρ h1 hs hv => by
    have h2 := hv a (by simp [ho, Op.operands])
    rw [ha] at h2
    obtain ⟨b, sz, e, hp⟩ := h2.ptr_inv
    obtain ⟨b', cs, T, e', hb, hrl, hfit, hcells⟩ := hs.row ((h1 l (by simp)).trans hl) hr
    rw [e] at e'; simp only [Option.some.injEq, Prod.mk.injEq] at e'
    obtain ⟨rfl, rfl⟩ := e'
    obtain ⟨v, h3, h4⟩ := hcells j c hc
    subst hk
    exact ⟨v, by simp [execOp, ho, hp, Instr.loadAt, Instr.sureAddr, run_loadVar_cell (cell_of_cells hb h3)], h4⟩
theorem OpOk.loadAgg {t : TypeId} {a : Operand} {k i j n : Nat} {l : Loc} {ob : AObj} {r : List AV} (ho : o.op = .load t a) (ha : A a = .ptr k l i j) [TyAgg P t n] (hl : H l = some ob) (hk : ob.k = k) (hr : ob.rows[i]? = some r) (hn : j + n ≤ r.length) : OpOk P o A [l] H new (.agg ((r.drop j).take n)) [] :=
  .still [l] fun ι F w H1 ρ h1 hs hv => by
    have h2 := hv a (by simp [ho, Op.operands])
    rw [ha] at h2
    obtain ⟨b, sz, e, hp⟩ := h2.ptr_inv
    obtain ⟨b', cs, T, e', hb, hrl, hfit, hcells⟩ := hs.row ((h1 l (by simp)).trans hl) hr
    rw [e] at e'; simp only [Option.some.injEq, Prod.mk.injEq] at e'
    obtain ⟨rfl, rfl⟩ := e'
    subst hk
    have hlen : i * ob.k + r.length ≤ cs.length := by rw [hrl]; rw [Nat.succ_mul] at hfit; exact hfit
    have hvs : VRs ι F w ((r.drop j).take n) ((cs.drop (i * ob.k + j)).take n) := by
      refine ⟨by simp; omega, fun m c v hc hv => ?_⟩
      simp only [List.getElem?_take, List.getElem?_drop] at hc hv
      split at hc
      · rename_i hm
        rw [if_pos hm] at hv
        obtain ⟨v', h3, h4⟩ := hcells (j + m) c hc
        rw [← Nat.add_assoc] at h3
        rw [h3] at hv; cases hv
        exact h4
      · cases hc
    refine ⟨.agg ((cs.drop (i * ob.k + j)).take n).toArray, ?_, hvs.agg⟩
    have := run_loadVar_agg (P := P) (w := w) (t := t) (n := n) (b := b) (o := i * ob.k + j) (cs := (cs.drop (i * ob.k + j)).take n) (by simp; omega) (fun m v hm => by
      simp only [List.getElem?_take, List.getElem?_drop] at hm
      split at hm
      · exact cell_of_cells hb hm
      · cases hm)
    simp [execOp, ho, hp, Instr.loadAt, Instr.sureAddr, this]
theorem OpOk.loadDCell {t : TypeId} {a : Operand} {cs : List D} {c : D} (ho : o.op = .load t a) (ha : A a = .dptr cs) [TyCell P t] (hc : cs[0]? = some c) : OpOk P o A [] H new (.d c) [] :=
  .still [] fun ι F w H1 ρ h1 hs hv => by
    have h2 := hv a (by simp [ho, Op.operands])
    rw [ha] at h2
    generalize hx : ρ a = x at h2
    cases h2 with
    | dptr _ b off g hF h hd => exact ⟨g 0, by simp [execOp, ho, hx, Instr.loadAt, Instr.sureAddr, run_loadVar_cell (show w.cell? ⟨b, off, none⟩ = some (g 0) from h 0 c hc)], .d (hd 0 c hc)⟩
theorem OpOk.loadDAgg {t : TypeId} {a : Operand} {cs : List D} {n : Nat} (ho : o.op = .load t a) (ha : A a = .dptr cs) [TyAgg P t n] (hn : n ≤ cs.length) : OpOk P o A [] H new (.agg ((cs.take n).map .d)) [] :=
  .still [] fun ι F w H1 ρ h1 hs hv => by
    have h2 := hv a (by simp [ho, Op.operands])
    rw [ha] at h2
    generalize hx : ρ a = x at h2
    cases h2 with
    | dptr _ b off g hF h hd =>
      have hat : ∀ m v, ((List.range n).map g)[m]? = some v → m < n ∧ v = g m := fun m v hm => by
        simp only [List.getElem?_map, Option.map_eq_some_iff] at hm
        obtain ⟨q, h3, rfl⟩ := hm
        have hq := (List.getElem?_eq_some_iff.1 h3).1
        have hq' : m < n := by simpa using hq
        rw [List.getElem?_range hq'] at h3
        cases h3
        exact ⟨hq', rfl⟩
      have hget : ∀ m, m < n → ∃ c, cs[m]? = some c := fun m hm => ⟨cs[m], List.getElem?_eq_getElem (by omega)⟩
      have := run_loadVar_agg (P := P) (w := w) (t := t) (n := n) (b := b) (o := off) (cs := (List.range n).map g) (by simp) (fun m v hm => by
        obtain ⟨h3, rfl⟩ := hat m v hm
        obtain ⟨c, hc⟩ := hget m h3
        exact h m c hc)
      refine ⟨_, by simp [execOp, ho, hx, Instr.loadAt, Instr.sureAddr, this]; rfl, ?_⟩
      refine VRs.agg ⟨by simp; omega, fun m c v hc hv => ?_⟩
      obtain ⟨h3, rfl⟩ := hat m v hv
      obtain ⟨c', hc'⟩ := hget m h3
      simp only [List.getElem?_map, List.getElem?_take, h3, if_true, hc', Option.map_some, Option.some.injEq] at hc
      subst hc
      exact .d (hd m c' hc')
/-- A store of cells into a row. -/
theorem OpOk.store {t : TypeId} {a x : Operand} {k i j n : Nat} {l : Loc} {ob : AObj} {r : List AV} (ho : o.op = .store t a x) (ha : A a = .ptr k l i j) (hs : (P.info? t).map (·.size) = some n) (hl : H l = some ob) (hk : ob.k = k) (hr : ob.rows[i]? = some r) (hn : j + n ≤ r.length) (hc : (A x).cells.length = n) (h1 : (A x).cells.all AV.one = true) :
    OpOk P o A [l] H new (.d (.v undef)) [.one l (some ⟨k, ob.rows.set i (r.take j ++ (A x).cells ++ r.drop (j + n))⟩)] := by
  intro ι F w H1 ρ hH hnew hsim hv
  have h2 := hv a (by simp [ho, Op.operands])
  rw [ha] at h2
  obtain ⟨hcx, hone⟩ := (hv x (by simp [ho, Op.operands])).cells h1
  obtain ⟨b, sz, e, hp⟩ := h2.ptr_inv
  have hl' := (hH l (by simp)).trans hl
  obtain ⟨b', cs, T, e', hb, hrl, hfit, hcells⟩ := hsim.row hl' hr
  rw [e] at e'; simp only [Option.some.injEq, Prod.mk.injEq] at e'
  obtain ⟨rfl, rfl⟩ := e'
  subst hk
  have hlen : i * ob.k + r.length ≤ cs.length := by rw [hrl]; rw [Nat.succ_mul] at hfit; exact hfit
  have hvl : (ρ x).cells.toList.length = n := by rw [hcx.1]; exact hc
  have hrun : (execOp ρ o).run P w = .ok .skip (w.setRow b (cs.take (i * ob.k + j) ++ (ρ x).cells.toList ++ cs.drop (i * ob.k + j + n)).toArray) := by
    have := run_storeVar (P := P) (w := w) hs (b := b) (o := i * ob.k + j) (v := ρ x) hb (by simpa using hvl) (by omega) hone
    simp [execOp, ho, hp, Instr.storeAt, Instr.sureAddr, this]
  rw [hrun]
  refine ⟨ι, F, .d (.v _), ?_⟩
  have hallk : ∀ (i' : Nat) r', ob.rows[i']? = some r' → r'.length = ob.k ∧ ∀ (j : Nat) c, r'[j]? = some c → ∃ v, cs[i' * ob.k + j]? = some v ∧ VR ι F w c v := by
    rcases hsim.obj l ob hl' with ⟨_, e0⟩ | ⟨b0, cs0, T0, e0, hb0, hlen0, h0⟩
    · rw [e0] at hr; simp at hr
    · rw [e] at e0; simp only [Option.some.injEq, Prod.mk.injEq] at e0
      obtain ⟨rfl, _⟩ := e0
      rw [hb] at hb0; simp only [Option.some.injEq, Obj.cells.injEq] at hb0
      have hcs : cs = cs0 := by simpa using hb0.1
      subst hcs
      exact h0
  have hnl : (r.take j ++ (A x).cells ++ r.drop (j + n)).length = ob.k := by simp [hc]; omega
  have hnewcs : (cs.take (i * ob.k + j) ++ (ρ x).cells.toList ++ cs.drop (i * ob.k + j + n)).length = cs.length := by simp only [List.length_append, List.length_take, List.length_drop, hvl]; omega
  have hgetn : ∀ m, (cs.take (i * ob.k + j) ++ (ρ x).cells.toList ++ cs.drop (i * ob.k + j + n))[m]? = if m < i * ob.k + j then cs[m]? else if m < i * ob.k + j + n then (ρ x).cells.toList[m - (i * ob.k + j)]? else cs[m]? := by
    intro m
    have hm1 : min (i * ob.k + j) cs.length = i * ob.k + j := by omega
    simp only [List.getElem?_append, List.length_append, List.length_take, hm1, hvl, List.getElem?_take, List.getElem?_drop]
    by_cases c1 : m < i * ob.k + j
    · rw [if_pos (by omega), if_pos c1, if_pos c1, if_pos c1]
    · by_cases c2 : m < i * ob.k + j + n
      · rw [if_pos c2, if_neg c1, if_neg c1, if_pos c2]
      · rw [if_neg c2, if_neg c1, if_neg c2]; congr 1; omega
  refine Post.write hsim hl' e hb hnewcs (o' := ⟨ob.k, ob.rows.set i (r.take j ++ (A x).cells ++ r.drop (j + n))⟩) ?_ (fun i' r' hr' => ?_) [l] (by simp) new
  · rcases hsim.obj l ob hl' with ⟨_, e0⟩ | ⟨b0, cs0, T0, e0, hb0, hlen0, h0⟩
    · rw [e0] at hr; simp at hr
    · rw [e] at e0; simp only [Option.some.injEq, Prod.mk.injEq] at e0
      rw [hnewcs, e0.2]; simpa using hlen0
  · simp only [List.getElem?_set] at hr'
    by_cases hii : i = i'
    · subst hii
      rw [if_pos rfl] at hr'
      split at hr'
      · cases hr'
        refine ⟨hnl, fun m c hm => ?_⟩
        show ∃ v, _[i * ob.k + m]? = some v ∧ _
        rw [hgetn]
        have hml : min j r.length = j := by omega
        simp only [List.getElem?_append, List.length_append, List.length_take, hml, hc, List.getElem?_take, List.getElem?_drop] at hm
        by_cases c1 : m < j
        · rw [if_pos (by omega), if_pos c1, if_pos c1] at hm
          rw [if_pos (by omega)]
          exact hcells m c hm
        · by_cases c2 : m < j + n
          · rw [if_pos c2, if_neg c1] at hm
            rw [if_neg (by omega), if_pos (by omega), show i * ob.k + m - (i * ob.k + j) = m - j by omega]
            exact hcx.get hm
          · rw [if_neg c2, show j + n + (m - (j + n)) = m by omega] at hm
            rw [if_neg (by omega), if_neg (by omega)]
            exact hcells m c hm
      · cases hr'
    · rw [if_neg hii] at hr'
      obtain ⟨hl1, h0⟩ := hallk i' r' hr'
      refine ⟨hl1, fun m c hm => ?_⟩
      obtain ⟨v, h3, h4⟩ := h0 m c hm
 
      refine ⟨v, ?_, h4⟩
      show _[i' * ob.k + m]? = some v
      rw [hgetn]
      have hm' : m < ob.k := by rw [← hl1]; exact (List.getElem?_eq_some_iff.1 hm).1
      by_cases hlt : i' < i
      · have : (i' + 1) * ob.k ≤ i * ob.k := Nat.mul_le_mul_right _ hlt
        rw [Nat.succ_mul] at this
        rw [if_pos (by omega)]; exact h3
      · have : (i + 1) * ob.k ≤ i' * ob.k := Nat.mul_le_mul_right _ (by omega)
        rw [Nat.succ_mul] at this
        rw [if_neg (by omega), if_neg (by omega)]; exact h3
end
end Go.Proofs.Ytemomjcgkpinfaa
