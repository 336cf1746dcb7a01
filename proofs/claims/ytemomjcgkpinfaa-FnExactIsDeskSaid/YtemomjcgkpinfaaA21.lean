/-
  The abstract reading: what a call borrows, found from its arguments.
-/
import Derived.Test.YtemomjcgkpinfaaA20
namespace Go.Proofs.Ytemomjcgkpinfaa
open Go Go.RowKit
set_option linter.unusedSimpArgs false
set_option linter.unusedVariables false

theorem DRel.more {H : Heap} {lent lent' : Loc → Prop} (hl : ∀ l, lent l → lent' l) {x : D} {a : AV} (h : DRel H lent x a) : DRel H lent' x a := by
  induction h with
  | d x => exact .d x
  | nil k => exact .nil k
  | own k l off n ob rows h1 hm hk hn hr hll h ih => exact .own k l off n ob rows h1 (hl _ hm) hk hn hr hll ih
theorem AR.more {H : Heap} {lent lent' : Loc → Prop} {τ : Loc → Loc} {L : Loc → Prop} (hl : ∀ l, lent l → lent' l) {a a' : AV} (h : AR H lent τ L a a') : AR H lent' τ L a a' := by
  induction h with
  | d h => exact .d (h.more hl)
  | agg cs cs' hl h ih => exact .agg cs cs' hl ih
  | tup cs cs' hl h ih => exact .tup cs cs' hl ih
  | own k l off n h => exact .own k l off n h
  | ptr k l i j h => exact .ptr k l i j h
  | dptr cs => exact .dptr cs
  | clo fn fs fs' cs cs' hl hl' h h' ih ih' => exact .clo fn fs fs' cs cs' hl hl' ih ih'
  | dead a => exact .dead a
theorem ARs.more {H : Heap} {lent lent' : Loc → Prop} {τ : Loc → Loc} {L : Loc → Prop} (hl : ∀ l, lent l → lent' l) {a a' : List AV} (h : ARs H lent τ L a a') : ARs H lent' τ L a a' :=
  ⟨h.1, fun i c c' hc hc' => (h.2 i c c' hc hc').more hl⟩

/-- The arguments as the callee reads them; lent: the places into which it looks. -/
def CA (H : Heap) (lent : List Loc) (args vs : List AV) : Prop := ARs H (· ∈ lent) id (fun _ => False) args vs
section
variable {H : Heap} {lent lent' : List Loc} {cs cs' vs vs' : List AV}
theorem CA.nil : CA H [] [] [] := ARs.nil
theorem CA.d {x : D} (h : CA H lent cs vs) : CA H lent (.d x :: cs) (.d x :: vs) := ARs.cons (AR.dd _) h
theorem CA.w {k n : Nat} {l : Loc} {rows : List (List D)} (hl : H l = some (dobj k rows)) (hn : rows.length = n) (h : CA H lent cs vs) : CA H (l :: lent) (.d (.sl k rows) :: cs) (.own k l 0 n :: vs) :=
  ARs.cons (AR.whole hl (by simp) hn) (ARs.more (fun _ h => List.mem_cons_of_mem _ h) h)
theorem CA.n {k : Nat} (h : CA H lent cs vs) : CA H lent (.d (.sl k []) :: cs) (.d (.v (.slice none 0 0)) :: vs) := ARs.cons (.d (.nil k)) h
theorem CA.a (h' : CA H lent' cs' vs') (h : CA H lent cs vs) : CA H (lent' ++ lent) (.agg cs' :: cs) (.agg vs' :: vs) :=
  ARs.cons (ARs.agg (ARs.more (fun _ h => List.mem_append_left _ h) h')) (ARs.more (fun _ h => List.mem_append_right _ h) h)
end
section
variable {P : Program} {o : Oper} {A : Operand → AV} {H : Heap} {new : Nat} {fo : Operand} {xs : List Operand} {ts : Array TypeId} {f : FuncId} {caps args : List AV} {res res' : AV} {lent : List Loc}
theorem Ok.c0 (ho : o.op = .call { callee := .value fo, args := xs.toArray, argTypes := ts }) [FnBody P f] (hfo : A fo = .clo (.func f) [] caps) (hc : AC P f args H0 res H0)
    (hargs : CA H lent args (xs.map A ++ caps)) (hfree : FreeF res) (hrn : ∀ g, rn g res = res) : OpOk P o A lent H new res [] := OpOk.call0 lent ho hfo hc (.inr hfree) hrn hargs
theorem Ok.c1 {ob : AObj} (ho : o.op = .call { callee := .value fo, args := xs.toArray, argTypes := ts }) [FnBody P f] (hfo : A fo = .clo (.func f) [] caps) (hc : AC P f args H0 res (upd H0 ⟨0, []⟩ (some ob)))
    (hargs : CA H lent args (xs.map A ++ caps)) (hfree : FreeF res) (hf' : ∀ r ∈ ob.rows, ∀ c ∈ r, FreeF c) (hrn : ∀ g, rnO g ob = ob) (hr : rn (fun l => ⟨new, l.id :: l.sub⟩) res = res') : OpOk P o A lent H new res' [.one ⟨new, [0]⟩ (some ob)] :=
  OpOk.call1n lent ho hfo hc (.inr ⟨hfree, hf'⟩) hrn hargs hr
theorem Ok.c2 {ob ob' : AObj} (ho : o.op = .call { callee := .value fo, args := xs.toArray, argTypes := ts }) [FnBody P f] (hfo : A fo = .clo (.func f) [] caps) (hc : AC P f args H0 res (hp2 ob ob'))
    (hargs : CA H lent args (xs.map A ++ caps)) (hfree : FreeF res) (hf : ∀ r ∈ ob.rows, ∀ c ∈ r, FreeF c) (hf' : ∀ r ∈ ob'.rows, ∀ c ∈ r, FreeF c) (hrn : ∀ g, rnO g ob = ob) (hrn' : ∀ g, rnO g ob' = ob') (hr : rn (fun l => ⟨new, l.id :: l.sub⟩) res = res') : OpOk P o A lent H new res' [.one ⟨new, [0]⟩ (some ob), .one ⟨new, [1]⟩ (some ob')] :=
  OpOk.call2n lent ho hfo hc (.inr ⟨hfree, hf, hf'⟩) hrn hrn' hargs hr
end
def D.isV : D → Bool
  | .v _ => true
  | .sl _ _ => false
theorem free_rowsG {α : Type} {row : α → List D} {k : Nat} {xs : List α} (h : ∀ x, (row x).all D.isV = true) : ∀ r ∈ (dobj k (xs.map row)).rows, ∀ c ∈ r, FreeF c := by
  intro r hr c hc
  simp only [dobj, List.map_map, List.mem_map, Function.comp_def] at hr
  obtain ⟨x, _, rfl⟩ := hr
  obtain ⟨y, hy, rfl⟩ := List.mem_map.1 hc
  have := List.all_eq_true.1 (h x) y hy
  cases y with
  | v v => exact FreeF.v v
  | sl k r => cases this
/-- A loop's head or a function's end: where the places lay before, is told apart. -/
def srcs : HL → List Loc → HL
  | p :: r, s :: q => (p.1, s, p.2.2) :: srcs r q
  | _, _ => []
theorem heapL_srcs : ∀ {hs : HL} {ss : List Loc}, ss.length = hs.length → heapL (srcs hs ss) = heapL hs
  | [], [], _ => rfl
  | p :: r, s :: q, h => by simp only [srcs, heapL]; rw [heapL_srcs (by simpa using h)]
theorem Le.headS {C : Ctx} {fr : List AV} {H : Heap} {n : Nat} {hs : HL} (ss : List Loc) {fr' : List AV} {n' : Nat} (hlen : ss.length = hs.length) (hD : ∀ l, C.D0 l → l.id < n' ∧ tauL (srcs hs ss) l = l) (hob : AllP (fun p => ∃ ob', H p.2.1 = some ob' ∧ ObA H (fun _ => False) (tauL (srcs hs ss)) (fun l => heapL (srcs hs ss) l ≠ none) p.2.2 ob') (srcs hs ss)) (hfr : ARs H (fun _ => False) (tauL (srcs hs ss)) (fun l => heapL (srcs hs ss) l ≠ none) fr' fr)
    (hn1 : ((srcs hs ss).map (·.1)).Nodup) (hn2 : ((srcs hs ss).map (·.2.1)).Nodup) (hn : AllP (fun p => p.1.id < n') (srcs hs ss)) : Le C ⟨fr, H, n⟩ ⟨fr', heapL hs, n'⟩ := by
  have := Le.head (C := C) (n := n) (srcs hs ss) (n' := n') hD hob hfr hn1 hn2 hn
  rwa [heapL_srcs hlen] at this
section
variable {P : Program} {o : Oper} {A : Operand → AV} {H : Heap} {new : Nat} {t t' : TypeId} {x y : Operand}
theorem run_beq {w : World} {a b : Bool} (hu : P.underlying t = some .bool) : (Op.equal t (.bool a) (.bool b)).run P w = .ok (a == b) w := by
  show (Op.equalIn (9999 + 1) t (.bool a) (.bool b)).run P w = _
  rw [Op.equalIn]
  simp [run_underlying hu]
theorem Ok.beq {a b : Bool} (ho : o.op = .binOp .eql t x y t') (hx : A x = Bo a) (hy : A y = Bo b) (hu : P.underlying t = some .bool) : OpOk P o A [] H new (Bo (decide (a = b))) [] := OpOk.bin ho hx hy rfl fun w => by
  simp [binOp, run_beq hu]
  cases a <;> cases b <;> rfl
theorem Ok.bne {a b : Bool} (ho : o.op = .binOp .neq t x y t') (hx : A x = Bo a) (hy : A y = Bo b) (hu : P.underlying t = some .bool) : OpOk P o A [] H new (Bo (decide (a ≠ b))) [] := OpOk.bin ho hx hy rfl fun w => by
  simp [binOp, run_beq hu]
  cases a <;> cases b <;> rfl
theorem Ok.beqS {a : Bool} (ho : o.op = .binOp .eql t x y t') (hx : A x = Bo a) (hy : A y = Bo a) (hu : P.underlying t = some .bool) : OpOk P o A [] H new (Bo true) [] := by
  have := Ok.beq (H := H) (new := new) ho hx hy hu
  simpa using this
theorem Ok.bneS {a : Bool} (ho : o.op = .binOp .neq t x y t') (hx : A x = Bo a) (hy : A y = Bo a) (hu : P.underlying t = some .bool) : OpOk P o A [] H new (Bo false) [] := by
  have := Ok.bne (H := H) (new := new) ho hx hy hu
  simpa using this
end
end Go.Proofs.Ytemomjcgkpinfaa
