/-
  An abstract reading of values and memory: what is only read is told by its data, what a call owns lies in a heap of its own. The relation to the machine's values and worlds, and that steps keep it.
-/
import Derived.Below
import Derived.Orders
import Derived.OneCell
namespace Go.Proofs.Ytemomjcgkpinfaa
open Go Go.RowKit
set_option linter.unusedSimpArgs false
set_option linter.unusedVariables false

/-- Data that is only read: a value of one cell, or a slice of records of k cells each. -/
inductive D where
  | v (x : Value)
  | sl (k : Nat) (rows : List (List D))
/-- A place in the heap that a call owns. -/
structure Loc where
  id : Nat
  sub : List Nat
  deriving DecidableEq
/-- A value as a call sees it. -/
inductive AV where
  | d (x : D)
  | agg (cs : List AV)
  | tup (cs : List AV)
  | own (k : Nat) (l : Loc) (off n : Nat)
  | ownc (k : Nat) (l : Loc) (off n cap : Nat)
  | ptr (k : Nat) (l : Loc) (i j : Nat)
  | dptr (cs : List D)
  | clo (fn : Fn) (first captured : List AV)
  | dead
/-- What lies in an owned place: rows of k cells each. -/
structure AObj where
  k : Nat
  rows : List (List AV)
abbrev Heap := Loc → Option AObj
/-- Where the owned places lie: the block, and how many cells it has; none inside: a nil slice. -/
abbrev Iota := Loc → Option (Option (Nat × Nat))

inductive DR (F : Nat → Prop) (w : World) : D → Value → Prop where
  | v (x : Value) : DR F w (.v x) x
  | sl (k : Nat) (rows : List (List D)) (a : Option Addr) (cap : Nat) (g : Nat → Nat → Value) (hcap : rows.length ≤ cap)
      (h : ∀ i r j c, rows[i]? = some r → r[j]? = some c → ∃ b off, a = some ⟨b, off, none⟩ ∧ F b ∧ w.cell? ⟨b, off + i * k + j, none⟩ = some (g i j))
      (hd : ∀ i r j c, rows[i]? = some r → r[j]? = some c → DR F w c (g i j)) : DR F w (.sl k rows) (.slice a rows.length cap)

inductive VR (ι : Iota) (F : Nat → Prop) (w : World) : AV → Value → Prop where
  | d {x : D} {v : Value} (h : DR F w x v) : VR ι F w (.d x) v
  | agg (cs : List AV) (vs : List Value) (hl : vs.length = cs.length) (h : ∀ (i : Nat) c v, cs[i]? = some c → vs[i]? = some v → VR ι F w c v) : VR ι F w (.agg cs) (.agg vs.toArray)
  | tup (cs : List AV) (vs : List Value) (hl : vs.length = cs.length) (h : ∀ (i : Nat) c v, cs[i]? = some c → vs[i]? = some v → VR ι F w c v) : VR ι F w (.tup cs) (.tuple vs.toArray)
  | own (k : Nat) (l : Loc) (off n b sz cap : Nat) (h : ι l = some (some (b, sz))) (hn : n ≤ cap) (hs : (off + cap) * k ≤ sz) : VR ι F w (.own k l off n) (.slice (some ⟨b, off * k, none⟩) n cap)
  | ownNil (k : Nat) (l : Loc) (h : ι l = some none) : VR ι F w (.own k l 0 0) (.slice none 0 0)
  | ownc (k : Nat) (l : Loc) (off n cap b sz : Nat) (h : ι l = some (some (b, sz))) (hn : n ≤ cap) (hs : (off + cap) * k ≤ sz) : VR ι F w (.ownc k l off n cap) (.slice (some ⟨b, off * k, none⟩) n cap)
  | owncNil (k : Nat) (l : Loc) (h : ι l = some none) : VR ι F w (.ownc k l 0 0 0) (.slice none 0 0)
  | ptr (k : Nat) (l : Loc) (i j b sz : Nat) (h : ι l = some (some (b, sz))) : VR ι F w (.ptr k l i j) (.pointer (some ⟨b, i * k + j, none⟩))
  | dptr (cs : List D) (b off : Nat) (g : Nat → Value) (hF : F b) (h : ∀ j c, cs[j]? = some c → w.cell? ⟨b, off + j, none⟩ = some (g j)) (hd : ∀ j c, cs[j]? = some c → DR F w c (g j)) : VR ι F w (.dptr cs) (.pointer (some ⟨b, off, none⟩))
  | clo (fn : Fn) (fs cs : List AV) (fv cv : List Value) (hf : fv.length = fs.length) (hc : cv.length = cs.length)
      (h : ∀ (i : Nat) c v, fs[i]? = some c → fv[i]? = some v → VR ι F w c v) (h' : ∀ (i : Nat) c v, cs[i]? = some c → cv[i]? = some v → VR ι F w c v) : VR ι F w (.clo fn fs cs) (.func fn fv.toArray cv.toArray)
  | dead (v : Value) : VR ι F w .dead v

/-- What is read stays readable. -/
theorem DR.mono {F F' : Nat → Prop} {w w' : World} {x : D} {v : Value} (h : DR F w x v) (hF : ∀ b, F b → F' b) (hw : ∀ b, F b → w'.heap[b]? = w.heap[b]?) : DR F' w' x v := by
  induction h with
  | v x => exact .v x
  | sl k rows a cap g hcap h hd ih =>
    refine .sl k rows a cap g hcap (fun i r j c hr hc => ?_) (fun i r j c hr hc => ih i r j c hr hc)
    obtain ⟨b, off, e, hb, hv⟩ := h i r j c hr hc
    exact ⟨b, off, e, hF _ hb, (World.cell?_of_block (w := w) (hw _ hb)).trans hv⟩
def Ext (ι ι' : Iota) : Prop := ∀ l x, ι l = some x → ι' l = some x
theorem VR.mono {ι ι' : Iota} {F F' : Nat → Prop} {w w' : World} {x : AV} {v : Value} (h : VR ι F w x v) (hι : Ext ι ι') (hF : ∀ b, F b → F' b) (hw : ∀ b, F b → w'.heap[b]? = w.heap[b]?) : VR ι' F' w' x v := by
  induction h with
  | d h => exact .d (h.mono hF hw)
  | agg cs vs hl h ih => exact .agg cs vs hl ih
  | tup cs vs hl h ih => exact .tup cs vs hl ih
  | own k l off n b sz cap h hn hs => exact .own k l off n b sz cap (hι _ _ h) hn hs
  | ownNil k l h => exact .ownNil k l (hι _ _ h)
  | ownc k l off n cap b sz h hn hs => exact .ownc k l off n cap b sz (hι _ _ h) hn hs
  | owncNil k l h => exact .owncNil k l (hι _ _ h)
  | ptr k l i j b sz h => exact .ptr k l i j b sz (hι _ _ h)
  | dptr cs b off g hF' h hd =>
    exact .dptr cs b off g (hF _ hF') (fun j c hc => (World.cell?_of_block (w := w) (hw _ hF')).trans (h j c hc)) (fun j c hc => (hd j c hc).mono hF hw)
  | clo fn fs cs fv cv hf hc h h' ih ih' => exact .clo fn fs cs fv cv hf hc ih ih'
  | dead v => exact .dead v

/-- A list of values as a list of the machine's. -/
def VRs (ι : Iota) (F : Nat → Prop) (w : World) (cs : List AV) (vs : List Value) : Prop := vs.length = cs.length ∧ ∀ (i : Nat) c v, cs[i]? = some c → vs[i]? = some v → VR ι F w c v
theorem VRs.mono {ι ι' : Iota} {F F' : Nat → Prop} {w w' : World} {cs : List AV} {vs : List Value} (h : VRs ι F w cs vs) (hι : Ext ι ι') (hF : ∀ b, F b → F' b) (hw : ∀ b, F b → w'.heap[b]? = w.heap[b]?) : VRs ι' F' w' cs vs :=
  ⟨h.1, fun i c v hc hv => (h.2 i c v hc hv).mono hι hF hw⟩
theorem VRs.nil {ι : Iota} {F : Nat → Prop} {w : World} : VRs ι F w [] [] := ⟨rfl, fun _ _ _ h => by simp at h⟩
theorem VRs.cons {ι : Iota} {F : Nat → Prop} {w : World} {c : AV} {v : Value} {cs : List AV} {vs : List Value} (h : VR ι F w c v) (h' : VRs ι F w cs vs) : VRs ι F w (c :: cs) (v :: vs) := by
  refine ⟨by simp [h'.1], fun i c' v' hc hv => ?_⟩
  cases i with
  | zero => simp at hc hv; subst hc; subst hv; exact h
  | succ i => simp at hc hv; exact h'.2 i _ _ hc hv
theorem VRs.get {ι : Iota} {F : Nat → Prop} {w : World} {cs : List AV} {vs : List Value} (h : VRs ι F w cs vs) {i : Nat} {c : AV} (hc : cs[i]? = some c) : ∃ v, vs[i]? = some v ∧ VR ι F w c v := by
  have hi := (List.getElem?_eq_some_iff.1 hc).1
  have hv := List.getElem?_eq_getElem (l := vs) (i := i) (by rw [h.1]; exact hi)
  exact ⟨_, hv, h.2 _ _ _ hc hv⟩
theorem VRs.agg {ι : Iota} {F : Nat → Prop} {w : World} {cs : List AV} {vs : List Value} (h : VRs ι F w cs vs) : VR ι F w (.agg cs) (.agg vs.toArray) := .agg cs vs h.1 h.2
theorem VRs.tup {ι : Iota} {F : Nat → Prop} {w : World} {cs : List AV} {vs : List Value} (h : VRs ι F w cs vs) : VR ι F w (.tup cs) (.tuple vs.toArray) := .tup cs vs h.1 h.2

/-! What a value's reading says of it. -/
theorem VR.agg_inv {ι : Iota} {F : Nat → Prop} {w : World} {cs : List AV} {v : Value} (h : VR ι F w (.agg cs) v) : ∃ vs, v = .agg vs.toArray ∧ VRs ι F w cs vs := by
  cases h with | agg _ vs hl h => exact ⟨vs, rfl, hl, h⟩
theorem VR.tup_inv {ι : Iota} {F : Nat → Prop} {w : World} {cs : List AV} {v : Value} (h : VR ι F w (.tup cs) v) : ∃ vs, v = .tuple vs.toArray ∧ VRs ι F w cs vs := by
  cases h with | tup _ vs hl h => exact ⟨vs, rfl, hl, h⟩
theorem VR.v_inv {ι : Iota} {F : Nat → Prop} {w : World} {x v : Value} (h : VR ι F w (.d (.v x)) v) : v = x := by
  cases h with | d h => cases h; rfl
theorem VR.sl_inv {ι : Iota} {F : Nat → Prop} {w : World} {k : Nat} {rows : List (List D)} {v : Value} (h : VR ι F w (.d (.sl k rows)) v) : DR F w (.sl k rows) v := by
  cases h with | d h => exact h
theorem VR.ptr_inv {ι : Iota} {F : Nat → Prop} {w : World} {k i j : Nat} {l : Loc} {v : Value} (h : VR ι F w (.ptr k l i j) v) : ∃ b sz, ι l = some (some (b, sz)) ∧ v = .pointer (some ⟨b, i * k + j, none⟩) := by
  cases h with | ptr _ _ _ _ b sz h => exact ⟨b, sz, h, rfl⟩
theorem VR.own_inv {ι : Iota} {F : Nat → Prop} {w : World} {k off n : Nat} {l : Loc} {v : Value} (h : VR ι F w (.own k l off n) v) :
    (∃ b sz cap, ι l = some (some (b, sz)) ∧ n ≤ cap ∧ (off + cap) * k ≤ sz ∧ v = .slice (some ⟨b, off * k, none⟩) n cap) ∨ (ι l = some none ∧ off = 0 ∧ n = 0 ∧ v = .slice none 0 0) := by
  cases h with
  | own _ _ _ _ b sz cap h hn hs => exact .inl ⟨b, sz, cap, h, hn, hs, rfl⟩
  | ownNil _ _ h => exact .inr ⟨h, rfl, rfl, rfl⟩
theorem VR.ownc_inv {ι : Iota} {F : Nat → Prop} {w : World} {k off n cap : Nat} {l : Loc} {v : Value} (h : VR ι F w (.ownc k l off n cap) v) :
    (∃ b sz, ι l = some (some (b, sz)) ∧ n ≤ cap ∧ (off + cap) * k ≤ sz ∧ v = .slice (some ⟨b, off * k, none⟩) n cap) ∨ (ι l = some none ∧ off = 0 ∧ n = 0 ∧ cap = 0 ∧ v = .slice none 0 0) := by
  cases h with
  | ownc _ _ _ _ _ b sz h hn hs => exact .inl ⟨b, sz, h, hn, hs, rfl⟩
  | owncNil _ _ h => exact .inr ⟨h, rfl, rfl, rfl, rfl⟩

/-! ### The heap -/
def upd (H : Heap) (l : Loc) (o : Option AObj) : Heap := fun l' => if l' = l then o else H l'
/-- What an operation writes: one place, or all that bears its number. -/
inductive W where
  | one (l : Loc) (o : Option AObj)
  | all (id : Nat) (g : List Nat → Option AObj)
def W.app (H : Heap) : W → Heap
  | .one l o => upd H l o
  | .all id g => fun l => if l.id = id then g l.sub else H l
def W.hits : W → Loc → Bool
  | .one l _, l' => l' == l
  | .all id _, l' => l'.id == id
def W.meets : W → W → Bool
  | .one l _, w => w.hits l
  | .all id _, .one l _ => l.id == id
  | .all id _, .all id' _ => id == id'
def upds (H : Heap) : List W → Heap
  | [] => H
  | w :: r => upds (w.app H) r
theorem upd_same {H : Heap} {l : Loc} {o : Option AObj} : upd H l o l = o := by simp [upd]
theorem upd_ne {H : Heap} {l l' : Loc} {o : Option AObj} (h : l' ≠ l) : upd H l o l' = H l' := by simp [upd, h]

/-- The owned place l as the block has it. -/
def ObjR (ι : Iota) (F : Nat → Prop) (w : World) (l : Loc) (o : AObj) : Prop :=
  (ι l = some none ∧ o.rows = []) ∨ ∃ (b : Nat) (cs : List Value) (T : TypeId), ι l = some (some (b, cs.length)) ∧ w.heap[b]? = some (.cells cs.toArray T (0, 0)) ∧ o.rows.length * o.k ≤ cs.length ∧
    ∀ (i : Nat) r, o.rows[i]? = some r → r.length = o.k ∧ ∀ (j : Nat) c, r[j]? = some c → ∃ v, cs[i * o.k + j]? = some v ∧ VR ι F w c v
structure Sim (ι : Iota) (F : Nat → Prop) (H : Heap) (w : World) : Prop where
  obj : ∀ l o, H l = some o → ObjR ι F w l o
  inj : ∀ l l' b s s', H l ≠ none → H l' ≠ none → ι l = some (some (b, s)) → ι l' = some (some (b, s')) → l = l'
  notF : ∀ l b s, H l ≠ none → ι l = some (some (b, s)) → ¬ F b
  lt : ∀ b, F b → b < w.heap.size
theorem Sim.isSome {ι : Iota} {F : Nat → Prop} {H : Heap} {w : World} (h : Sim ι F H w) {l : Loc} (hl : H l ≠ none) : ι l ≠ none := by
  cases ho : H l with
  | none => exact absurd ho hl
  | some o => rcases h.obj l o ho with ⟨e, _⟩ | ⟨b, cs, T, e, _⟩ <;> rw [e] <;> simp
theorem Sim.isNone {ι : Iota} {F : Nat → Prop} {H : Heap} {w : World} (h : Sim ι F H w) {l : Loc} (hl : ι l = none) : H l = none := by
  cases ho : H l with
  | none => rfl
  | some o => exact absurd hl (h.isSome (by rw [ho]; simp))
theorem Sim.blt {ι : Iota} {F : Nat → Prop} {H : Heap} {w : World} (h : Sim ι F H w) {l : Loc} {b s : Nat} (hl : H l ≠ none) (e : ι l = some (some (b, s))) : b < w.heap.size := by
  cases ho : H l with
  | none => exact absurd ho hl
  | some o =>
    rcases h.obj l o ho with ⟨e', _⟩ | ⟨b', cs, T, e', hb, _⟩
    · rw [e] at e'; cases e'
    · rw [e] at e'; simp only [Option.some.injEq, Prod.mk.injEq] at e'
      obtain ⟨rfl, _⟩ := e'
      exact (Array.getElem?_eq_some_iff.1 hb).1
theorem ObjR.mono {ι ι' : Iota} {F F' : Nat → Prop} {w w' : World} {l : Loc} {o : AObj} (h : ObjR ι F w l o) (hι : Ext ι ι') (hF : ∀ b, F b → F' b) (hw : ∀ b, F b → w'.heap[b]? = w.heap[b]?) (hb : ∀ b s, ι l = some (some (b, s)) → w'.heap[b]? = w.heap[b]?) : ObjR ι' F' w' l o := by
  rcases h with ⟨e, h⟩ | ⟨b, cs, T, e, hc, hl, h⟩
  · exact .inl ⟨hι _ _ e, h⟩
  · exact .inr ⟨b, cs, T, hι _ _ e, (hb b _ e).trans hc, hl, fun i r hr => ⟨(h i r hr).1, fun j c hc => let ⟨v, h1, h2⟩ := (h i r hr).2 j c hc; ⟨v, h1, h2.mono hι hF hw⟩⟩⟩

/-- What a step may do to old memory: write into the blocks of O alone. -/
structure Step (O : Nat → Prop) (w w' : World) : Prop where
  os : w'.os = w.os
  tape : w'.tape = w.tape
  output : w'.output = w.output
  size : w.heap.size ≤ w'.heap.size
  block : ∀ b, b < w.heap.size → ¬ O b → w'.heap[b]? = w.heap[b]?
theorem Step.refl (O : Nat → Prop) (w : World) : Step O w w := ⟨rfl, rfl, rfl, Nat.le_refl _, fun _ _ _ => rfl⟩
theorem Step.trans {O O' O'' : Nat → Prop} {w w' w'' : World} (h : Step O w w') (k : Step O' w' w'') (h1 : ∀ b, O b → O'' b) (h2 : ∀ b, b < w.heap.size → O' b → O'' b) : Step O'' w w'' :=
  ⟨k.os.trans h.os, k.tape.trans h.tape, k.output.trans h.output, Nat.le_trans h.size k.size, fun b hb ho =>
    (k.block b (Nat.lt_of_lt_of_le hb h.size) (fun h' => ho (h2 b hb h'))).trans (h.block b hb (fun h' => ho (h1 b h')))⟩
theorem Step.mono {O O' : Nat → Prop} {w w' : World} (h : Step O w w') (h1 : ∀ b, O b → O' b) : Step O' w w' := ⟨h.os, h.tape, h.output, h.size, fun b hb ho => h.block b hb (fun h' => ho (h1 b h'))⟩
theorem Step.below {w w' : World} (h : Step (fun _ => False) w w') : Below w.heap.size w w' := ⟨h.os, h.tape, h.output, h.size, fun b hb => h.block b hb id⟩
theorem Step.of_below {O : Nat → Prop} {w w' : World} (h : Below w.heap.size w w') : Step O w w' := ⟨h.os, h.tape, h.output, h.size, fun b hb _ => h.block b hb⟩
theorem Step.drew {O : Nat → Prop} {w w' : World} (h : Step O w w') : Step O w w'.drew := ⟨h.os, h.tape, h.output, h.size, h.block⟩

/-- Block b belongs to the owned place l. -/
def Owned (ι : Iota) (H : Heap) (l : Loc) (b : Nat) : Prop := H l ≠ none ∧ ∃ s, ι l = some (some (b, s))

/-- What an operation does: reads are the owned places into which it may look or write, new the number under which it may lay new ones. -/
structure Post (ι : Iota) (F : Nat → Prop) (H : Heap) (w : World) (reads : List Loc) (new : Nat) (ι' : Iota) (F' : Nat → Prop) (H' : Heap) (w' : World) : Prop where
  sim : Sim ι' F' H' w'
  ext : Ext ι ι'
  dom : ∀ l, ι' l ≠ none → ι l ≠ none ∨ l.id = new
  sub : ∀ b, F b → F' b
  sup : ∀ b, F' b → F b ∨ (∃ l ∈ reads, Owned ι H l b) ∨ w.heap.size ≤ b
  step : Step (fun b => ∃ l ∈ reads, Owned ι H l b) w w'
  own : ∀ l b s, H' l ≠ none → ι' l = some (some (b, s)) → (∃ l0, Owned ι H l0 b) ∨ w.heap.size ≤ b
/-- Behind such an operation what was read reads as before. -/
theorem Post.stay {ι ι' : Iota} {F F' : Nat → Prop} {H H' : Heap} {w w' : World} {reads : List Loc} {new : Nat} (h : Post ι F H w reads new ι' F' H' w') (hs : Sim ι F H w) : ∀ b, F b → w'.heap[b]? = w.heap[b]? :=
  fun b hb => h.step.block b (hs.lt b hb) (fun ⟨l, _, hl, s, e⟩ => hs.notF l b s hl e hb)
/-- The operation reads alone. -/
theorem Post.same {ι : Iota} {F : Nat → Prop} {H : Heap} {w : World} (hs : Sim ι F H w) (reads : List Loc) (new : Nat) : Post ι F H w reads new ι F H w :=
  ⟨hs, fun _ _ h => h, fun _ h => .inl h, fun _ h => h, fun _ h => .inl h, Step.refl _ _, fun l b s hl e => .inl ⟨l, hl, s, e⟩⟩
theorem Sim.drew {ι : Iota} {F : Nat → Prop} {H : Heap} {w : World} (hs : Sim ι F H w) : Sim ι F H w.drew :=
  ⟨fun l o h => (hs.obj l o h).mono (fun _ _ h => h) (fun _ h => h) (fun _ _ => rfl) (fun _ _ _ => rfl), hs.inj, hs.notF, hs.lt⟩

/-- What is asked of an operation's run. -/
def Upon (P : Program) (S : Value → World → Prop) : Result Next → Prop
  | .ok (.value u) w' => S u w'
  | .ok .skip w' => S undef w'
  | .ok (.enter f args) w' => Calls P f args w' fun e w'' => ∃ v, e = .returned v ∧ S v w''
  | _ => False
theorem Upon.mono {P : Program} {S S' : Value → World → Prop} {r : Result Next} (h : Upon P S r) (hs : ∀ v w, S v w → S' v w) : Upon P S' r := by
  cases r with
  | ok x w' =>
    cases x <;> simp only [Upon] at h ⊢
    case value u => exact hs _ _ h
    case skip => exact hs _ _ h
    case enter f args => exact h.mono fun e w'' ⟨v, he, h1⟩ => ⟨v, he, hs _ _ h1⟩
  | halt x w' => simp only [Upon] at h
theorem Upon.wp {P : Program} {S : Value → World → Prop} {o : Oper} {a : Act} {w : World} {K : Act → World → Prop} {Q : Exit → Act → World → Prop} (h : Upon P S ((execOp a.eval o).run P w)) (hk : ∀ v w', S v w' → K (a.put o.dst v) w') : o.wp P a w K Q := by
  unfold Oper.wp
  generalize (execOp a.eval o).run P w = r at *
  cases r with
  | ok x w' =>
    cases x <;> simp only [Upon] at h <;> simp only [Oper.upon]
    case value u => exact hk _ _ h
    case skip => exact hk _ _ h
    case enter f args => exact h.mono fun e w'' ⟨v, he, h1⟩ => by subst he; exact hk _ _ h1
  | halt x w' => simp only [Upon] at h

/-- The operation o, its operands' values told by A, in a heap that is H at reads: its value is val, the heap behind it that with wr written. -/
def OpOk (P : Program) (o : Oper) (A : Operand → AV) (reads : List Loc) (H : Heap) (new : Nat) (val : AV) (wr : List W) : Prop :=
  ∀ (ι : Iota) (F : Nat → Prop) (w : World) (H1 : Heap) (ρ : Operand → Value), (∀ l ∈ reads, H1 l = H l) → (∀ k, ι ⟨new, k⟩ = none) → Sim ι F H1 w → (∀ x ∈ o.op.operands, VR ι F w (A x) (ρ x)) →
    Upon P (fun v w' => ∃ ι' F', VR ι' F' w' val v ∧ Post ι F H1 w reads new ι' F' (upds H1 wr) w') ((execOp ρ o).run P w)
end Go.Proofs.Ytemomjcgkpinfaa
