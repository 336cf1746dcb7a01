/-
  The abstract reading of a call's frame, and the rules for its code: lists of operations, regions in whatever order, blocks, branches, loops.
-/
import Derived.Test.YtemomjcgkpinfaaA1
import Derived.Tactics
namespace Go.Proofs.Ytemomjcgkpinfaa
open Go Go.RowKit
set_option linter.unusedSimpArgs false
set_option linter.unusedVariables false

/-- A call's frame, its own heap, and the first number that no owned place bears. -/
structure AS where
  fr : List AV
  H : Heap
  next : Nat
def evalF (fr : List AV) : Operand → AV
  | .tmp t => (fr[t]?).getD (.d (.v undef))
  | .const v => .d (.v v)
  | .global g => .d (.v (.pointer (some ⟨g, 0, none⟩)))
  | .func f => .clo (.func f) [] []
def putF (fr : List AV) (dst : Option Tmp) (x : AV) : List AV := match dst with | some t => fr.set t x | none => fr

/-- Where a call began. -/
structure Ctx where
  w0 : World
  O0 : Nat → Prop
  F0 : Nat → Prop
  D0 : Loc → Prop
  ι0 : Iota
structure Inv (C : Ctx) (ι : Iota) (F : Nat → Prop) (H : Heap) (w : World) : Prop where
  step : Step C.O0 C.w0 w
  sub : ∀ b, C.F0 b → F b
  sup : ∀ b, F b → C.F0 b ∨ C.O0 b ∨ C.w0.heap.size ≤ b
  own : ∀ l b, Owned ι H l b → C.O0 b ∨ C.w0.heap.size ≤ b
  keep : ∀ l x, C.D0 l → C.ι0 l = some x → ι l = some x
/-- The frame and the heap as the machine has them; the numbers of U have not been used. -/
def RR (C : Ctx) (U : Nat → Prop) (fr : List AV) (H : Heap) (a : Act) (w : World) : Prop :=
  ∃ ι F, Sim ι F H w ∧ VRs ι F w fr a.tmps.toList ∧ a.defers = [] ∧ Inv C ι F H w ∧ ∀ id, U id → ∀ k, ι ⟨id, k⟩ = none
def RS (C : Ctx) (s : AS) (a : Act) (w : World) : Prop := RR C (fun id => s.next ≤ id) s.fr s.H a w

theorem VRs.eval {ι : Iota} {F : Nat → Prop} {w : World} {fr : List AV} {a : Act} (h : VRs ι F w fr a.tmps.toList) (x : Operand) : VR ι F w (evalF fr x) (a.eval x) := by
  cases x with
  | tmp t =>
    simp only [evalF, Act.eval]
    cases hf : fr[t]? with
    | none =>
      have ht : a.tmps.size ≤ t := by have := h.1; have := List.getElem?_eq_none_iff.1 hf; simp at *; omega
      simp [Array.getD, Nat.not_lt.2 ht]
      exact .d (.v _)
    | some c =>
      obtain ⟨v, hv, hr⟩ := h.get hf
      have : a.tmps[t]? = some v := by simpa using hv
      simp only [Array.getD_eq_getD_getElem?, this, Option.getD_some]
      exact hr
  | const v => exact .d (.v _)
  | global g => exact .d (.v _)
  | func f => exact .clo (.func f) [] [] [] [] rfl rfl (fun _ _ _ h => by simp at h) (fun _ _ _ h => by simp at h)
theorem VRs.put {ι : Iota} {F : Nat → Prop} {w : World} {fr : List AV} {a : Act} {dst : Option Tmp} {x : AV} {v : Value} (h : VRs ι F w fr a.tmps.toList) (hx : VR ι F w x v) : VRs ι F w (putF fr dst x) (a.put dst v).tmps.toList := by
  cases dst with
  | none => exact h
  | some t =>
    refine ⟨by simpa [putF, Act.put] using h.1, fun i c u hc hu => ?_⟩
    simp only [putF, Act.put, Array.toList_setIfInBounds, List.getElem?_set] at hc hu
    by_cases hit : t = i
    · subst hit
      simp only [if_true] at hc hu
      split at hc
      · split at hu
        · cases hc; cases hu; exact hx
        · cases hu
      · cases hc
    · rw [if_neg hit] at hc hu
      exact h.2 i c u hc hu

/-- One operation. -/
theorem RR.op {P : Program} {C : Ctx} {U : Nat → Prop} {fr : List AV} {H : Heap} {a : Act} {w : World} {o : Oper} {reads : List Loc} {new : Nat} {val : AV} {wr : List W} {K : Act → World → Prop} {Q : Exit → Act → World → Prop}
    (h : RR C U fr H a w) (ho : OpOk P o (evalF fr) reads H new val wr) (hn : U new) (hk : ∀ a' w', RR C (fun id => U id ∧ id ≠ new) (putF fr o.dst val) (upds H wr) a' w' → K a' w') : o.wp P a w K Q := by
  obtain ⟨ι, F, hs, hv, hd, hi, hu⟩ := h
  refine (ho ι F w H a.eval (fun _ _ => rfl) (hu new hn) hs (fun x _ => hv.eval x)).wp ?_
  rintro v w' ⟨ι', F', hr, hp⟩
  refine hk _ _ ⟨ι', F', hp.sim, (hv.mono hp.ext hp.sub (hp.stay hs)).put hr, ?_, ?_, ?_⟩
  · cases o.dst <;> exact hd
  · refine ⟨hi.step.trans hp.step (fun _ h => h) (fun b hb ⟨l, _, ho⟩ => ?_), fun b hb => hp.sub _ (hi.sub b hb), fun b hb => ?_, fun l b ho => ?_, fun l x hl he => hp.ext _ _ (hi.keep l x hl he)⟩
    · rcases hi.own l b ho with h | h
      · exact h
      · omega
    · rcases hp.sup b hb with h | ⟨l, _, ho⟩ | h
      · exact hi.sup b h
      · exact .inr (hi.own l b ho)
      · exact .inr (.inr (Nat.le_trans hi.step.size h))
    · obtain ⟨hl, s, e⟩ := ho
      rcases hp.own l b s hl e with ⟨l0, h0⟩ | h
      · exact hi.own l0 b h0
      · exact .inr (Nat.le_trans hi.step.size h)
  · rintro id ⟨hid, hne⟩ k
    cases he : ι' ⟨id, k⟩ with
    | none => rfl
    | some x =>
      rcases hp.dom ⟨id, k⟩ (by rw [he]; simp) with h | h
      · exact absurd (hu id hid k) h
      · exact absurd h hne
theorem RR.drew {C : Ctx} {U : Nat → Prop} {fr : List AV} {H : Heap} {a : Act} {w : World} (h : RR C U fr H a w) : RR C U fr H a { w with drawn := w.drawn + 1 } := by
  obtain ⟨ι, F, hs, hv, hd, hi, hu⟩ := h
  exact ⟨ι, F, hs.drew, hv.mono (fun _ _ h => h) (fun _ h => h) (fun _ _ => rfl), hd, ⟨hi.step.drew, hi.sub, hi.sup, hi.own, hi.keep⟩, hu⟩
theorem RR.skip {C : Ctx} {U : Nat → Prop} {fr : List AV} {H : Heap} {a : Act} {w : World} (h : RR C U fr H a w) (dst : Option Tmp) : RR C U (putF fr dst (.d (.v undef))) H (a.put dst undef) w := by
  obtain ⟨ι, F, hs, hv, hd, hi, hu⟩ := h
  exact ⟨ι, F, hs, hv.put (.d (.v _)), by cases dst <;> exact hd, hi, hu⟩
theorem RR.less {C : Ctx} {U U' : Nat → Prop} {fr : List AV} {H : Heap} {a : Act} {w : World} (h : RR C U fr H a w) (hU : ∀ id, U' id → U id) : RR C U' fr H a w := by
  obtain ⟨ι, F, hs, hv, hd, hi, hu⟩ := h
  exact ⟨ι, F, hs, hv, hd, hi, fun id h => hu id (hU id h)⟩

/-- Is the operation wanted? -/
def GuardIs (ops : Array Oper) (fr : List AV) (o : Oper) (on : Bool) : Prop :=
  match o.guard with
  | none => on = true
  | some (j, want) => ∃ t b, (ops[j]?).bind (·.dst) = some t ∧ fr[t]? = some (.d (.v (.bool b))) ∧ on = (b == want)
theorem GuardIs.wanted {ι : Iota} {F : Nat → Prop} {w : World} {ops : Array Oper} {fr : List AV} {o : Oper} {on : Bool} {a : Act} (h : GuardIs ops fr o on) (hv : VRs ι F w fr a.tmps.toList) : Region.wanted o (yielded ops a.tmps) = on := by
  unfold GuardIs at h
  unfold Region.wanted
  cases hg : o.guard with
  | none => simp only [hg] at h; exact h.symm
  | some jw =>
    obtain ⟨j, want⟩ := jw
    simp only [hg] at h ⊢
    obtain ⟨t, b, ht, hf, rfl⟩ := h
    obtain ⟨v, hv', hr⟩ := hv.get hf
    have := hr.v_inv
    subst this
    have h2 : a.tmps[t]? = some (.bool b) := by simpa using hv'
    simp only [yielded, ht, Option.bind_some, h2]
    cases b <;> cases want <;> rfl

/-! ### Operations one behind the other -/
def Lift (C : Ctx) (Q : Exit → AS → Prop) : Exit → Act → World → Prop := fun e a w => ∃ s, Q e s ∧ RS C s a w
def AL (P : Program) (C : Ctx) (ops : Array Oper) (Q : Exit → AS → Prop) (l : List Oper) (s : AS) : Prop := ∀ a w, RS C s a w → wpList P ops (Lift C Q) l a w
section
variable {P : Program} {C : Ctx} {ops : Array Oper} {Q : Exit → AS → Prop} {l rest : List Oper} {s : AS} {o : Oper}
theorem AL.nil (h : Q .normal s) : AL P C ops Q [] s := fun _ _ r => ⟨s, h, r⟩
theorem AL.cons {reads : List Loc} {val : AV} {wr : List W} (on : Bool) (hg : GuardIs ops s.fr o on) (h1 : on = true → OpOk P o (evalF s.fr) reads s.H s.next val wr ∧ AL P C ops Q rest ⟨putF s.fr o.dst val, upds s.H wr, s.next + 1⟩)
    (h0 : on = false → AL P C ops Q rest ⟨putF s.fr o.dst (.d (.v undef)), s.H, s.next + 1⟩) : AL P C ops Q (o :: rest) s := by
  intro a w r
  have hw : Region.wanted o (yielded ops a.tmps) = on := by obtain ⟨ι, F, _, hv, _⟩ := r; exact hg.wanted hv
  unfold wpList
  rw [hw]
  cases on with
  | true =>
    rw [if_pos rfl]
    left
    obtain ⟨ho, hr⟩ := h1 rfl
    exact RR.op r ho (Nat.le_refl _) (fun a' w' r' => hr a' w' (r'.less fun id hid => ⟨Nat.le_of_lt hid, Nat.ne_of_gt hid⟩))
  | false =>
    rw [if_neg (by simp)]
    exact h0 rfl _ _ ((RR.skip r o.dst).less fun id hid => Nat.le_of_lt hid)
theorem AL.op {reads : List Loc} {val : AV} {wr : List W} (hg : o.guard = none) (h1 : OpOk P o (evalF s.fr) reads s.H s.next val wr) (h2 : AL P C ops Q rest ⟨putF s.fr o.dst val, upds s.H wr, s.next + 1⟩) : AL P C ops Q (o :: rest) s :=
  AL.cons true (by unfold GuardIs; rw [hg]) (fun _ => ⟨h1, h2⟩) (fun h => by cases h)
end

/-! ### Code -/
def AW (P : Program) (C : Ctx) (c : Code) (Q : Exit → AS → Prop) (s : AS) : Prop := ∀ a w, RS C s a w → c.wp P (Lift C Q) a w
section
variable {P : Program} {C : Ctx} {Q : Exit → AS → Prop} {s : AS}
theorem AW.mono {c : Code} {Q' : Exit → AS → Prop} (h : AW P C c Q s) (hq : ∀ e s, Q e s → Q' e s) : AW P C c Q' s := fun a w r => wp_mono (h a w r) fun _ _ _ ⟨s', q, r'⟩ => ⟨s', hq _ _ q, r'⟩
theorem AW.skip (h : Q .normal s) : AW P C .skip Q s := fun _ _ r => wp_skip ⟨s, h, r⟩
theorem AW.label {l : Nat} (h : Q .normal s) : AW P C (.label l) Q s := fun _ _ r => wp_label ⟨s, h, r⟩
theorem AW.exit {id : Nat} (h : Q (.exit id) s) : AW P C (.exit id) Q s := fun _ _ r => wp_exit ⟨s, h, r⟩
theorem AW.ret (h : Q .ret s) : AW P C .ret Q s := fun _ _ r => wp_ret ⟨s, h, r⟩
def thenQ (K : AS → Prop) (Q : Exit → AS → Prop) : Exit → AS → Prop
  | .normal, s => K s
  | e, s => Q e s
theorem AW.seq {x y : Code} (h : AW P C x (thenQ (AW P C y Q) Q) s) : AW P C (.seq x y) Q s := fun a w r => wp_seq (wp_mono (h a w r) fun e a' w' ⟨s', q, r'⟩ => by
  cases e <;> first | exact q a' w' r' | exact ⟨s', q, r'⟩)
theorem AW.cond {c : Operand} {x y : Code} (t : Bool) (hc : evalF s.fr c = .d (.v (.bool t))) (h1 : t = true → AW P C x Q s) (h0 : t = false → AW P C y Q s) : AW P C (.cond c x y) Q s := by
  intro a w r
  have he : a.eval c = .bool t := by
    obtain ⟨ι, F, _, hv, _⟩ := r
    have := hv.eval c
    rw [hc] at this
    exact this.v_inv
  cases t with
  | true => exact wp_cond_true he (h1 rfl a w r)
  | false => exact wp_cond_false he (h0 rfl a w r)
def blockQ (id : Nat) (Q : Exit → AS → Prop) : Exit → AS → Prop
  | .exit id', s => if id' = id then Q .normal s else Q (.exit id') s
  | e, s => Q e s
theorem AW.block {id : Nat} {c : Code} (h : AW P C c (blockQ id Q) s) : AW P C (.block id c) Q s := fun a w r => wp_block (wp_mono (h a w r) fun e a' w' ⟨s', q, r'⟩ => by
  cases e <;> simp only [blockQ] at q <;> simp only [Exit.inBlock] <;> first
    | (split at q <;> (rename_i he; first | rw [if_pos he] | rw [if_neg he]) <;> exact ⟨s', q, r'⟩)
    | exact ⟨s', q, r'⟩)
theorem AW.region {id : Nat} {l : List Oper} (h : AL P C l.toArray Q l s) : AW P C (.region id l.toArray false) Q s := fun a w r => wp_region_lit (h a w r)
/-- What is known in the state s is known in s'. -/
def Le (C : Ctx) (s s' : AS) : Prop := ∀ a w, RS C s a w → RS C s' a w
theorem Le.refl (s : AS) : Le C s s := fun _ _ r => r
theorem Le.trans {s s' s'' : AS} (h : Le C s s') (h' : Le C s' s'') : Le C s s'' := fun a w r => h' a w (h a w r)
theorem AW.le {c : Code} {s' : AS} (h : AW P C c Q s') (hl : Le C s s') : AW P C c Q s := fun a w r => h a w (hl a w r)
theorem AW.loop {X : Type} {c : Code} (St : X → AS) (μ : X → Nat) (x0 : X) (h0 : Le C s (St x0)) (round : ∀ x, AW P C c (thenQ (fun s' => ∃ x', Le C s' (St x') ∧ μ x' < μ x) Q) (St x)) : AW P C (.loop c) Q s := by
  intro a w r b k cs
  have key : ∀ n x a w, μ x = n → RS C (St x) a w →
      ∃ e a' w', Lift C Q e a' w' ∧ Arrives P (lone (b.at a (.code c :: .inLoop c :: k)) cs w) b k cs e a' w' := by
    intro n
    induction n using Nat.strongRecOn with
    | _ n ih =>
      intro x a w hn hI
      obtain ⟨e, a₁, w₁, ⟨s₁, hq, hr⟩, harr⟩ := round x a w hI b (.inLoop c :: k) cs
      cases e with
      | normal =>
        obtain ⟨x', hle, hlt⟩ := hq
        obtain ⟨e₂, a₂, w₂, hq₂, harr₂⟩ := ih (μ x') (hn ▸ hlt) x' a₁ w₁ rfl (hle _ _ hr)
        exact ⟨e₂, a₂, w₂, hq₂, .of_steps (Steps.trans harr (.one step_inLoop)) harr₂⟩
      | exit id => exact ⟨_, a₁, w₁, ⟨s₁, hq, hr⟩, .pass (x := .inLoop c) rfl (fun _ _ => .inl (by simp)) harr⟩
      | goto l => exact ⟨_, a₁, w₁, ⟨s₁, hq, hr⟩, .pass (x := .inLoop c) rfl (fun _ _ => .inl (by simp)) harr⟩
      | ret => exact ⟨_, a₁, w₁, ⟨s₁, hq, hr⟩, .pass (x := .inLoop c) rfl (fun _ _ => .inl (by simp)) harr⟩
      | panic ch => exact ⟨_, a₁, w₁, ⟨s₁, hq, hr⟩, .pass (x := .inLoop c) rfl (fun _ _ => .inl (by simp)) harr⟩
      | outgrown => exact ⟨_, a₁, w₁, ⟨s₁, hq, hr⟩, .pass (x := .inLoop c) rfl (fun _ _ => .inl (by simp)) harr⟩
  obtain ⟨e, a', w', hq, harr⟩ := key _ x0 a w rfl (h0 _ _ r)
  exact ⟨e, a', w', hq, .of_steps (.one step_loop) harr⟩
end
end Go.Proofs.Ytemomjcgkpinfaa
