/-
  Calls in the abstract reading, as operations of a region; states told anew.
-/
import Derived.Test.YtemomjcgkpinfaaA9
namespace Go.Proofs.Ytemomjcgkpinfaa
open Go Go.RowKit
set_option linter.unusedSimpArgs false
set_option linter.unusedVariables false

class FnBody (P : Program) (f : FuncId) : Prop where
  b : (P.funcs[f]?).map (fun fn => (fn.name == "runtime.NumGoroutine", fn.body.isNone)) = some (false, false)
theorem run_callFunc' {P : Program} {f : FuncId} [h : FnBody P f] {args : Array Value} {w : World} : (callFunc f args).run P w = .ok (.enter f args) w := by
  have hb := h.b
  cases hf : P.funcs[f]? with
  | none => rw [hf] at hb; cases hb
  | some fn =>
    rw [hf] at hb
    simp only [Option.map_some, Option.some.injEq, Prod.mk.injEq] at hb
    obtain ⟨h1, h2⟩ := hb
    simp only [callFunc, Sem.run_bind, run_program, Result.andThen_ok, hf, h1, h2, Bool.false_eq_true, if_false]
    rfl
theorem DRel.congr {H H' : Heap} {lent : Loc → Prop} (hH : ∀ l, lent l → H' l = H l) {x : D} {a : AV} (h : DRel H lent x a) : DRel H' lent x a := by
  induction h with
  | d x => exact .d x
  | nil k => exact .nil k
  | own k l off n ob rows hl hm hk hn hr hll h ih => exact .own k l off n ob rows ((hH l hm).trans hl) hm hk hn hr hll ih
theorem AR.congr {H H' : Heap} {lent : Loc → Prop} {τ : Loc → Loc} {L : Loc → Prop} (hH : ∀ l, lent l → H' l = H l) {a a' : AV} (h : AR H lent τ L a a') : AR H' lent τ L a a' := by
  induction h with
  | d h => exact .d (h.congr hH)
  | agg cs cs' hl h ih => exact .agg cs cs' hl ih
  | tup cs cs' hl h ih => exact .tup cs cs' hl ih
  | own k l off n h => exact .own k l off n h
  | ptr k l i j h => exact .ptr k l i j h
  | dptr cs => exact .dptr cs
  | clo fn fs fs' cs cs' hl hl' h h' ih ih' => exact .clo fn fs fs' cs cs' hl hl' ih ih'
  | dead a => exact .dead a
/-- Lists of values, read as a callee reads them. -/
def ARs (H : Heap) (lent : Loc → Prop) (τ : Loc → Loc) (L : Loc → Prop) (cs cs' : List AV) : Prop := cs.length = cs'.length ∧ ∀ (i : Nat) c c', cs[i]? = some c → cs'[i]? = some c' → AR H lent τ L c c'
theorem ARs.nil {H : Heap} {lent : Loc → Prop} {τ : Loc → Loc} {L : Loc → Prop} : ARs H lent τ L [] [] := ⟨rfl, fun _ _ _ h => by simp at h⟩
theorem ARs.cons {H : Heap} {lent : Loc → Prop} {τ : Loc → Loc} {L : Loc → Prop} {c c' : AV} {cs cs' : List AV} (h : AR H lent τ L c c') (h' : ARs H lent τ L cs cs') : ARs H lent τ L (c :: cs) (c' :: cs') := by
  refine ⟨by simp [h'.1], fun i d d' hc hv => ?_⟩
  cases i with
  | zero => simp at hc hv; subst hc; subst hv; exact h
  | succ i => simp at hc hv; exact h'.2 i _ _ hc hv
theorem ARs.agg {H : Heap} {lent : Loc → Prop} {τ : Loc → Loc} {L : Loc → Prop} {cs cs' : List AV} (h : ARs H lent τ L cs cs') : AR H lent τ L (.agg cs) (.agg cs') := .agg cs cs' h.1 h.2
theorem ARs.tup {H : Heap} {lent : Loc → Prop} {τ : Loc → Loc} {L : Loc → Prop} {cs cs' : List AV} (h : ARs H lent τ L cs cs') : AR H lent τ L (.tup cs) (.tup cs') := .tup cs cs' h.1 h.2
theorem AR.clo' {H : Heap} {lent : Loc → Prop} {τ : Loc → Loc} {L : Loc → Prop} {fn : Fn} {fs fs' cs cs' : List AV} (h : ARs H lent τ L fs fs') (h' : ARs H lent τ L cs cs') : AR H lent τ L (.clo fn fs cs) (.clo fn fs' cs') := .clo fn fs fs' cs cs' h.1 h'.1 h.2 h'.2
/-- A value without places. -/
theorem AR.dd {H : Heap} {lent : Loc → Prop} {τ : Loc → Loc} {L : Loc → Prop} (x : D) : AR H lent τ L (.d x) (.d x) := .d (.d x)
/-- A row of plain cells. -/
def dobj (k : Nat) (rows : List (List D)) : AObj := ⟨k, rows.map fun r => r.map .d⟩
theorem rnO_dobj (f : Loc → Loc) (k : Nat) (rows : List (List D)) : rnO f (dobj k rows) = dobj k rows := by
  simp only [rnO, dobj, List.map_map]
  congr 1
  apply List.map_congr_left
  intro r _
  simp only [Function.comp_apply, List.map_map]
  apply List.map_congr_left
  intro c _
  simp [rn]
theorem DRel.dobj {H : Heap} {lent : Loc → Prop} {k : Nat} {l : Loc} {off n : Nat} {rows : List (List D)} (hl : H l = some (Ytemomjcgkpinfaa.dobj k rows)) (hm : lent l) (hn : off + n ≤ rows.length) : DRel H lent (.sl k ((rows.drop off).take n)) (.own k l off n) := by
  refine .own k l off n _ _ hl hm rfl (by simpa [Ytemomjcgkpinfaa.dobj] using hn) (by simp; omega) (fun i r r' hr hr' => ?_) (fun i r r' hr hr' j c c' hc hc' => ?_)
  all_goals
    simp only [Ytemomjcgkpinfaa.dobj, List.getElem?_map, Option.map_eq_some_iff] at hr'
    obtain ⟨r2, hr2, rfl⟩ := hr'
    rw [List.getElem?_take] at hr
    split at hr
    · rw [List.getElem?_drop, hr2] at hr
      cases hr
      first
        | (simp; done)
        | (simp only [List.getElem?_map, hc, Option.map_some, Option.some.injEq] at hc'
           subst hc'; exact .d _)
    · cases hr
/-- All of a row of plain cells is data. -/
theorem AR.whole {H : Heap} {lent : Loc → Prop} {τ : Loc → Loc} {L : Loc → Prop} {k : Nat} {l : Loc} {n : Nat} {rows : List (List D)} (hl : H l = some (dobj k rows)) (hm : lent l) (hn : rows.length = n) : AR H lent τ L (.d (.sl k rows)) (.own k l 0 n) := by
  have := DRel.dobj (off := 0) (n := n) hl hm (by omega)
  rw [List.drop_zero, List.take_of_length_le (by omega)] at this
  exact .d this

section
variable {P : Program} {o : Oper} {A : Operand → AV} {H : Heap} {new : Nat}
theorem run_call {fo : Operand} {xs : Array Operand} {ts : Array TypeId} {f : FuncId} {cap : List Value} [FnBody P f] (ho : o.op = .call { callee := .value fo, args := xs, argTypes := ts }) {ρ : Operand → Value} {w : World} (hf : ρ fo = .func (.func f) #[] cap.toArray) :
    (execOp ρ o).run P w = .ok (.enter f ((xs.toList.map ρ) ++ cap).toArray) w := by
  have hr := run_callFunc' (P := P) (f := f) (w := w) (args := ((xs.toList.map ρ) ++ cap).toArray)
  have : xs.map ρ ++ cap.toArray = ((xs.toList.map ρ) ++ cap).toArray := by apply Array.ext'; simp
  simp only [execOp, ho, resolve, hf, Deferred.ofValue, Sem.run_bind, Sem.run_pure, Result.andThen_ok, invoke, Array.empty_append, this, hr]
/-- A call, in general. -/
theorem OpOk.callGen {fo : Operand} {xs : List Operand} {ts : Array TypeId} {f : FuncId} {caps args : List AV} {Hc Hc' : Heap} {res : AV} {wr : List W} (lent : List Loc) (τ : Loc → Loc) (L : List Loc) (ho : o.op = .call { callee := .value fo, args := xs.toArray, argTypes := ts }) [FnBody P f] (hfo : A fo = .clo (.func f) [] caps) (hc : AC P f args Hc res Hc')
    (hL : ∀ l, Hc l ≠ none ↔ l ∈ L) (hτ : ∀ l ∈ L, ∀ l' ∈ L, τ l = τ l' → l = l') (hd : ∀ l ∈ L, τ l ∉ lent)
    (hobj : ∀ l ob, Hc l = some ob → ∃ ob', H (τ l) = some ob' ∧ ob'.k = ob.k ∧ ob'.rows.length = ob.rows.length ∧ ∀ (i : Nat) r r', ob.rows[i]? = some r → ob'.rows[i]? = some r' → r.length = r'.length ∧ ∀ (j : Nat) c c', r[j]? = some c → r'[j]? = some c' → AR H (· ∈ lent) τ (· ∈ L) c c')
    (hfree : lent = [] ∨ (FreeF res ∧ ∀ l ob, Hc' l = some ob → ∀ r ∈ ob.rows, ∀ c ∈ r, FreeF c))
    (hargs : ARs H (· ∈ lent) τ (· ∈ L) args (xs.map A ++ caps)) (hwr : ∀ H1 : Heap, (∀ k, H1 ⟨new, k⟩ = none) → (∀ l ∈ L, H1 (τ l) = H (τ l)) → upds H1 wr = merge H1 τ L new Hc') : OpOk P o A (lent ++ L.map τ) H new (rn (emb τ L new) res) wr := by
  intro ι F w H1 ρ hH hn hs hv
  have hvf := hv fo (by simp [ho, Op.operands, Call.operands])
  rw [hfo] at hvf
  generalize hq : ρ fo = q at hvf
  cases hvf with
  | clo _ _ _ fv cv h1 h2 h3 h4 =>
    have hfv : fv = [] := List.length_eq_zero_iff.1 h1
    subst hfv
    rw [run_call (P := P) (cap := cv) ho hq]
    have hvs : VRs ι F w (xs.map A ++ caps) (xs.map ρ ++ cv) := by
      refine VRs.append ⟨by simp, fun i c v hc hv' => ?_⟩ ⟨h2, h4⟩
      simp only [List.getElem?_map, Option.map_eq_some_iff] at hc hv'
      obtain ⟨x, hx, rfl⟩ := hc
      obtain ⟨x', hx', rfl⟩ := hv'
      rw [hx] at hx'; cases hx'
      exact hv x (by simp only [ho, Op.operands, Call.operands]; simp; exact .inr (List.mem_of_getElem? hx))
    have hA : ∀ l, l ∈ lent → H1 l = H l := fun l hl => hH l (by simp [hl])
    have := call_core hc hs hn lent τ L hL hτ hd (fun l ob hob => by
      obtain ⟨ob', h5, h6, h7, h8⟩ := hobj l ob hob
      exact ⟨ob', (hH _ (by simp; exact .inr ⟨l, (hL l).1 (by rw [hob]; simp), rfl⟩)).trans h5, h6, h7, fun i r r' hr hr' => ⟨(h8 i r r' hr hr').1, fun j c c' hc hc' => ((h8 i r r' hr hr').2 j c c' hc hc').congr hA⟩⟩) hfree (as := xs.map A ++ caps) (vs := xs.map ρ ++ cv) ⟨hargs.1, fun i c c' hc hc' => (hargs.2 i c c' hc hc').congr hA⟩ hvs
    rw [← hwr H1 (fun k => hs.isNone (hn k)) (fun l hl => hH _ (by simp; exact .inr ⟨l, hl, rfl⟩))] at this
    simpa [Upon] using this
theorem merge_nil {H : Heap} {τ : Loc → Loc} {new : Nat} {Hc' : Heap} : merge H τ [] new Hc' = fun l => if l.id = new then (match l.sub with | i :: s => (Hc' ⟨i, s⟩).map (rnO (emb τ [] new)) | [] => none) else H l := by
  rfl
/-- A function that hands back what is known, and leaves nothing behind. -/
theorem OpOk.call0 {fo : Operand} {xs : List Operand} {ts : Array TypeId} {f : FuncId} {caps args : List AV} {res : AV} (lent : List Loc) (ho : o.op = .call { callee := .value fo, args := xs.toArray, argTypes := ts }) [FnBody P f] (hfo : A fo = .clo (.func f) [] caps) (hc : AC P f args H0 res H0)
    (hfree : lent = [] ∨ FreeF res) (hrn : ∀ g, rn g res = res) (hargs : ARs H (· ∈ lent) id (fun _ => False) args (xs.map A ++ caps)) : OpOk P o A lent H new res [] := by
  have h := OpOk.callGen (P := P) (o := o) (A := A) (H := H) (new := new) (wr := []) lent id [] ho hfo hc (fun l => by simp) (fun l hl => by simp at hl) (fun l hl => by simp at hl) (fun l ob hob => by cases hob)
    (hfree.imp id fun h => ⟨h, fun l ob hob => by cases hob⟩) (by simpa using hargs) (fun H1 h1 _ => by
      rw [merge_nil]
      funext l
      simp only [upds]
      by_cases e : l.id = new
      · obtain ⟨id, sub⟩ := l
        simp only at e; subst e
        rw [h1 sub]
        cases sub <;> simp
      · simp [e])
  simpa [hrn] using h
/-- A function that hands back a new row of its own. -/
theorem OpOk.call1 {fo : Operand} {xs : List Operand} {ts : Array TypeId} {f : FuncId} {caps args : List AV} {res : AV} {ob : AObj} (lent : List Loc) (ho : o.op = .call { callee := .value fo, args := xs.toArray, argTypes := ts }) [FnBody P f] (hfo : A fo = .clo (.func f) [] caps) (hc : AC P f args H0 res (upd H0 ⟨0, []⟩ (some ob)))
    (hfree : lent = [] ∨ (FreeF res ∧ ∀ r ∈ ob.rows, ∀ c ∈ r, FreeF c)) (hrn : ∀ g, rnO g ob = ob) (hargs : ARs H (· ∈ lent) id (fun _ => False) args (xs.map A ++ caps)) : OpOk P o A lent H new (rn (fun l => ⟨new, l.id :: l.sub⟩) res) [.one ⟨new, [0]⟩ (some ob)] := by
  have h := OpOk.callGen (P := P) (o := o) (A := A) (H := H) (new := new) (wr := [.one ⟨new, [0]⟩ (some ob)]) lent id [] ho hfo hc (fun l => by simp) (fun l hl => by simp at hl) (fun l hl => by simp at hl) (fun l ob hob => by cases hob)
    (hfree.imp id fun h => ⟨h.1, fun l ob' hob => by
      by_cases e : l = ⟨0, []⟩
      · subst e; rw [upd_same] at hob; cases hob; exact h.2
      · rw [upd_ne e] at hob; cases hob⟩) (by simpa using hargs) (fun H1 h1 _ => by
      rw [merge_nil]
      funext l
      obtain ⟨id, sub⟩ := l
      simp only [upds, W.app, upd]
      by_cases e : id = new
      · subst e
        cases sub with
        | nil => simp [h1]
        | cons i s =>
          by_cases e2 : i = 0 ∧ s = []
          · obtain ⟨rfl, rfl⟩ := e2; simp [hrn]
          · have e3 : ¬ (i :: s = [0]) := by simpa using e2
            have e4 : ¬ ((⟨i, s⟩ : Loc) = ⟨0, []⟩) := by simpa using e2
            simp [e3, e4, h1]
      · simp [e])
  have e : emb id [] new = fun l => ⟨new, l.id :: l.sub⟩ := by funext l; simp [emb]
  rw [e] at h
  simpa using h
end

/-! ### A result frozen -/
theorem AC.freeze {P : Program} {f : FuncId} {args : List AV} {H : Heap} {res res' : AV} {H' : Heap} (h : AC P f args H0 res H') (lent : Loc → Prop) (hr : AR H' lent id (fun _ => False) res' res) : AC P f args H0 res' H0 := by
  intro ι F w vs hs hdom hv
  refine (h ι F w vs hs hdom hv).mono ?_
  rintro e w' ⟨v, ι', F', rfl, hres, hs', hstep, hsub, hsup, hown, hkeep⟩
  refine ⟨v, fun _ => none, fun b => F' b ∨ ∃ l, lent l ∧ Owned ι' H' l b, rfl, hr.vr hs' (fun l hl => hl.elim) hres, ⟨fun l o h => (by cases h), fun l l' b s s' h => absurd rfl h, fun l b s h => absurd rfl h, fun b hb => ?_⟩, hstep, fun b hb => .inl (hsub b hb), fun b hb => ?_, fun b ⟨l, h, _⟩ => absurd rfl h, fun l x h => absurd rfl h⟩
  · rcases hb with hb | ⟨l, _, h1, s, e⟩
    · exact hs'.lt b hb
    · exact hs'.blt h1 e
  · rcases hb with hb | ⟨l, _, h1, s, e⟩
    · exact hsup b hb
    · exact .inr (hown b ⟨l, h1, s, e⟩)

/-! ### A state told anew -/
theorem Le.tell {C : Ctx} {s s' : AS} (lent : Loc → Prop) (τ : Loc → Loc) (hfr : ARs s.H lent τ (fun l => s'.H l ≠ none) s'.fr s.fr)
    (hobj : ∀ l ob, s'.H l = some ob → ∃ ob', s.H (τ l) = some ob' ∧ ob'.k = ob.k ∧ ob'.rows.length = ob.rows.length ∧ ∀ (i : Nat) r r', ob.rows[i]? = some r → ob'.rows[i]? = some r' → r.length = r'.length ∧ ∀ (j : Nat) c c', r[j]? = some c → r'[j]? = some c' → AR s.H lent τ (fun l => s'.H l ≠ none) c c')
    (hτ : ∀ l l', s'.H l ≠ none → s'.H l' ≠ none → τ l = τ l' → l = l') (hd : ∀ l, s'.H l ≠ none → ¬ lent (τ l)) (hn : ∀ l, s'.H l ≠ none → l.id < s'.next) (hD : ∀ l, C.D0 l → l.id < s'.next ∧ τ l = l) : Le C s s' := by
  rintro a w ⟨ι, F, hs, hv, hdf, hi, hu⟩
  let S : Loc → Prop := fun l => s'.H l ≠ none ∨ C.D0 l
  have hS : ∀ l, S l → l.id < s'.next := fun l h => h.elim (hn l) fun h => (hD l h).1
  let ι' : Iota := fun l => @ite _ (S l) (Classical.propDecidable _) (ι (τ l)) none
  have hι : ∀ l, S l → ι' l = ι (τ l) := fun l h => by simp only [ι']; exact if_pos h
  have hι0 : ∀ l, ¬ S l → ι' l = none := fun l h => by simp only [ι']; exact if_neg h
  have hHτ : ∀ l, s'.H l ≠ none → s.H (τ l) ≠ none := fun l hl => by
    cases h1 : s'.H l with
    | none => exact absurd h1 hl
    | some ob => obtain ⟨ob', h2, _⟩ := hobj l ob h1; rw [h2]; simp
  refine ⟨ι', fun b => F b ∨ ∃ l, lent l ∧ Owned ι s.H l b, ⟨fun l ob hob => ?_, fun l l' b sz sz' h1 h2 e1 e2 => ?_, fun l b sz h1 e1 hF => ?_, fun b hb => ?_⟩, ⟨by rw [hv.1, hfr.1], fun i c v hc hv' => ?_⟩, hdf, ⟨hi.step, fun b hb => .inl (hi.sub b hb), fun b hb => ?_, fun l b ho => ?_, fun l x hl e => ?_⟩, fun id hid k => ?_⟩
  · have hl : s'.H l ≠ none := by rw [hob]; simp
    obtain ⟨ob', h1, hk, hrl, hrows⟩ := hobj l ob hob
    rcases hs.obj _ ob' h1 with ⟨e, h2⟩ | ⟨b, cs, T, e, hb, hlen, h2⟩
    · exact .inl ⟨by rw [hι l (.inl hl)]; exact e, List.length_eq_zero_iff.1 (by rw [← hrl, h2]; rfl)⟩
    · refine .inr ⟨b, cs, T, by rw [hι l (.inl hl)]; exact e, hb, by rw [← hrl, ← hk]; exact hlen, fun i r hr => ?_⟩
      have hil := (List.getElem?_eq_some_iff.1 hr).1
      have hr' := List.getElem?_eq_getElem (l := ob'.rows) (i := i) (by omega)
      obtain ⟨h3, h4⟩ := h2 i _ hr'
      obtain ⟨h5, h6⟩ := hrows i r _ hr hr'
      refine ⟨by rw [h5, h3, hk], fun j c hc => ?_⟩
      have hj := (List.getElem?_eq_some_iff.1 hc).1
      have hc' := List.getElem?_eq_getElem (l := ob'.rows[i]) (i := j) (by omega)
      obtain ⟨v, h7, h8⟩ := h4 j _ hc'
      rw [hk] at h7
      exact ⟨v, h7, (h6 j c _ hc hc').vr hs (fun l hl => hι l (.inl hl)) h8⟩
  · rw [hι l (.inl h1)] at e1; rw [hι l' (.inl h2)] at e2
    exact hτ l l' h1 h2 (hs.inj _ _ b sz sz' (hHτ l h1) (hHτ l' h2) e1 e2)
  · rw [hι l (.inl h1)] at e1
    rcases hF with hF | ⟨l2, hm, h2, s2, e2⟩
    · exact hs.notF _ b sz (hHτ l h1) e1 hF
    · exact hd l h1 (by rw [hs.inj _ _ b sz s2 (hHτ l h1) h2 e1 e2]; exact hm)
  · rcases hb with hb | ⟨l2, _, h2, s2, e2⟩
    · exact hs.lt b hb
    · exact hs.blt h2 e2
  · have hil := (List.getElem?_eq_some_iff.1 hc).1
    have hc' := List.getElem?_eq_getElem (l := s.fr) (i := i) (by have := hfr.1; omega)
    exact (hfr.2 i c _ hc hc').vr hs (fun l hl => hι l (.inl hl)) (hv.2 i _ v hc' hv')
  · rcases hb with hb | ⟨l2, _, ho⟩
    · exact hi.sup b hb
    · exact .inr (hi.own l2 b ho)
  · obtain ⟨h1, sz, e1⟩ := ho
    rw [hι l (.inl h1)] at e1
    exact hi.own (τ l) b ⟨hHτ l h1, sz, e1⟩
  · rw [hι l (.inr hl), (hD l hl).2]
    exact hi.keep l x hl e
  · refine hι0 _ fun h => ?_
    have := hS _ h
    have hid' : s'.next ≤ id := hid
    simp only at this
    omega
/-- A nil slice as an owned, empty one. -/
theorem Le.nil {C : Ctx} {s : AS} (t k : Nat) (ht : s.fr[t]? = some (.d (.v (.slice none 0 0)))) : Le C s ⟨s.fr.set t (.own k ⟨s.next, []⟩ 0 0), upd s.H ⟨s.next, []⟩ (some ⟨k, []⟩), s.next + 1⟩ := by
  rintro a w ⟨ι, F, hs, hv, hdf, hi, hu⟩
  have hn : ∀ k, ι ⟨s.next, k⟩ = none := fun k => hu s.next (Nat.le_refl _) k
  have hp := Post.allocNil hs hn k []
  refine ⟨updι ι ⟨s.next, []⟩ none, F, hp.sim, ?_, hdf, ⟨hi.step, hi.sub, hi.sup, fun l b ⟨h1, sz, e1⟩ => ?_, fun l x hl e => hp.ext _ _ (hi.keep l x hl e)⟩, fun id hid k => ?_⟩
  · have hv' := hv.mono hp.ext hp.sub (fun b hb => rfl)
    refine ⟨by simpa using hv'.1, fun i c v hc hvv => ?_⟩
    rw [List.getElem?_set] at hc
    split at hc
    · rename_i he
      subst he
      split at hc
      · cases hc
        have := (hv.2 t _ v ht hvv).v_inv
        subst this
        exact .ownNil k _ (by simp [updι])
      · cases hc
    · exact hv'.2 i c v hc hvv
  · by_cases hl : l = ⟨s.next, []⟩
    · subst hl; simp [updι] at e1
    · simp only [updι, hl, if_false] at e1
      have h1' : upd s.H ⟨s.next, []⟩ (some ⟨k, []⟩) l ≠ none := h1
      rw [upd_ne hl] at h1'
      exact hi.own l b ⟨h1', sz, e1⟩
  · have hid' : s.next + 1 ≤ id := hid
    have : (⟨id, k⟩ : Loc) ≠ ⟨s.next, []⟩ := fun e => by cases e; omega
    simp only [updι, this, if_false]
    exact hu id (by show s.next ≤ id; omega) k
end Go.Proofs.Ytemomjcgkpinfaa
