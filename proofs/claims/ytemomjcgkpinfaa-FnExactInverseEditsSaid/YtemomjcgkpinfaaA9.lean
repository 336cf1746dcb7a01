/-
  Calls in the abstract reading: a contract is used.
-/
import Derived.Test.YtemomjcgkpinfaaA8
namespace Go.Proofs.Ytemomjcgkpinfaa
open Go Go.RowKit
set_option linter.unusedSimpArgs false
set_option linter.unusedVariables false

/-! ### Places called anew -/
def rn (f : Loc → Loc) : AV → AV
  | .d x => .d x
  | .agg cs => .agg (cs.map (rn f))
  | .tup cs => .tup (cs.map (rn f))
  | .own k l off n => .own k (f l) off n
  | .ownc k l off n c => .ownc k (f l) off n c
  | .ptr k l i j => .ptr k (f l) i j
  | .dptr cs => .dptr cs
  | .clo fn fs cs => .clo fn (fs.map (rn f)) (cs.map (rn f))
  | .dead => .dead
def rnO (f : Loc → Loc) (o : AObj) : AObj := ⟨o.k, o.rows.map fun r => r.map (rn f)⟩
theorem VR.ren {ι ι' : Iota} {F : Nat → Prop} {w : World} {f : Loc → Loc} (hf : ∀ l, ι' (f l) = ι l) {a : AV} {v : Value} (h : VR ι F w a v) : VR ι' F w (rn f a) v := by
  induction h with
  | d h => rw [rn]; exact .d h
  | agg cs vs hl h ih =>
    rw [rn]
    refine .agg _ vs (by simpa using hl) fun i c v hc hv => ?_
    simp only [List.getElem?_map, Option.map_eq_some_iff] at hc
    obtain ⟨c', hc', rfl⟩ := hc
    exact ih i c' v hc' hv
  | tup cs vs hl h ih =>
    rw [rn]
    refine .tup _ vs (by simpa using hl) fun i c v hc hv => ?_
    simp only [List.getElem?_map, Option.map_eq_some_iff] at hc
    obtain ⟨c', hc', rfl⟩ := hc
    exact ih i c' v hc' hv
  | own k l off n b sz cap h hn hs => rw [rn]; exact .own k (f l) off n b sz cap (by rw [hf]; exact h) hn hs
  | ownNil k l h => rw [rn]; exact .ownNil k (f l) (by rw [hf]; exact h)
  | ownc k l off n cap b sz h hn hs => rw [rn]; exact .ownc k (f l) off n cap b sz (by rw [hf]; exact h) hn hs
  | owncNil k l h => rw [rn]; exact .owncNil k (f l) (by rw [hf]; exact h)
  | ptr k l i j b sz h => rw [rn]; exact .ptr k (f l) i j b sz (by rw [hf]; exact h)
  | dptr cs b off g hF h hd => rw [rn]; exact .dptr cs b off g hF h hd
  | clo fn fs cs fv cv hl hc h h' ih ih' =>
    rw [rn]
    refine .clo fn _ _ fv cv (by simpa using hl) (by simpa using hc) (fun i c v hc hv => ?_) (fun i c v hc hv => ?_)
    · simp only [List.getElem?_map, Option.map_eq_some_iff] at hc
      obtain ⟨c', hc', rfl⟩ := hc
      exact ih i c' v hc' hv
    · simp only [List.getElem?_map, Option.map_eq_some_iff] at hc
      obtain ⟨c', hc', rfl⟩ := hc
      exact ih' i c' v hc' hv
  | dead v => rw [rn]; exact .dead v

/-- The value a' of the caller, read as the callee reads it, a: places of D bear other names; what the places of lent hold is data. -/
inductive DRel (H : Heap) (lent : Loc → Prop) : D → AV → Prop
  | d (x : D) : DRel H lent x (.d x)
  | nil (k : Nat) : DRel H lent (.sl k []) (.d (.v (.slice none 0 0)))
  | own (k : Nat) (l : Loc) (off n : Nat) (ob : AObj) (rows : List (List D)) (hl : H l = some ob) (hm : lent l) (hk : ob.k = k) (hn : off + n ≤ ob.rows.length) (hr : rows.length = n)
      (hll : ∀ (i : Nat) r r', rows[i]? = some r → ob.rows[off + i]? = some r' → r.length = r'.length)
      (h : ∀ (i : Nat) r r', rows[i]? = some r → ob.rows[off + i]? = some r' → ∀ (j : Nat) c c', r[j]? = some c → r'[j]? = some c' → DRel H lent c c') : DRel H lent (.sl k rows) (.own k l off n)
inductive AR (H : Heap) (lent : Loc → Prop) (τ : Loc → Loc) (L : Loc → Prop) : AV → AV → Prop
  | d {x : D} {a : AV} (h : DRel H lent x a) : AR H lent τ L (.d x) a
  | agg (cs cs' : List AV) (hl : cs.length = cs'.length) (h : ∀ (i : Nat) c c', cs[i]? = some c → cs'[i]? = some c' → AR H lent τ L c c') : AR H lent τ L (.agg cs) (.agg cs')
  | tup (cs cs' : List AV) (hl : cs.length = cs'.length) (h : ∀ (i : Nat) c c', cs[i]? = some c → cs'[i]? = some c' → AR H lent τ L c c') : AR H lent τ L (.tup cs) (.tup cs')
  | own (k : Nat) (l : Loc) (off n : Nat) (h : L l) : AR H lent τ L (.own k l off n) (.own k (τ l) off n)
  | ptr (k : Nat) (l : Loc) (i j : Nat) (h : L l) : AR H lent τ L (.ptr k l i j) (.ptr k (τ l) i j)
  | dptr (cs : List D) : AR H lent τ L (.dptr cs) (.dptr cs)
  | clo (fn : Fn) (fs fs' cs cs' : List AV) (hl : fs.length = fs'.length) (hl' : cs.length = cs'.length) (h : ∀ (i : Nat) c c', fs[i]? = some c → fs'[i]? = some c' → AR H lent τ L c c') (h' : ∀ (i : Nat) c c', cs[i]? = some c → cs'[i]? = some c' → AR H lent τ L c c') : AR H lent τ L (.clo fn fs cs) (.clo fn fs' cs')
  | dead (a : AV) : AR H lent τ L .dead a
section
variable {ι : Iota} {F : Nat → Prop} {H : Heap} {w : World} {lent : Loc → Prop}
/-- What lies in a lent place reads as data. -/
theorem DRel.dr (hs : Sim ι F H w) {x : D} {a : AV} (h : DRel H lent x a) : ∀ {v : Value}, VR ι F w a v → DR (fun b => F b ∨ ∃ l, lent l ∧ Owned ι H l b) w x v := by
  induction h with
  | d x =>
    intro v hv
    cases hv with
    | d h => exact h.mono (fun _ h => .inl h) (fun _ _ => rfl)
  | nil k => intro v hv; have := hv.v_inv; subst this; exact .sl k [] none 0 (fun _ _ => undef) (Nat.le_refl _) (fun i r j c h => by simp at h) (fun i r j c h => by simp at h)
  | own k l off n ob rows hl hm hk hn hr hll h ih =>
    intro v hv
    subst hk
    rcases hv.own_inv with ⟨b, sz, cap, e, hcap, hfit, rfl⟩ | ⟨e, rfl, rfl, rfl⟩
    · rcases hs.obj l ob hl with ⟨e', _⟩ | ⟨b', cs, T, e', hb, hlen, hrows⟩
      · rw [e] at e'; cases e'
      · rw [e] at e'; simp only [Option.some.injEq, Prod.mk.injEq] at e'
        obtain ⟨rfl, rfl⟩ := e'
        subst hr
        have key : ∀ (i : Nat) r (j : Nat) c, rows[i]? = some r → r[j]? = some c → ∃ c' v, cs[(off + i) * ob.k + j]? = some v ∧ VR ι F w c' v ∧ (∀ {v : Value}, VR ι F w c' v → DR (fun b => F b ∨ ∃ l, lent l ∧ Owned ι H l b) w c v) := by
          intro i r j c hr hc
          have hi := (List.getElem?_eq_some_iff.1 hr).1
          have hr' := List.getElem?_eq_getElem (l := ob.rows) (i := off + i) (by omega)
          have hll := hll i r _ hr hr'
          have hj := (List.getElem?_eq_some_iff.1 hc).1
          have hc' := List.getElem?_eq_getElem (l := ob.rows[off + i]) (i := j) (by omega)
          obtain ⟨v, h1, h2⟩ := (hrows (off + i) _ hr').2 j _ hc'
          exact ⟨_, v, h1, h2, fun hv => ih i r _ hr hr' j c _ hc hc' hv⟩
        refine .sl ob.k rows (some ⟨b, off * ob.k, none⟩) cap (fun i j => (cs[(off + i) * ob.k + j]?).getD undef) hcap (fun i r j c hr hc => ?_) (fun i r j c hr hc => ?_)
        · obtain ⟨c', v, h1, h2, h3⟩ := key i r j c hr hc
          refine ⟨b, off * ob.k, rfl, .inr ⟨l, hm, by rw [hl]; simp, _, e⟩, ?_⟩
          rw [h1, ← Nat.add_mul]
          exact cell_of_cells hb h1
        · obtain ⟨c', v, h1, h2, h3⟩ := key i r j c hr hc
          simp only [h1, Option.getD_some]
          exact h3 h2
    · have : rows = [] := List.length_eq_zero_iff.1 hr
      subst this
      exact .sl ob.k [] none 0 (fun _ _ => undef) (Nat.le_refl _) (fun i r j c h => by simp at h) (fun i r j c h => by simp at h)
theorem AR.vr (hs : Sim ι F H w) {τ : Loc → Loc} {L : Loc → Prop} {ιc : Iota} (hι : ∀ l, L l → ιc l = ι (τ l)) {a a' : AV} (h : AR H lent τ L a a') : ∀ {v : Value}, VR ι F w a' v → VR ιc (fun b => F b ∨ ∃ l, lent l ∧ Owned ι H l b) w a v := by
  induction h with
  | d h => intro v hv; exact .d (h.dr hs hv)
  | agg cs cs' hl h ih =>
    intro v hv
    obtain ⟨vs, rfl, hvs⟩ := hv.agg_inv
    refine .agg cs vs (by rw [hvs.1, hl]) fun i c v hc hv => ?_
    have hi := (List.getElem?_eq_some_iff.1 hc).1
    have hc' := List.getElem?_eq_getElem (l := cs') (i := i) (by omega)
    exact ih i c _ hc hc' (hvs.2 i _ v hc' hv)
  | tup cs cs' hl h ih =>
    intro v hv
    obtain ⟨vs, rfl, hvs⟩ := hv.tup_inv
    refine .tup cs vs (by rw [hvs.1, hl]) fun i c v hc hv => ?_
    have hi := (List.getElem?_eq_some_iff.1 hc).1
    have hc' := List.getElem?_eq_getElem (l := cs') (i := i) (by omega)
    exact ih i c _ hc hc' (hvs.2 i _ v hc' hv)
  | own k l off n h =>
    intro v hv
    rcases hv.own_inv with ⟨b, sz, cap, e, hcap, hfit, rfl⟩ | ⟨e, rfl, rfl, rfl⟩
    · exact .own k l off n b sz cap (by rw [hι l h]; exact e) hcap hfit
    · exact .ownNil k l (by rw [hι l h]; exact e)
  | ptr k l i j h =>
    intro v hv
    obtain ⟨b, sz, e, rfl⟩ := hv.ptr_inv
    exact .ptr k l i j b sz (by rw [hι l h]; exact e)
  | dptr cs =>
    intro v hv
    cases hv with
    | dptr _ b off g hF h hd => exact .dptr cs b off g (.inl hF) h (fun j c hc => (hd j c hc).mono (fun _ h => .inl h) (fun _ _ => rfl))
  | clo fn fs fs' cs cs' hl hl' h h' ih ih' =>
    intro v hv
    generalize hx : AV.clo fn fs' cs' = x at hv
    cases hv with
    | clo fn' fs2 cs2 fv cv h1 h2 h3 h4 =>
      cases hx
      refine .clo fn fs cs fv cv (by omega) (by omega) (fun i c v hc hv => ?_) (fun i c v hc hv => ?_)
      · have hi := (List.getElem?_eq_some_iff.1 hc).1
        have hc' := List.getElem?_eq_getElem (l := fs') (i := i) (by omega)
        exact ih i c _ hc hc' (h3 i _ v hc' hv)
      · have hi := (List.getElem?_eq_some_iff.1 hc).1
        have hc' := List.getElem?_eq_getElem (l := cs') (i := i) (by omega)
        exact ih' i c _ hc hc' (h4 i _ v hc' hv)
    | _ => cases hx
  | dead a => intro v _; exact .dead v
end
/-- A value that holds no data of others. -/
def FreeF (a : AV) : Prop := ∀ (ι : Iota) (F F' : Nat → Prop) (w : World) (v : Value), VR ι F w a v → VR ι F' w a v
theorem FreeF.v (x : Value) : FreeF (.d (.v x)) := fun _ _ _ _ v h => by have := h.v_inv; subst this; exact .d (.v _)
theorem FreeF.own (k : Nat) (l : Loc) (off n : Nat) : FreeF (.own k l off n) := fun _ _ _ _ v h => by
  rcases h.own_inv with ⟨b, sz, cap, e, hcap, hfit, rfl⟩ | ⟨e, rfl, rfl, rfl⟩
  · exact .own k l off n b sz cap e hcap hfit
  · exact .ownNil k l e
theorem FreeF.agg {cs : List AV} (h : ∀ c ∈ cs, FreeF c) : FreeF (.agg cs) := fun ι F F' w v hv => by
  obtain ⟨vs, rfl, hvs⟩ := hv.agg_inv
  exact .agg cs vs hvs.1 fun i c v hc hv => h c (List.mem_of_getElem? hc) ι F F' w v (hvs.2 i c v hc hv)
theorem FreeF.tup {cs : List AV} (h : ∀ c ∈ cs, FreeF c) : FreeF (.tup cs) := fun ι F F' w v hv => by
  obtain ⟨vs, rfl, hvs⟩ := hv.tup_inv
  exact .tup cs vs hvs.1 fun i c v hc hv => h c (List.mem_of_getElem? hc) ι F F' w v (hvs.2 i c v hc hv)

/-! ### A call -/
/-- The callee's places as the caller calls them: those of L by τ, new ones under the number new. -/
def emb (τ : Loc → Loc) (L : List Loc) (new : Nat) (l : Loc) : Loc := if l ∈ L then τ l else ⟨new, l.id :: l.sub⟩
def merge (H : Heap) (τ : Loc → Loc) (L : List Loc) (new : Nat) (H' : Heap) : Heap := fun l =>
  match L.find? (fun lc => τ lc == l) with
  | some lc => (H' lc).map (rnO (emb τ L new))
  | none => if l.id = new then (match l.sub with | i :: s => if ⟨i, s⟩ ∈ L then none else (H' ⟨i, s⟩).map (rnO (emb τ L new)) | [] => none) else H l
/-- What is known of a call whose contract is known. -/
theorem call_core {P : Program} {f : FuncId} {args : List AV} {Hc : Heap} {res : AV} {Hc' : Heap} (hc : AC P f args Hc res Hc') {ι : Iota} {F : Nat → Prop} {H : Heap} {w : World} (hs : Sim ι F H w) {new : Nat} (hnew : ∀ k, ι ⟨new, k⟩ = none)
    (lent : List Loc) (τ : Loc → Loc) (L : List Loc) (hL : ∀ l, Hc l ≠ none ↔ l ∈ L) (hτ : ∀ l ∈ L, ∀ l' ∈ L, τ l = τ l' → l = l') (hd : ∀ l ∈ L, τ l ∉ lent)
    (hobj : ∀ l ob, Hc l = some ob → ∃ ob', H (τ l) = some ob' ∧ ob'.k = ob.k ∧ ob'.rows.length = ob.rows.length ∧ ∀ (i : Nat) r r', ob.rows[i]? = some r → ob'.rows[i]? = some r' → r.length = r'.length ∧ ∀ (j : Nat) c c', r[j]? = some c → r'[j]? = some c' → AR H (· ∈ lent) τ (· ∈ L) c c')
    (hfree : lent = [] ∨ (FreeF res ∧ ∀ l ob, Hc' l = some ob → ∀ r ∈ ob.rows, ∀ c ∈ r, FreeF c))
    {as : List AV} {vs : List Value} (hargs : args.length = as.length ∧ ∀ (i : Nat) c c', args[i]? = some c → as[i]? = some c' → AR H (· ∈ lent) τ (· ∈ L) c c') (hvs : VRs ι F w as vs) :
    Calls P f vs.toArray w fun e w' => ∃ v, e = .returned v ∧ ∃ ι' F', VR ι' F' w' (rn (emb τ L new) res) v ∧ Post ι F H w (lent ++ L.map τ) new ι' F' (merge H τ L new Hc') w' := by
  let ιc : Iota := fun l => if l ∈ L then ι (τ l) else none
  let Fc : Nat → Prop := fun b => F b ∨ ∃ l ∈ lent, Owned ι H l b
  have hιc : ∀ l, l ∈ L → ιc l = ι (τ l) := fun l hl => by simp [ιc, hl]
  have hHτ : ∀ l, l ∈ L → H (τ l) ≠ none := fun l hl => by
    cases h1 : Hc l with
    | none => exact absurd h1 ((hL l).2 hl)
    | some ob => obtain ⟨ob', h2, _⟩ := hobj l ob h1; rw [h2]; simp
  have hsc : Sim ιc Fc Hc w := by
    refine ⟨fun l ob hob => ?_, fun l l' b s s' h1 h2 e1 e2 => ?_, fun l b s h1 e1 hF => ?_, fun b hb => ?_⟩
    · have hl := (hL l).1 (by rw [hob]; simp)
      obtain ⟨ob', h1, hk, hrl, hrows⟩ := hobj l ob hob
      rcases hs.obj _ ob' h1 with ⟨e, h2⟩ | ⟨b, cs, T, e, hb, hlen, h2⟩
      · left
        refine ⟨by rw [hιc l hl]; exact e, List.length_eq_zero_iff.1 (by rw [← hrl, h2]; rfl)⟩
      · right
        refine ⟨b, cs, T, by rw [hιc l hl]; exact e, hb, by rw [← hrl, ← hk]; exact hlen, fun i r hr => ?_⟩
        have hi := (List.getElem?_eq_some_iff.1 hr).1
        have hr' := List.getElem?_eq_getElem (l := ob'.rows) (i := i) (by omega)
        obtain ⟨h3, h4⟩ := h2 i _ hr'
        obtain ⟨h5, h6⟩ := hrows i r _ hr hr'
        refine ⟨by rw [h5, h3, hk], fun j c hc => ?_⟩
        have hj := (List.getElem?_eq_some_iff.1 hc).1
        have hc' := List.getElem?_eq_getElem (l := ob'.rows[i]) (i := j) (by omega)
        obtain ⟨v, h7, h8⟩ := h4 j _ hc'
        rw [hk] at h7
        exact ⟨v, h7, (h6 j c _ hc hc').vr hs hιc h8⟩
    · have hl := (hL l).1 h1; have hl' := (hL l').1 h2
      rw [hιc l hl] at e1; rw [hιc l' hl'] at e2
      exact hτ l hl l' hl' (hs.inj _ _ b s s' (hHτ l hl) (hHτ l' hl') e1 e2)
    · have hl := (hL l).1 h1
      rw [hιc l hl] at e1
      rcases hF with hF | ⟨l2, hm, h2, s2, e2⟩
      · exact hs.notF _ b s (hHτ l hl) e1 hF
      · exact hd l hl (by rw [hs.inj _ _ b s s2 (hHτ l hl) h2 e1 e2]; exact hm)
    · rcases hb with hb | ⟨l2, _, h2, s2, e2⟩
      · exact hs.lt b hb
      · exact hs.blt h2 e2
  have hdom : ∀ l, Hc l = none → ιc l = none := fun l hl => by
    have : l ∉ L := fun h => (hL l).2 h hl
    simp [ιc, this]
  have hvc : VRs ιc Fc w args vs := ⟨by rw [hvs.1, hargs.1], fun i c v hc hv => by
    have hi := (List.getElem?_eq_some_iff.1 hc).1
    have hc' := List.getElem?_eq_getElem (l := as) (i := i) (by have := hargs.1; omega)
    exact (hargs.2 i c _ hc hc').vr hs hιc (hvs.2 i _ v hc' hv)⟩
  refine (hc ιc Fc w vs hsc hdom hvc).mono ?_
  rintro e w' ⟨v, ι'c, F'c, rfl, hres, hs', hstep, hsub, hsup, hown, hkeep⟩
  let ι' : Iota := fun l => if l.id = new then (match l.sub with | i :: s => if ⟨i, s⟩ ∈ L then none else ι'c ⟨i, s⟩ | [] => none) else ι l
  let F' : Nat → Prop := fun b => F'c b ∧ ¬ ∃ l ∈ lent, Owned ι H l b
  have hid : ∀ l, ι l ≠ none → l.id ≠ new := fun l hl e => hl (by
    have := hnew l.sub
    rw [← e] at this; exact this)
  have hτid : ∀ l, l ∈ L → (τ l).id ≠ new := fun l hl => hid _ (hs.isSome (hHτ l hl))
  have hι'old : ∀ l, l.id ≠ new → ι' l = ι l := fun l hl => by simp [ι', hl]
  have hι'emb : ∀ l, (l ∈ L → ι'c l = ιc l) → ι' (emb τ L new l) = ι'c l := fun l hk => by
    unfold emb
    by_cases hl : l ∈ L
    · rw [if_pos hl, hι'old _ (hτid l hl), ← hιc l hl, hk hl]
    · rw [if_neg hl]; simp [ι', hl]
  have hkeepL : ∀ l, l ∈ L → ι'c l = ιc l := fun l hl => by
    cases h1 : ιc l with
    | none => exact absurd h1 (hsc.isSome ((hL l).2 hl))
    | some x => exact hkeep l x ((hL l).2 hl) h1
  have hemb : ∀ l, ι' (emb τ L new l) = ι'c l := fun l => hι'emb l (hkeepL l)
  have hext : Ext ι ι' := fun l x hl => by
    rw [hι'old l (hid l (by rw [hl]; simp))]; exact hl
  have hFsub : ∀ b, F b → F' b := fun b hb => ⟨hsub b (.inl hb), fun ⟨l, _, h, s, e⟩ => hs.notF l b s h e hb⟩
  -- an owned place of the caller that the callee does not see keeps its block
  have hblock : ∀ l b s, H l ≠ none → ι l = some (some (b, s)) → (∀ lc ∈ L, τ lc ≠ l) → w'.heap[b]? = w.heap[b]? := fun l b s h1 e1 hn =>
    hstep.block b (hs.blt h1 e1) fun ⟨lc, h2, s2, e2⟩ => by
      have hlc := (hL lc).1 h2
      rw [hιc lc hlc] at e2
      exact hn lc hlc (hs.inj _ _ b s2 s (hHτ lc hlc) h1 e2 e1)
  have hFblock : ∀ b, F b → w'.heap[b]? = w.heap[b]? := fun b hb =>
    hstep.block b (hs.lt b hb) fun ⟨lc, h2, s2, e2⟩ => by
      have hlc := (hL lc).1 h2
      rw [hιc lc hlc] at e2
      exact hs.notF _ b s2 (hHτ lc hlc) e2 hb
  have toF' : ∀ {a : AV} {v : Value}, (lent = [] ∨ FreeF a) → VR ι'c F'c w' a v → VR ι' F' w' (rn (emb τ L new) a) v := by
    intro a v hfa hv
    refine VR.ren hemb ?_
    rcases hfa with rfl | hfa
    · exact hv.mono (ext_rfl _) (fun b hb => ⟨hb, fun ⟨l, hl, _⟩ => by cases hl⟩) (fun _ _ => rfl)
    · exact hfa _ _ _ _ _ hv
  -- the three kinds of places
  have hmerge : ∀ l ob, merge H τ L new Hc' l = some ob → (∃ lc ob', l = emb τ L new lc ∧ Hc' lc = some ob' ∧ ob = rnO (emb τ L new) ob') ∨ (H l = some ob ∧ l.id ≠ new ∧ ∀ lc ∈ L, τ lc ≠ l) := by
    intro l ob h
    unfold merge at h
    cases hf : L.find? (fun lc => τ lc == l) with
    | some lc =>
      rw [hf] at h
      simp only [Option.map_eq_some_iff] at h
      obtain ⟨ob', h1, rfl⟩ := h
      have hlc := List.mem_of_find?_eq_some hf
      have he : τ lc = l := by have := List.find?_some hf; simpa using this
      exact .inl ⟨lc, ob', by simp [emb, hlc, he], h1, rfl⟩
    | none =>
      rw [hf] at h
      have hno : ∀ lc ∈ L, τ lc ≠ l := fun lc hlc e => by
        have := List.find?_eq_none.1 hf lc hlc
        simp [e] at this
      simp only at h
      split at h
      · rename_i hidl
        obtain ⟨id, sub⟩ := l
        simp only at hidl
        subst hidl
        cases sub with
        | nil => simp at h
        | cons i s =>
          simp only at h
          split at h
          · cases h
          · rename_i hnl
            simp only [Option.map_eq_some_iff] at h
            obtain ⟨ob', h1, rfl⟩ := h
            exact .inl ⟨⟨i, s⟩, ob', by simp [emb, hnl], h1, rfl⟩
      · rename_i hidl
        exact .inr ⟨h, hidl, hno⟩
  have hkind : ∀ l, merge H τ L new Hc' l ≠ none → (∃ lc, l = emb τ L new lc ∧ Hc' lc ≠ none) ∨ (H l ≠ none ∧ l.id ≠ new ∧ ∀ lc ∈ L, τ lc ≠ l) := fun l hl => by
    cases h : merge H τ L new Hc' l with
    | none => exact absurd h hl
    | some ob =>
      rcases hmerge l ob h with ⟨lc, ob', e, h1, _⟩ | ⟨h1, h2, h3⟩
      · exact .inl ⟨lc, e, by rw [h1]; simp⟩
      · exact .inr ⟨by rw [h1]; simp, h2, h3⟩
  -- a block of the callee's is none of a place that the callee does not see
  have hcross : ∀ lc l b s s', Hc' lc ≠ none → ι'c lc = some (some (b, s)) → H l ≠ none → ι l = some (some (b, s')) → (∀ lc ∈ L, τ lc ≠ l) → False := by
    intro lc l b s s' h1 e1 h2 e2 hn
    rcases hown b ⟨lc, h1, s, e1⟩ with ⟨l3, h3, s3, e3⟩ | h
    · have hl3 := (hL l3).1 h3
      rw [hιc l3 hl3] at e3
      exact hn l3 hl3 (hs.inj _ _ b s3 s' (hHτ l3 hl3) h2 e3 e2)
    · have := hs.blt h2 e2; omega
  refine ⟨v, rfl, ι', F', toF' (hfree.imp id (·.1)) hres, ⟨fun l ob hob => ?_, fun l l' b s s' h1 h2 e1 e2 => ?_, fun l b s h1 e1 hF => ?_, fun b hb => hs'.lt b hb.1⟩, hext, fun l hl => ?_, hFsub, fun b hb => ?_, hstep.mono fun b ⟨lc, h1, s, e1⟩ => ?_, fun l b s h1 e1 => ?_⟩
  · rcases hmerge l ob hob with ⟨lc, ob', rfl, h1, rfl⟩ | ⟨h1, h2, h3⟩
    · have hcells : lent = [] ∨ ∀ r ∈ ob'.rows, ∀ c ∈ r, FreeF c := hfree.imp id fun h => h.2 lc ob' h1
      rcases hs'.obj lc ob' h1 with ⟨e, h4⟩ | ⟨b, cs, T, e, hb, hlen, h4⟩
      · exact .inl ⟨by rw [hemb]; exact e, by simp [rnO, h4]⟩
      · refine .inr ⟨b, cs, T, by rw [hemb]; exact e, hb, by simpa [rnO] using hlen, fun i r hr => ?_⟩
        simp only [rnO, List.getElem?_map, Option.map_eq_some_iff] at hr
        obtain ⟨r', hr', rfl⟩ := hr
        refine ⟨by simpa [rnO] using (h4 i r' hr').1, fun j c hc => ?_⟩
        simp only [List.getElem?_map, Option.map_eq_some_iff] at hc
        obtain ⟨c', hc', rfl⟩ := hc
        obtain ⟨v, h5, h6⟩ := (h4 i r' hr').2 j c' hc'
        exact ⟨v, h5, toF' (hcells.imp id fun h => h r' (List.mem_of_getElem? hr') c' (List.mem_of_getElem? hc')) h6⟩
    · exact (hs.obj l ob h1).mono hext hFsub hFblock (fun b s e => hblock l b s (by rw [h1]; simp) e h3)
  · rcases hkind l h1 with ⟨lc, rfl, k1⟩ | ⟨k1, k2, k3⟩ <;> rcases hkind l' h2 with ⟨lc', rfl, k1'⟩ | ⟨k1', k2', k3'⟩
    · rw [hemb] at e1 e2
      rw [hs'.inj lc lc' b s s' k1 k1' e1 e2]
    · rw [hemb] at e1; rw [hι'old _ k2'] at e2
      exact (hcross lc l' b s s' k1 e1 k1' e2 k3').elim
    · rw [hemb] at e2; rw [hι'old _ k2] at e1
      exact (hcross lc' l b s' s k1' e2 k1 e1 k3).elim
    · rw [hι'old _ k2] at e1; rw [hι'old _ k2'] at e2
      exact hs.inj l l' b s s' k1 k1' e1 e2
  · rcases hkind l h1 with ⟨lc, rfl, k1⟩ | ⟨k1, k2, k3⟩
    · rw [hemb] at e1
      exact hs'.notF lc b s k1 e1 hF.1
    · rw [hι'old _ k2] at e1
      rcases hsup b hF.1 with (h | ⟨l2, hm, h2, s2, e2⟩) | ⟨lc, h2, s2, e2⟩ | h
      · exact hs.notF l b s k1 e1 h
      · exact hF.2 ⟨l2, hm, h2, s2, e2⟩
      · have hlc := (hL lc).1 h2
        rw [hιc lc hlc] at e2
        exact k3 lc hlc (hs.inj _ _ b s2 s (hHτ lc hlc) k1 e2 e1)
      · have := hs.blt k1 e1; omega
  · by_cases h : l.id = new
    · exact .inr h
    · left; rwa [hι'old l h] at hl
  · rcases hsup b hb.1 with (h | h) | ⟨lc, h2, s2, e2⟩ | h
    · exact .inl h
    · exact absurd h hb.2
    · have hlc := (hL lc).1 h2
      rw [hιc lc hlc] at e2
      exact .inr (.inl ⟨τ lc, by simp; exact .inr ⟨lc, hlc, rfl⟩, hHτ lc hlc, s2, e2⟩)
    · exact .inr (.inr h)
  · have hlc := (hL lc).1 h1
    rw [hιc lc hlc] at e1
    exact ⟨τ lc, by simp; exact .inr ⟨lc, hlc, rfl⟩, hHτ lc hlc, s, e1⟩
  · rcases hkind l h1 with ⟨lc, rfl, k1⟩ | ⟨k1, k2, k3⟩
    · rw [hemb] at e1
      rcases hown b ⟨lc, k1, s, e1⟩ with ⟨l3, h3, s3, e3⟩ | h
      · have hl3 := (hL l3).1 h3
        rw [hιc l3 hl3] at e3
        exact .inl ⟨τ l3, hHτ l3 hl3, s3, e3⟩
      · exact .inr h
    · rw [hι'old _ k2] at e1
      exact .inl ⟨l, k1, s, e1⟩
end Go.Proofs.Ytemomjcgkpinfaa
