/-
  The abstract reading: a contract in other names; loops that leave an unknown heap as it is.
-/
import Derived.Test.YtemomjcgkpinfaaA12
namespace Go.Proofs.Ytemomjcgkpinfaa
open Go Go.RowKit
set_option linter.unusedSimpArgs false
set_option linter.unusedVariables false

theorem Locs.arRn {H : Heap} {lent L : Loc → Prop} {τ : Loc → Loc} {c : AV} (h : Locs L c) : AR H lent τ L c (Ytemomjcgkpinfaa.rn τ c) := by
  have key : ∀ {cs : List AV} {c c' : AV} {i : Nat}, cs[i]? = some c → (cs.map (Ytemomjcgkpinfaa.rn τ))[i]? = some c' → c' = Ytemomjcgkpinfaa.rn τ c := fun h1 h2 => by
    simp only [List.getElem?_map, h1, Option.map_some, Option.some.injEq] at h2; exact h2.symm
  induction h with
  | d x => rw [Ytemomjcgkpinfaa.rn]; exact .dd x
  | agg cs h ih => rw [Ytemomjcgkpinfaa.rn]; exact .agg cs _ (by simp) fun i c c' h1 h2 => by rw [key h1 h2]; exact ih i c h1
  | tup cs h ih => rw [Ytemomjcgkpinfaa.rn]; exact .tup cs _ (by simp) fun i c c' h1 h2 => by rw [key h1 h2]; exact ih i c h1
  | own k l off n h => rw [Ytemomjcgkpinfaa.rn]; exact .own k l off n h
  | ptr k l i j h => rw [Ytemomjcgkpinfaa.rn]; exact .ptr k l i j h
  | dptr cs => rw [Ytemomjcgkpinfaa.rn]; exact .dptr cs
  | clo fn fs cs h h' ih ih' => rw [Ytemomjcgkpinfaa.rn]; exact .clo fn fs _ cs _ (by simp) (by simp) (fun i c c' h1 h2 => by rw [key h1 h2]; exact ih i c h1) (fun i c c' h1 h2 => by rw [key h1 h2]; exact ih' i c h1)
  | dead => exact .dead _
theorem Locs.congr {L : Loc → Prop} {f g : Loc → Loc} (hf : ∀ l, L l → f l = g l) {c : AV} (h : Locs L c) : Ytemomjcgkpinfaa.rn f c = Ytemomjcgkpinfaa.rn g c := by
  have key : ∀ {cs : List AV}, (∀ (i : Nat) c, cs[i]? = some c → Ytemomjcgkpinfaa.rn f c = Ytemomjcgkpinfaa.rn g c) → cs.map (Ytemomjcgkpinfaa.rn f) = cs.map (Ytemomjcgkpinfaa.rn g) := fun h =>
    List.map_congr_left fun c hc => by obtain ⟨i, hi⟩ := List.getElem?_of_mem hc; exact h i c hi
  induction h with
  | d x => rw [Ytemomjcgkpinfaa.rn, Ytemomjcgkpinfaa.rn]
  | agg cs h ih => rw [Ytemomjcgkpinfaa.rn, Ytemomjcgkpinfaa.rn, key ih]
  | tup cs h ih => rw [Ytemomjcgkpinfaa.rn, Ytemomjcgkpinfaa.rn, key ih]
  | own k l off n h => rw [Ytemomjcgkpinfaa.rn, Ytemomjcgkpinfaa.rn, hf l h]
  | ptr k l i j h => rw [Ytemomjcgkpinfaa.rn, Ytemomjcgkpinfaa.rn, hf l h]
  | dptr cs => rw [Ytemomjcgkpinfaa.rn, Ytemomjcgkpinfaa.rn]
  | clo fn fs cs h h' ih ih' => rw [Ytemomjcgkpinfaa.rn, Ytemomjcgkpinfaa.rn, key ih, key ih']
  | dead => rw [Ytemomjcgkpinfaa.rn, Ytemomjcgkpinfaa.rn]
/-- The list in other names. -/
def reL (τ : Loc → Loc) (hs : HL) : HL := hs.map fun p => (τ p.1, τ p.1, rnO τ p.2.2)
theorem reL_some {τ : Loc → Loc} : ∀ {hs : HL} {l : Loc} {o : AObj}, (∀ p ∈ hs, ∀ q ∈ hs, τ p.1 = τ q.1 → p.1 = q.1) → heapL hs l = some o → heapL (reL τ hs) (τ l) = some (rnO τ o)
  | [], l, o, _, h => by cases h
  | p :: r, l, o, hinj, h => by
    unfold heapL upd at h
    simp only [reL, List.map_cons, heapL, upd]
    split at h
    · rename_i e; cases h; subst e; rw [if_pos rfl]
    · rename_i e
      obtain ⟨q, hq, h1, h2⟩ := heapL_mem h
      rw [if_neg (fun e' => e (by
        have := hinj q (by simp [hq]) p (by simp) (by rw [h1]; exact e')
        rw [← h1]; exact this))]
      exact reL_some (fun p hp q hq => hinj p (by simp [hp]) q (by simp [hq])) h
theorem reL_none {τ : Loc → Loc} {hs : HL} {l : Loc} (h : ∀ p ∈ hs, τ p.1 ≠ l) : heapL (reL τ hs) l = none := by
  cases h1 : heapL (reL τ hs) l with
  | none => rfl
  | some o =>
    obtain ⟨p, hp, e, _⟩ := heapL_mem h1
    obtain ⟨q, hq, rfl⟩ := List.mem_map.1 hp
    exact absurd e (h q hq)
/-- A contract that leaves its heap as it is, in other names. -/
theorem AC.atL {P : Program} {f : FuncId} {args : List AV} {hs : HL} {res : AV} (hc : AC P f args (heapL hs) res (heapL hs)) (τ : Loc → Loc) (hinj : ∀ p ∈ hs, ∀ q ∈ hs, τ p.1 = τ q.1 → p.1 = q.1) (hok : HOk hs) (hargs : ∀ c ∈ args, Locs (· ∈ hs.map (·.1)) c) (hres : Locs (· ∈ hs.map (·.1)) res) :
    AC P f (args.map (rn τ)) (heapL (reL τ hs)) (rn τ res) (heapL (reL τ hs)) := by
  intro ι F w vs hsim hdom hv
  -- a number that no place bears
  obtain ⟨new, hnew⟩ : ∃ new : Nat, ∀ p ∈ hs, (τ p.1).id < new := by
    clear hc hok hinj hargs hres hsim hdom hv
    induction hs with
    | nil => exact ⟨0, fun p hp => by cases hp⟩
    | cons p r ih =>
      obtain ⟨m, hm⟩ := ih
      exact ⟨max m ((τ p.1).id + 1), fun q hq => by
        rcases List.mem_cons.1 hq with rfl | hq
        · omega
        · have := hm q hq; omega⟩
  have hnone : ∀ k, heapL (reL τ hs) ⟨new, k⟩ = none := fun k => reL_none fun p hp e => by have := hnew p hp; rw [e] at this; simp at this
  have hmem : ∀ l, l ∈ hs.map (·.1) → ∃ p ∈ hs, p.1 = l := fun l hl => by obtain ⟨p, hp, e⟩ := List.mem_map.1 hl; exact ⟨p, hp, e⟩
  have hemb : ∀ l, l ∈ hs.map (·.1) → emb τ (hs.map (·.1)) new l = τ l := fun l hl => by unfold emb; rw [if_pos hl]
  have hcore := call_core hc hsim (new := new) (fun k => hdom _ (hnone k)) [] τ (hs.map (·.1)) (fun l => heapL_iff) (fun l hl l' hl' e => by
      obtain ⟨p, hp, rfl⟩ := hmem l hl
      obtain ⟨q, hq, rfl⟩ := hmem l' hl'
      exact hinj p hp q hq e) (fun l _ => by simp)
    (fun l ob hob => by
      obtain ⟨p, hp, rfl, rfl⟩ := heapL_mem hob
      refine ⟨rnO τ p.2.2, reL_some hinj hob, rfl, by simp [rnO], fun i r r' hr hr' => ?_⟩
      simp only [rnO, List.getElem?_map, hr, Option.map_some, Option.some.injEq] at hr'
      subst hr'
      refine ⟨by simp, fun j c c' hc' hc2 => ?_⟩
      simp only [List.getElem?_map, hc', Option.map_some, Option.some.injEq] at hc2
      subst hc2
      exact (hok p hp r (List.mem_of_getElem? hr) c (List.mem_of_getElem? hc')).arRn) (.inl rfl) (as := args.map (rn τ)) (vs := vs) ⟨by simp, fun i c c' h1 h2 => by
        simp only [List.getElem?_map, h1, Option.map_some, Option.some.injEq] at h2
        subst h2
        exact (hargs c (List.mem_of_getElem? h1)).arRn⟩ hv
  refine hcore.mono ?_
  rintro e w' ⟨v, rfl, ι', F', hr, hp⟩
  rw [hres.congr (g := τ) hemb] at hr
  have hmerge : merge (heapL (reL τ hs)) τ (hs.map (·.1)) new (heapL hs) = heapL (reL τ hs) := by
    funext l
    unfold merge
    cases hf : (hs.map (·.1)).find? (fun lc => τ lc == l) with
    | some lc =>
      have hlc := List.mem_of_find?_eq_some hf
      have he : τ lc = l := by have := List.find?_some hf; simpa using this
      subst he
      simp only
      cases hob : heapL hs lc with
      | none => exact absurd hob (heapL_iff.2 hlc)
      | some ob =>
        rw [reL_some hinj hob]
        obtain ⟨p, hp, rfl, rfl⟩ := heapL_mem hob
        simp only [Option.map_some, Option.some.injEq]
        have := hok p hp
        generalize p.2.2 = o at this
        obtain ⟨k, rows⟩ := o
        simp only [rnO]
        congr 1
        refine List.map_congr_left fun r hr => List.map_congr_left fun c hc => (this r hr c hc).congr hemb
    | none =>
      have hno : ∀ p ∈ hs, τ p.1 ≠ l := fun p hp e => by
        have := List.find?_eq_none.1 hf p.1 (List.mem_map.2 ⟨p, hp, rfl⟩)
        simp [e] at this
      rw [reL_none hno]
      simp only
      split
      · cases l.sub with
        | nil => rfl
        | cons i s =>
          simp only
          split
          · rfl
          · rename_i hnl
            cases hob : heapL hs ⟨i, s⟩ with
            | none => rfl
            | some ob => exact absurd (heapL_iff.1 (by rw [hob]; simp)) hnl
      · rfl
  rw [hmerge] at hp
  refine ⟨v, ι', F', rfl, hr, hp.sim, hp.step.mono fun b ⟨l, _, h⟩ => ⟨l, h⟩, hp.sub, fun b hb => ?_, fun b ⟨l, h1, s, e⟩ => hp.own l b s h1 e, fun l x _ e => hp.ext l x e⟩
  rcases hp.sup b hb with h | ⟨l, _, h⟩ | h
  · exact .inl h
  · exact .inr (.inl ⟨l, h⟩)
  · exact .inr (.inr h)
/-- A state whose heap, though unknown, stays as it is. -/
theorem Le.keep {C : Ctx} {fr fr' : List AV} {hs : HL} {n n' : Nat} (hself : ∀ p ∈ hs, p.2.1 = p.1) (hnd : (hs.map (·.1)).Nodup) (hok : HOk hs) (hfr : ARs (heapL hs) (fun _ => False) id (· ∈ hs.map (·.1)) fr' fr) (hn : ∀ p ∈ hs, p.1.id < n') (hD : ∀ l, C.D0 l → l.id < n') : Le C ⟨fr, heapL hs, n⟩ ⟨fr', heapL hs, n'⟩ := by
  have hL : (fun l => heapL hs l ≠ none) = (· ∈ hs.map (·.1)) := by funext l; exact propext heapL_iff
  refine Le.tell (fun _ => False) id (by rw [hL]; exact hfr) (fun l ob h => ⟨ob, h, rfl, rfl, fun i r r' hr hr' => ?_⟩) (fun l l' _ _ e => e) (fun l _ h => h) (fun l h => ?_) (fun l h => ⟨hD l h, rfl⟩)
  · rw [hr] at hr'; cases hr'
    refine ⟨rfl, fun j c c' hc hc' => ?_⟩
    rw [hc] at hc'; cases hc'
    obtain ⟨p, hp, rfl, rfl⟩ := heapL_mem h
    rw [hL]
    exact (hok p hp r (List.mem_of_getElem? hr) c (List.mem_of_getElem? hc)).ar
  · obtain ⟨p, hp, e⟩ := List.mem_map.1 (heapL_iff.1 h)
    rw [← e]; exact hn p hp
end Go.Proofs.Ytemomjcgkpinfaa
