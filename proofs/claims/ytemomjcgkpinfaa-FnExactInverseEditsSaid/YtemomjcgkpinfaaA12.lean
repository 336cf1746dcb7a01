/-
  The abstract reading: loops' heads, told by a list of what is owned.
-/
import Derived.Test.YtemomjcgkpinfaaA11
namespace Go.Proofs.Ytemomjcgkpinfaa
open Go Go.RowKit
set_option linter.unusedSimpArgs false
set_option linter.unusedVariables false

/-- What is owned at a loop's head: a place's new name, its old one, what lies there. -/
abbrev HL := List (Loc × Loc × AObj)
def tauL : HL → Loc → Loc
  | [], l => l
  | p :: r, l => if l = p.1 then p.2.1 else tauL r l
def heapL : HL → Heap
  | [] => H0
  | p :: r => upd (heapL r) p.1 (some p.2.2)
theorem heapL_mem : ∀ {hs : HL} {l : Loc} {o : AObj}, heapL hs l = some o → ∃ p ∈ hs, p.1 = l ∧ p.2.2 = o
  | [], l, o, h => by cases h
  | p :: r, l, o, h => by
    unfold heapL upd at h
    split at h
    · rename_i e; cases h; exact ⟨p, by simp, e.symm, rfl⟩
    · obtain ⟨q, hq, h1, h2⟩ := heapL_mem h; exact ⟨q, by simp [hq], h1, h2⟩
theorem heapL_ne : ∀ {hs : HL} {p : Loc × Loc × AObj}, p ∈ hs → heapL hs p.1 ≠ none
  | q :: r, p, h => by
    unfold heapL upd
    split
    · simp
    · rename_i e
      rcases List.mem_cons.1 h with rfl | h
      · exact absurd rfl e
      · exact heapL_ne h
theorem tauL_of : ∀ {hs : HL} {p : Loc × Loc × AObj}, (hs.map (·.1)).Nodup → p ∈ hs → tauL hs p.1 = p.2.1
  | q :: r, p, hn, h => by
    simp only [List.map_cons, List.nodup_cons, List.mem_map, not_exists, not_and] at hn
    unfold tauL
    split
    · rename_i e
      rcases List.mem_cons.1 h with rfl | h
      · rfl
      · exact absurd e.symm (fun e' => hn.1 p h e'.symm)
    · rename_i e
      rcases List.mem_cons.1 h with rfl | h
      · exact absurd rfl e
      · exact tauL_of hn.2 h
/-- Two objects, one read as the other. -/
def ObA (H : Heap) (lent : Loc → Prop) (τ : Loc → Loc) (L : Loc → Prop) (ob ob' : AObj) : Prop :=
  ob'.k = ob.k ∧ ob'.rows.length = ob.rows.length ∧ ∀ (i : Nat) r r', ob.rows[i]? = some r → ob'.rows[i]? = some r' → r.length = r'.length ∧ ∀ (j : Nat) c c', r[j]? = some c → r'[j]? = some c' → AR H lent τ L c c'
theorem ObA.data {H : Heap} {lent : Loc → Prop} {τ : Loc → Loc} {L : Loc → Prop} {k : Nat} {rows : List (List D)} : ObA H lent τ L (dobj k rows) (dobj k rows) := by
  refine ⟨rfl, rfl, fun i r r' hr hr' => ?_⟩
  rw [hr] at hr'; cases hr'
  refine ⟨rfl, fun j c c' hc hc' => ?_⟩
  rw [hc] at hc'; cases hc'
  simp only [dobj, List.getElem?_map, Option.map_eq_some_iff] at hr
  obtain ⟨r2, _, rfl⟩ := hr
  simp only [List.getElem?_map, Option.map_eq_some_iff] at hc
  obtain ⟨x, _, rfl⟩ := hc
  exact AR.dd x
theorem ObA.dataE {H : Heap} {lent : Loc → Prop} {τ : Loc → Loc} {L : Loc → Prop} {k : Nat} {rows : List (List D)} {ob : AObj} (h : ob = dobj k rows) : ObA H lent τ L (dobj k rows) ob := by subst h; exact ObA.data
theorem ObA.box {H : Heap} {lent : Loc → Prop} {τ : Loc → Loc} {L : Loc → Prop} {k : Nat} {r r' : List AV} (h : ARs H lent τ L r r') : ObA H lent τ L ⟨k, [r]⟩ ⟨k, [r']⟩ := by
  refine ⟨rfl, rfl, fun i q q' hq hq' => ?_⟩
  cases i with
  | zero => simp at hq hq'; subst hq; subst hq'; exact h
  | succ i => simp at hq
theorem Le.tellL {C : Ctx} {s : AS} (lent : Loc → Prop) (hs : HL) (fr' : List AV) (n' : Nat) (hfr : ARs s.H lent (tauL hs) (fun l => heapL hs l ≠ none) fr' s.fr) (hob : ∀ p ∈ hs, ∃ ob', s.H p.2.1 = some ob' ∧ ObA s.H lent (tauL hs) (fun l => heapL hs l ≠ none) p.2.2 ob')
    (hn1 : (hs.map (·.1)).Nodup) (hn2 : (hs.map (·.2.1)).Nodup) (hlen : ∀ p ∈ hs, ¬ lent p.2.1) (hn : ∀ p ∈ hs, p.1.id < n') (hD : ∀ l, C.D0 l → l.id < n' ∧ tauL hs l = l) : Le C s ⟨fr', heapL hs, n'⟩ := by
  have get : ∀ l, heapL hs l ≠ none → ∃ p ∈ hs, p.1 = l := fun l hl => by
    cases h : heapL hs l with
    | none => exact absurd h hl
    | some o => obtain ⟨p, hp, e, _⟩ := heapL_mem h; exact ⟨p, hp, e⟩
  refine Le.tell lent (tauL hs) hfr (fun l ob h => ?_) (fun l l' h h' e => ?_) (fun l h => ?_) (fun l h => ?_) hD
  · obtain ⟨p, hp, rfl, rfl⟩ := heapL_mem h
    rw [tauL_of hn1 hp]
    exact hob p hp
  · obtain ⟨p, hp, rfl⟩ := get l h
    obtain ⟨q, hq, rfl⟩ := get l' h'
    rw [tauL_of hn1 hp, tauL_of hn1 hq] at e
    obtain ⟨i, hi⟩ := List.getElem?_of_mem hp
    obtain ⟨j, hj⟩ := List.getElem?_of_mem hq
    have h1 : (hs.map (·.2.1))[i]? = some p.2.1 := by simp [hi]
    have h2 : (hs.map (·.2.1))[j]? = some q.2.1 := by simp [hj]
    obtain ⟨hi', e1⟩ := List.getElem?_eq_some_iff.1 h1
    obtain ⟨hj', e2⟩ := List.getElem?_eq_some_iff.1 h2
    have hpw := List.pairwise_iff_getElem.1 hn2
    have : i = j := by
      rcases Nat.lt_trichotomy i j with h | h | h
      · exact absurd (by rw [e1, e2, e]) (hpw i j hi' hj' h)
      · exact h
      · exact absurd (by rw [e1, e2, e]) (hpw j i hj' hi' h)
    subst this
    rw [hi] at hj; cases hj; rfl
  · obtain ⟨p, hp, rfl⟩ := get l h
    rw [tauL_of hn1 hp]; exact hlen p hp
  · obtain ⟨p, hp, rfl⟩ := get l h
    exact hn p hp
/-- All of a list, one after the other. -/
def AllP {α : Type} (p : α → Prop) : List α → Prop
  | [] => True
  | x :: r => p x ∧ AllP p r
theorem AllP.all {α : Type} {p : α → Prop} : ∀ {l : List α}, AllP p l → ∀ x ∈ l, p x
  | [], _, _, h => by cases h
  | _ :: _, h, x, hx => by
    rcases List.mem_cons.1 hx with rfl | hx
    · exact h.1
    · exact AllP.all h.2 x hx
theorem AR.i {H : Heap} {lent : Loc → Prop} {τ : Loc → Loc} {L : Loc → Prop} {a b : Int} (h : a = b) : AR H lent τ L (I a) (I b) := h ▸ AR.dd _
theorem AR.e {H : Heap} {lent : Loc → Prop} {τ : Loc → Loc} {L : Loc → Prop} {a b : D} (h : a = b) : AR H lent τ L (.d a) (.d b) := h ▸ AR.dd _
/-- A loop's head, by a list of what is owned. -/
theorem Le.head {C : Ctx} {fr : List AV} {H : Heap} {n : Nat} (hs : HL) {fr' : List AV} {n' : Nat} (hD : ∀ l, C.D0 l → l.id < n' ∧ tauL hs l = l) (hob : AllP (fun p => ∃ ob', H p.2.1 = some ob' ∧ ObA H (fun _ => False) (tauL hs) (fun l => heapL hs l ≠ none) p.2.2 ob') hs) (hfr : ARs H (fun _ => False) (tauL hs) (fun l => heapL hs l ≠ none) fr' fr)
    (hn1 : (hs.map (·.1)).Nodup) (hn2 : (hs.map (·.2.1)).Nodup) (hn : AllP (fun p => p.1.id < n') hs) : Le C ⟨fr, H, n⟩ ⟨fr', heapL hs, n'⟩ :=
  Le.tellL (fun _ => False) hs fr' n' hfr hob.all hn1 hn2 (fun _ _ h => h) hn.all hD
theorem heapL_iff {hs : HL} {l : Loc} : heapL hs l ≠ none ↔ l ∈ hs.map (·.1) := by
  constructor
  · intro h
    cases h1 : heapL hs l with
    | none => exact absurd h1 h
    | some o => obtain ⟨p, hp, e, _⟩ := heapL_mem h1; exact List.mem_map.2 ⟨p, hp, e⟩
  · intro h
    obtain ⟨p, hp, rfl⟩ := List.mem_map.1 h
    exact heapL_ne hp

/-! ### Values whose places are known -/
inductive Locs (L : Loc → Prop) : AV → Prop
  | d (x : D) : Locs L (.d x)
  | agg (cs : List AV) (h : ∀ (i : Nat) c, cs[i]? = some c → Locs L c) : Locs L (.agg cs)
  | tup (cs : List AV) (h : ∀ (i : Nat) c, cs[i]? = some c → Locs L c) : Locs L (.tup cs)
  | own (k : Nat) (l : Loc) (off n : Nat) (h : L l) : Locs L (.own k l off n)
  | ptr (k : Nat) (l : Loc) (i j : Nat) (h : L l) : Locs L (.ptr k l i j)
  | dptr (cs : List D) : Locs L (.dptr cs)
  | clo (fn : Fn) (fs cs : List AV) (h : ∀ (i : Nat) c, fs[i]? = some c → Locs L c) (h' : ∀ (i : Nat) c, cs[i]? = some c → Locs L c) : Locs L (.clo fn fs cs)
  | dead : Locs L .dead
theorem Locs.ar {H : Heap} {lent L : Loc → Prop} {c : AV} (h : Locs L c) : AR H lent id L c c := by
  induction h with
  | d x => exact .dd x
  | agg cs h ih => exact .agg cs cs rfl fun i c c' h1 h2 => by rw [h1] at h2; cases h2; exact ih i c h1
  | tup cs h ih => exact .tup cs cs rfl fun i c c' h1 h2 => by rw [h1] at h2; cases h2; exact ih i c h1
  | own k l off n h => exact .own k l off n h
  | ptr k l i j h => exact .ptr k l i j h
  | dptr cs => exact .dptr cs
  | clo fn fs cs h h' ih ih' => exact .clo fn fs fs cs cs rfl rfl (fun i c c' h1 h2 => by rw [h1] at h2; cases h2; exact ih i c h1) (fun i c c' h1 h2 => by rw [h1] at h2; cases h2; exact ih' i c h1)
  | dead => exact .dead _
theorem Locs.rn {L : Loc → Prop} {f : Loc → Loc} (hf : ∀ l, L l → f l = l) {c : AV} (h : Locs L c) : Ytemomjcgkpinfaa.rn f c = c := by
  induction h with
  | d x => rw [Ytemomjcgkpinfaa.rn]
  | agg cs h ih => rw [Ytemomjcgkpinfaa.rn]; congr 1; conv => rhs; rw [← List.map_id cs]
                   exact List.map_congr_left fun c hc => by obtain ⟨i, hi⟩ := List.getElem?_of_mem hc; exact ih i c hi
  | tup cs h ih => rw [Ytemomjcgkpinfaa.rn]; congr 1; conv => rhs; rw [← List.map_id cs]
                   exact List.map_congr_left fun c hc => by obtain ⟨i, hi⟩ := List.getElem?_of_mem hc; exact ih i c hi
  | own k l off n h => rw [Ytemomjcgkpinfaa.rn, hf l h]
  | ptr k l i j h => rw [Ytemomjcgkpinfaa.rn, hf l h]
  | dptr cs => rw [Ytemomjcgkpinfaa.rn]
  | clo fn fs cs h h' ih ih' =>
    rw [Ytemomjcgkpinfaa.rn]
    have e1 : fs.map (Ytemomjcgkpinfaa.rn f) = fs := by
      conv => rhs; rw [← List.map_id fs]
      exact List.map_congr_left fun c hc => by obtain ⟨i, hi⟩ := List.getElem?_of_mem hc; exact ih i c hi
    have e2 : cs.map (Ytemomjcgkpinfaa.rn f) = cs := by
      conv => rhs; rw [← List.map_id cs]
      exact List.map_congr_left fun c hc => by obtain ⟨i, hi⟩ := List.getElem?_of_mem hc; exact ih' i c hi
    rw [e1, e2]
  | dead => rw [Ytemomjcgkpinfaa.rn]
/-- A heap whose objects hold places of the heap alone. -/
def HOk (hs : HL) : Prop := ∀ p ∈ hs, ∀ r ∈ p.2.2.rows, ∀ c ∈ r, Locs (· ∈ hs.map (·.1)) c
theorem rnO_ok {hs : HL} (hok : HOk hs) {f : Loc → Loc} (hf : ∀ l, l ∈ hs.map (·.1) → f l = l) {p : Loc × Loc × AObj} (hp : p ∈ hs) : rnO f p.2.2 = p.2.2 := by
  have h := hok p hp
  generalize p.2.2 = ob at h
  obtain ⟨k, rows⟩ := ob
  simp only [rnO]
  congr 1
  conv => rhs; rw [← List.map_id rows]
  refine List.map_congr_left fun r hr => ?_
  conv => rhs; rw [id, ← List.map_id r]
  exact List.map_congr_left fun c hc => (h r hr c hc).rn hf
/-- A call that leaves its heap as it is, in the caller's own names. -/
theorem OpOk.callS {P : Program} {o : Oper} {A : Operand → AV} {H : Heap} {new : Nat} {fo : Operand} {xs : List Operand} {ts : Array TypeId} {f : FuncId} {caps args : List AV} {res : AV} (hs : HL) (ho : o.op = .call { callee := .value fo, args := xs.toArray, argTypes := ts }) [FnBody P f] (hfo : A fo = .clo (.func f) [] caps) (hc : AC P f args (heapL hs) res (heapL hs))
    (hH : ∀ p ∈ hs, H p.1 = heapL hs p.1) (hok : HOk hs) (hres : Locs (· ∈ hs.map (·.1)) res) (hargs : ARs H (fun _ => False) id (· ∈ hs.map (·.1)) args (xs.map A ++ caps)) : OpOk P o A (hs.map (·.1)) H new res [] := by
  have hemb : ∀ l, l ∈ hs.map (·.1) → emb id (hs.map (·.1)) new l = l := fun l hl => by unfold emb; rw [if_pos hl]; rfl
  intro ι F w H1 ρ h1 hn hsim hv
  have hH1 : ∀ l, l ∈ hs.map (·.1) → H1 l = heapL hs l := fun l hl => by
    obtain ⟨p, hp, rfl⟩ := List.mem_map.1 hl
    exact (h1 p.1 hl).trans (hH p hp)
  have h := OpOk.callGen (P := P) (o := o) (A := A) (H := H1) (new := new) (wr := [.all new (fun _ => none)]) [] id (hs.map (·.1)) ho hfo hc (fun l => heapL_iff) (fun l _ l' _ e => e) (fun l _ => by simp)
    (fun l ob hob => by
      have hl := heapL_iff.1 (by rw [hob]; simp : heapL hs l ≠ none)
      refine ⟨ob, (hH1 l hl).trans hob, rfl, rfl, fun i r r' hr hr' => ?_⟩
      rw [hr] at hr'; cases hr'
      refine ⟨rfl, fun j c c' hc' hc2 => ?_⟩
      rw [hc'] at hc2; cases hc2
      obtain ⟨p, hp, rfl, rfl⟩ := heapL_mem hob
      exact (hok p hp r (List.mem_of_getElem? hr) c (List.mem_of_getElem? hc')).ar) (.inl rfl) (by
        refine ⟨hargs.1, fun i c c' hc1 hc2 => ?_⟩
        have := hargs.2 i c c' hc1 hc2
        have h2 : AR H (fun x => x ∈ ([] : List Loc)) id (· ∈ hs.map (·.1)) c c' := by simpa using this
        exact h2.congr (fun l hl => by simp at hl)) (fun H2 h2 h3 => ?_)
  · have := h ι F w H1 ρ (fun _ _ => rfl) hn hsim hv
    rw [hres.rn hemb] at this
    refine this.mono fun v w' ⟨ι', F', hr, hp⟩ => ⟨ι', F', hr, ?_⟩
    have e : upds H1 [.all new (fun _ => none)] = upds H1 [] := by
      funext l
      simp only [upds, W.app]
      split
      · rename_i e
        obtain ⟨id, sub⟩ := l
        simp only at e; subst e
        exact (hsim.isNone (hn sub)).symm
      · rfl
    rw [e] at hp
    simpa using hp
  · have hH2 : ∀ l, l ∈ hs.map (·.1) → H2 l = heapL hs l := fun l hl => (h3 l hl).trans (hH1 l hl)
    have hid : ∀ l, l ∈ hs.map (·.1) → l.id ≠ new := fun l hl e => by
      have h4 := heapL_iff.2 hl
      rw [← hH2 l hl] at h4
      exact h4 (by obtain ⟨id, sub⟩ := l; simp only at e; subst e; exact h2 sub)
    funext l
    simp only [upds, W.app, merge]
    cases hf : (hs.map (·.1)).find? (fun lc => id lc == l) with
    | some lc =>
      have hlc := List.mem_of_find?_eq_some hf
      have he : lc = l := by have := List.find?_some hf; simpa using this
      subst he
      rw [if_neg (hid lc hlc)]
      simp only
      rw [hH2 lc hlc]
      cases hob : heapL hs lc with
      | none => rfl
      | some ob =>
        obtain ⟨p, hp, rfl, rfl⟩ := heapL_mem hob
        simp only [Option.map_some]
        congr 1
        exact (rnO_ok hok hemb hp).symm
    | none =>
      simp only
      split
      · rename_i e
        obtain ⟨id, sub⟩ := l
        cases sub with
        | nil => rfl
        | cons i s =>
          simp only
          split
          · rfl
          · rename_i hnl
            cases hob : heapL hs ⟨i, s⟩ with
            | none => rfl
            | some ob => exact absurd (heapL_iff.1 (by rw [hob]; simp)) hnl
      · rfl
end Go.Proofs.Ytemomjcgkpinfaa
