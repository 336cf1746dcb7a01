/-
  Calls in the abstract reading: what a function's contract says, how it is proved, how it is used; states told anew.
-/
import Derived.Test.YtemomjcgkpinfaaA7
namespace Go.Proofs.Ytemomjcgkpinfaa
open Go Go.RowKit
set_option linter.unusedSimpArgs false
set_option linter.unusedVariables false

/-! ### Contracts -/
def OwnB (ι : Iota) (H : Heap) (b : Nat) : Prop := ∃ l, Owned ι H l b
/-- Called with what args tells, in a heap of its own H, function f returns what res tells; its heap is then H'. -/
def AC (P : Program) (f : FuncId) (args : List AV) (H : Heap) (res : AV) (H' : Heap) : Prop :=
  ∀ (ι : Iota) (F : Nat → Prop) (w : World) (vs : List Value), Sim ι F H w → (∀ l, H l = none → ι l = none) → VRs ι F w args vs →
    Calls P f vs.toArray w fun e w' => ∃ v ι' F', e = .returned v ∧ VR ι' F' w' res v ∧ Sim ι' F' H' w' ∧ Step (OwnB ι H) w w' ∧ (∀ b, F b → F' b) ∧ (∀ b, F' b → F b ∨ OwnB ι H b ∨ w.heap.size ≤ b) ∧
      (∀ b, OwnB ι' H' b → OwnB ι H b ∨ w.heap.size ≤ b) ∧ (∀ l x, H l ≠ none → ι l = some x → ι' l = some x)
abbrev H0 : Heap := fun _ => none

theorem run_mapM_results {P : Program} {w : World} {g : ResultVar → Sem Value} : ∀ (l : List ResultVar) (vs : List Value), l.length = vs.length → (∀ (i : Nat) rv v, l[i]? = some rv → vs[i]? = some v → (g rv).run P w = .ok v w) → (l.mapM g).run P w = .ok vs w
  | [], vs, hl, _ => by
    have : vs = [] := List.length_eq_zero_iff.1 hl.symm
    subst this; simp
  | rv :: l, vs, hl, h => by
    cases vs with
    | nil => simp at hl
    | cons v vs =>
      have h0 := h 0 rv v rfl rfl
      have ih := run_mapM_results (P := P) (w := w) (g := g) l vs (by simpa using hl) (fun i rv v h1 h2 => h (i + 1) rv v (by simpa using h1) (by simpa using h2))
      simp [List.mapM_cons, h0, ih]
/-- A result of a function, off its frame and its heap. -/
def ResOf (P : Program) (fr : List AV) (H : Heap) (rv : ResultVar) (c : AV) : Prop :=
  match rv with
  | .tmp t => fr[t]? = some c
  | .cell a t => ∃ (k : Nat) (l : Loc) (i j : Nat) (ob : AObj) (r : List AV), fr[a]? = some (.ptr k l i j) ∧ H l = some ob ∧ ob.k = k ∧ ob.rows[i]? = some r ∧
      ((∃ n, TyAgg P t n ∧ j + n ≤ r.length ∧ c = .agg ((r.drop j).take n)) ∨ (TyCell P t ∧ r[j]? = some c))
theorem ResOf.run {P : Program} {ι : Iota} {F : Nat → Prop} {w : World} {fr : List AV} {H : Heap} {rv : ResultVar} {c : AV} {tmps : Array Value} (h : ResOf P fr H rv c) (hs : Sim ι F H w) (hv : VRs ι F w fr tmps.toList) :
    ∃ v, ((match rv with | .tmp t => pure (tmps.getD t undef) | .cell a t => do loadVar t (← asAddr (tmps.getD a undef)) : Sem Value)).run P w = .ok v w ∧ VR ι F w c v := by
  have get : ∀ (t : Nat) (c : AV), fr[t]? = some c → ∃ v, tmps.getD t undef = v ∧ VR ι F w c v := fun t c hc => by
    obtain ⟨v, h1, h2⟩ := hv.get hc
    have : tmps[t]? = some v := by simpa using h1
    exact ⟨v, by simp [Array.getD_eq_getD_getElem?, this], h2⟩
  cases rv with
  | tmp t =>
    obtain ⟨v, h1, h2⟩ := get t c h
    exact ⟨v, by simp [h1], h2⟩
  | cell a t =>
    obtain ⟨k, l, i, j, ob, r, hf, hl, hk, hr, hc⟩ := h
    obtain ⟨v, h1, h2⟩ := get a _ hf
    obtain ⟨b, sz, e, hp⟩ := h2.ptr_inv
    obtain ⟨b', cs, T, e', hb, hrl, hfit, hcells⟩ := hs.row hl hr
    rw [e] at e'; simp only [Option.some.injEq, Prod.mk.injEq] at e'
    obtain ⟨rfl, rfl⟩ := e'
    subst hk
    have hlen : i * ob.k + r.length ≤ cs.length := by rw [hrl]; rw [Nat.succ_mul] at hfit; exact hfit
    rcases hc with ⟨n, ht, hn, rfl⟩ | ⟨ht, hc⟩
    · have hvs : VRs ι F w ((r.drop j).take n) ((cs.drop (i * ob.k + j)).take n) := by
        refine ⟨by simp; omega, fun m c v hc hv => ?_⟩
        simp only [List.getElem?_take, List.getElem?_drop] at hc hv
        split at hc
        · rename_i hm
          rw [if_pos hm] at hv
          obtain ⟨v', h3, h4⟩ := hcells (j + m) c hc
          rw [← Nat.add_assoc] at h3
          rw [h3] at hv; cases hv
          exact h4
        · cases hc
      have := run_loadVar_agg (P := P) (w := w) (t := t) (n := n) (b := b) (o := i * ob.k + j) (cs := (cs.drop (i * ob.k + j)).take n) (by simp; omega) (fun m v hm => by
        simp only [List.getElem?_take, List.getElem?_drop] at hm
        split at hm
        · exact cell_of_cells hb hm
        · cases hm)
      exact ⟨_, by simp [h1, hp, asAddr, this], hvs.agg⟩
    · obtain ⟨v', h3, h4⟩ := hcells j c hc
      exact ⟨v', by simp [h1, hp, asAddr, run_loadVar_cell (cell_of_cells hb h3)], h4⟩
/-- All results: one, or a tuple. -/
def ResAll (P : Program) (fr : List AV) (H : Heap) (rvs : List ResultVar) (res : AV) : Prop :=
  ∃ cs : List AV, cs.length = rvs.length ∧ (∀ (i : Nat) rv c, rvs[i]? = some rv → cs[i]? = some c → ResOf P fr H rv c) ∧ res = (match cs with | [c] => c | cs => .tup cs)
theorem ResAll.run {P : Program} {ι : Iota} {F : Nat → Prop} {w : World} {fr : List AV} {H : Heap} {fn : Func} {res : AV} {tmps : Array Value} (h : ResAll P fr H fn.results.toList res) (hs : Sim ι F H w) (hv : VRs ι F w fr tmps.toList) :
    ∃ v, (results fn tmps).run P w = .ok v w ∧ VR ι F w res v := by
  obtain ⟨cs, hl, hc, rfl⟩ := h
  have : ∃ vs : List Value, vs.length = cs.length ∧ (∀ (i : Nat) rv v, fn.results.toList[i]? = some rv → vs[i]? = some v → ((match rv with | .tmp t => pure (tmps.getD t undef) | .cell a t => do loadVar t (← asAddr (tmps.getD a undef)) : Sem Value)).run P w = .ok v w) ∧ (∀ (i : Nat) c v, cs[i]? = some c → vs[i]? = some v → VR ι F w c v) := by
    generalize fn.results.toList = rvs at hl hc
    induction rvs generalizing cs with
    | nil =>
      have : cs = [] := List.length_eq_zero_iff.1 hl
      subst this
      exact ⟨[], rfl, fun i rv v h => by simp at h, fun i c v h => by simp at h⟩
    | cons rv rvs ih =>
      cases cs with
      | nil => simp at hl
      | cons c cs =>
        obtain ⟨vs, h1, h2, h3⟩ := ih cs (by simpa using hl) (fun i rv c ha hb => hc (i + 1) rv c (by simpa using ha) (by simpa using hb))
        obtain ⟨v, h4, h5⟩ := (hc 0 rv c rfl rfl).run hs hv
        refine ⟨v :: vs, by simp [h1], fun i rv' v' ha hb => ?_, fun i c' v' ha hb => ?_⟩
        · cases i with
          | zero => simp at ha hb; subst ha; subst hb; exact h4
          | succ i => exact h2 i rv' v' (by simpa using ha) (by simpa using hb)
        · cases i with
          | zero => simp at ha hb; subst ha; subst hb; exact h5
          | succ i => exact h3 i c' v' (by simpa using ha) (by simpa using hb)
  obtain ⟨vs, h1, h2, h3⟩ := this
  have hm := run_mapM_results (P := P) (w := w) (g := fun rv => (match rv with | .tmp t => pure (tmps.getD t undef) | .cell a t => do loadVar t (← asAddr (tmps.getD a undef)) : Sem Value)) fn.results.toList vs (by rw [h1, hl]) h2
  have hres : (results fn tmps).run P w = .ok (if h : vs.toArray.size = 1 then vs.toArray[0] else .tuple vs.toArray) w := by
    unfold results
    rw [Sem.run_bind, Array.mapM_eq_mapM_toList, map_eq_pure_bind, Sem.run_bind]
    erw [hm]
    rfl
  refine ⟨_, hres, ?_⟩
  clear hres hm hl hc h2
  match cs, vs, h1, h3 with
  | [c], [v], _, h3 => exact h3 0 c v rfl rfl
  | [], [], _, _ => exact .tup [] [] rfl (fun _ _ _ h => by simp at h)
  | c :: c' :: cs, v :: v' :: vs, h1, h3 => exact .tup _ _ h1 h3

/-! ### A contract is proved -/
def startFr (n : Nat) (args : List AV) : List AV := args ++ List.replicate (n - args.length) (.d (.v undef))
/-- The end of a body. -/
def EndQ (P : Program) (C : Ctx) (fn : Func) (res : AV) (H' : Heap) : Exit → AS → Prop
  | .normal, s | .ret, s => ∃ c n', ResAll P s.fr s.H fn.results.toList c ∧ Le C ⟨[c], s.H, s.next⟩ ⟨[res], H', n'⟩
  | _, _ => False
theorem AC.of_body {P : Program} {f : FuncId} {fn : Func} {c : Code} {args : List AV} {H : Heap} {res : AV} {H' : Heap} (next : Nat) (hf : P.funcs[f]? = some fn) (hb : fn.body = some c) (hn : ∀ l, H l ≠ none → l.id < next)
    (h : ∀ C, (∀ l, C.D0 l ↔ H l ≠ none) → AW P C c (EndQ P C fn res H') ⟨startFr fn.ntmps args, H, next⟩) : AC P f args H res H' := by
  intro ι F w vs hs hdom hv
  let C : Ctx := ⟨w, OwnB ι H, F, fun l => H l ≠ none, ι⟩
  have hrs : RS C ⟨startFr fn.ntmps args, H, next⟩ { tmps := vs.toArray ++ Array.replicate (fn.ntmps - vs.toArray.size) undef, defers := [] } w := by
    refine ⟨ι, F, hs, ?_, rfl, ⟨Step.refl _ _, fun _ h => h, fun _ h => .inl h, fun l b ho => .inl ⟨l, ho⟩, fun l x _ h => h⟩, fun id hid k => ?_⟩
    · simp only [startFr, Array.toList_append, Array.toList_replicate, List.size_toArray, hv.1]
      refine hv.append ⟨by simp, fun i c v hc hv => ?_⟩
      rw [List.getElem?_replicate] at hc hv
      split at hc
      · rename_i hi; rw [if_pos hi] at hv; cases hc; cases hv; exact .d (.v _)
      · cases hc
    · cases hι : ι ⟨id, k⟩ with
      | none => rfl
      | some x =>
        exfalso
        have h1 : H ⟨id, k⟩ ≠ none := fun e => by rw [hdom _ e] at hι; cases hι
        have h2 := hn _ h1
        have hid' : next ≤ id := hid
        simp only at h2
        omega
  refine calls_of_wp hf hb (wp_mono (h C (fun l => Iff.rfl) _ _ hrs) fun e a' w' ⟨s', hq, hr⟩ => ?_)
  have fin : ∀ (s' : AS), RS C s' a' w' → (∃ c n', ResAll P s'.fr s'.H fn.results.toList c ∧ Le C ⟨[c], s'.H, s'.next⟩ ⟨[res], H', n'⟩) →
      a'.defers = [] ∧ ∃ v, (results fn a'.tmps).run P w' = .ok v w' ∧ ∃ v' ι' F', Ending.returned v = .returned v' ∧ VR ι' F' w' res v' ∧ Sim ι' F' H' w' ∧ Step (OwnB ι H) w w' ∧ (∀ b, F b → F' b) ∧ (∀ b, F' b → F b ∨ OwnB ι H b ∨ w.heap.size ≤ b) ∧
      (∀ b, OwnB ι' H' b → OwnB ι H b ∨ w.heap.size ≤ b) ∧ (∀ l x, H l ≠ none → ι l = some x → ι' l = some x) := by
    rintro s' ⟨ι1, F1, hs1, hv1, hd1, hi1, hu1⟩ ⟨c, n', hres, hle⟩
    obtain ⟨v, h1, h2⟩ := hres.run hs1 hv1
    obtain ⟨ι', F', hs', hv', _, hi', _⟩ := hle ⟨#[v], []⟩ w' ⟨ι1, F1, hs1, .cons h2 .nil, rfl, hi1, hu1⟩
    exact ⟨hd1, v, h1, v, ι', F', rfl, hv'.2 0 res v rfl rfl, hs', hi'.step, hi'.sub, hi'.sup, fun b ⟨l, ho⟩ => hi'.own l b ho, fun l x hl e => hi'.keep l x hl e⟩
  cases e <;> first | exact fin s' hr hq | exact hq.elim
end Go.Proofs.Ytemomjcgkpinfaa
