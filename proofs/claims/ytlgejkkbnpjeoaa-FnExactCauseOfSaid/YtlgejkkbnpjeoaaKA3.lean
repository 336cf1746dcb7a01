/-
  The abstract reading of the machine, part 3: values, operations, contracts, walks.
-/
import Derived.Test.YtlgejkkbnpjeoaaKA2
section
namespace Go.Proofs.Ytlgejkkbnpjeoaa
open Go Go.RowKit
set_option linter.unusedSimpArgs false
set_option linter.unusedVariables false

/-! ### Lists reversed in place -/
/-- The first k and the last k elements swapped. -/
def rvAt {α : Type} (z : α) (xs : List α) (k : Nat) : List α := (List.range xs.length).map fun t => if t < k ∨ xs.length - k ≤ t then (xs[xs.length - 1 - t]?).getD z else (xs[t]?).getD z
theorem rvAt_len {α : Type} {z : α} {xs : List α} {k : Nat} : (rvAt z xs k).length = xs.length := by simp [rvAt]
theorem rvAt_get {α : Type} {z : α} {xs : List α} {k t : Nat} (h : t < xs.length) : (rvAt z xs k)[t]? = some (if t < k ∨ xs.length - k ≤ t then (xs[xs.length - 1 - t]?).getD z else (xs[t]?).getD z) := by simp [rvAt, h]
theorem rvAt_0 {α : Type} {z : α} {xs : List α} : rvAt z xs 0 = xs := by
  refine List.ext_getElem? fun t => ?_
  by_cases h : t < xs.length
  · rw [rvAt_get h, if_neg (by omega)]; simp [h]
  · rw [List.getElem?_eq_none (by rw [rvAt_len]; omega), List.getElem?_eq_none (by omega)]
theorem rvAt_all {α : Type} {z : α} {xs : List α} {k : Nat} (h : 2 * k ≤ xs.length) (h' : xs.length ≤ 2 * k + 1) : rvAt z xs k = xs.reverse := by
  refine List.ext_getElem? fun t => ?_
  by_cases ht : t < xs.length
  · rw [rvAt_get ht, List.getElem?_reverse ht]
    split
    · simp [show xs.length - 1 - t < xs.length by omega]
    · rw [show xs.length - 1 - t = t by omega]; simp [ht]
  · rw [List.getElem?_eq_none (by rw [rvAt_len]; omega), List.getElem?_eq_none (by simp; omega)]
theorem rvAt_i {α : Type} {z : α} {xs : List α} {k : Nat} {p : α} (h : k < xs.length - 1 - k) (hp : xs[k]? = some p) : (rvAt z xs k)[k]? = some p := by
  rw [rvAt_get (by omega), if_neg (by omega), hp]; rfl
theorem rvAt_j {α : Type} {z : α} {xs : List α} {k : Nat} {q : α} (h : k < xs.length - 1 - k) (hq : xs[xs.length - 1 - k]? = some q) : (rvAt z xs k)[xs.length - 1 - k]? = some q := by
  rw [rvAt_get (by omega), if_neg (by omega), hq]; rfl
theorem rvAt_j2 {α : Type} {z : α} {xs : List α} {k : Nat} {q : α} (h : k < xs.length - 1 - k) (hq : xs[xs.length - 1 - k]? = some q) : ((rvAt z xs k).set k q)[xs.length - 1 - k]? = some q := by
  rw [List.getElem?_set_ne (by omega), rvAt_j h hq]
theorem rvAt_swap {α : Type} {z : α} {xs : List α} {k : Nat} {p q : α} (h : k < xs.length - 1 - k) (hp : xs[k]? = some p) (hq : xs[xs.length - 1 - k]? = some q) : ((rvAt z xs k).set k q).set (xs.length - 1 - k) p = rvAt z xs (k + 1) := by
  refine List.ext_getElem? fun t => ?_
  by_cases ht : t < xs.length
  · rw [rvAt_get ht]
    by_cases h1 : t = xs.length - 1 - k
    · subst h1
      rw [List.getElem?_set_self (by simp [rvAt_len]; omega), if_pos (by omega), show xs.length - 1 - (xs.length - 1 - k) = k by omega, hp]; rfl
    · rw [List.getElem?_set_ne (fun e => h1 e.symm)]
      by_cases h2 : t = k
      · subst h2
        rw [List.getElem?_set_self (by simp [rvAt_len]; omega), if_pos (by omega), hq]; rfl
      · rw [List.getElem?_set_ne (fun e => h2 e.symm), rvAt_get ht]
        by_cases h3 : t < k ∨ xs.length - k ≤ t
        · rw [if_pos h3, if_pos (by omega)]
        · rw [if_neg h3, if_neg (by omega)]
  · rw [List.getElem?_eq_none (by simp [rvAt_len]; omega), List.getElem?_eq_none (by rw [rvAt_len]; omega)]
theorem rvAt_mem {α : Type} {z : α} {xs : List α} {k : Nat} {x : α} (h : x ∈ rvAt z xs k) : x ∈ xs := by
  obtain ⟨t, ht, rfl⟩ := List.mem_map.1 h
  have ht := List.mem_range.1 ht
  split
  · rw [List.getElem?_eq_getElem (by omega), Option.getD_some]; exact List.getElem_mem _
  · rw [List.getElem?_eq_getElem ht, Option.getD_some]; exact List.getElem_mem _
/-! ### A state told anew without new names -/
theorem Le.same {C : Ctx} {fr fr' : List AV} {H H' : Heap} {n n' : Nat} (hH : ∀ l, H l = H' l) (hok : ∀ l ob, H' l = some ob → ∀ r ∈ ob.rows, ∀ c ∈ r, Locs (fun l => H' l ≠ none) c) (hfr : ARs H (fun _ => False) id (fun l => H' l ≠ none) fr' fr) (hn : ∀ l, H' l ≠ none → l.id < n') (hD : ∀ l, C.D0 l → l.id < n') : Le C ⟨fr, H, n⟩ ⟨fr', H', n'⟩ := by
  have e : H = H' := funext hH
  subst e
  refine Le.tell (fun _ => False) id hfr (fun l ob h => ⟨ob, h, rfl, rfl, fun i r r' hr hr' => ?_⟩) (fun l l' _ _ e => e) (fun l _ h => h) hn (fun l h => ⟨hD l h, rfl⟩)
  rw [hr] at hr'; cases hr'
  refine ⟨rfl, fun j c c' hc hc' => ?_⟩
  rw [hc] at hc'; cases hc'
  exact (hok l ob h r (List.mem_of_getElem? hr) c (List.mem_of_getElem? hc)).ar
/-- The rows of a table, by their places. -/
abbrev tRows (l : Loc) (R : List (List (List D))) : List (List AV) := (outer l.at 1 R 0).rows
theorem tRows_len {l : Loc} {R : List (List (List D))} : (tRows l R).length = R.length := by simp [tRows, outer_len]
theorem tRows_get {l : Loc} {R : List (List (List D))} {i : Nat} {x : List (List D)} (h : R[i]? = some x) : (tRows l R)[i]? = some [.own 1 (l.at i) 0 x.length] := outer_lt h
theorem tRows_mem {l : Loc} {R : List (List (List D))} {r : List AV} (h : r ∈ tRows l R) : ∃ i x, R[i]? = some x ∧ r = [.own 1 (l.at i) 0 x.length] := by
  obtain ⟨i, hi⟩ := List.getElem?_of_mem h
  have h1 := (List.getElem?_eq_some_iff.1 hi).1
  rw [tRows_len] at h1
  have h2 := tRows_get (l := l) (List.getElem?_eq_getElem h1)
  rw [h2] at hi; cases hi
  exact ⟨i, _, List.getElem?_eq_getElem h1, rfl⟩
/-- A table's heap, its rows in another order. -/
def hpR (R : List (List (List D))) (rows : List (List AV)) : Heap := upd (hpM 1 R) ⟨0, []⟩ (some ⟨1, rows⟩)
theorem hpR_l {R : List (List (List D))} {rows : List (List AV)} : hpR R rows ⟨0, []⟩ = some ⟨1, rows⟩ := upd_same ..
theorem hpR_at {R : List (List (List D))} {rows : List (List AV)} {i : Nat} : hpR R rows (Loc.at ⟨0, []⟩ i) = (R[i]?).map (dobj 1) := by
  unfold hpR; rw [upd_ne (Loc.at_ne _ i), hpM_at]
theorem hpR_id {R : List (List (List D))} {rows : List (List AV)} {l : Loc} (h : hpR R rows l ≠ none) : l = ⟨0, []⟩ ∨ ∃ i, i < R.length ∧ l = Loc.at ⟨0, []⟩ i := by
  by_cases e : l = ⟨0, []⟩
  · exact .inl e
  · right
    unfold hpR at h
    rw [upd_ne e] at h
    cases hh : hpM 1 R l with
    | none => exact absurd hh h
    | some ob =>
      rcases hpM_some hh with ⟨rfl, _⟩ | ⟨i, r, rfl, hr, _⟩
      · exact absurd rfl e
      · exact ⟨i, (List.getElem?_eq_some_iff.1 hr).1, rfl⟩
theorem hpR_ok {R : List (List (List D))} {rows : List (List AV)} (hm : ∀ r ∈ rows, r ∈ tRows ⟨0, []⟩ R) : ∀ l ob, hpR R rows l = some ob → ∀ r ∈ ob.rows, ∀ c ∈ r, Locs (fun l => hpR R rows l ≠ none) c := by
  intro l ob h r hr c hc
  rcases hpR_id (by rw [h]; simp) with rfl | ⟨i, hi, rfl⟩
  · rw [hpR_l] at h; cases h
    obtain ⟨i, x, hx, rfl⟩ := tRows_mem (hm r hr)
    simp at hc; subst hc
    exact .own _ _ _ _ (by rw [hpR_at, hx]; simp)
  · rw [hpR_at, List.getElem?_eq_getElem hi] at h
    cases h
    simp only [dobj, List.mem_map] at hr
    obtain ⟨r', _, rfl⟩ := hr
    obtain ⟨d, _, rfl⟩ := List.mem_map.1 hc
    exact .d _
section
variable {P : Program} {o : Oper} {A : Operand → AV} {H : Heap} {new : Nat} {fo : Operand} {xs : List Operand} {ts : Array TypeId} {f : FuncId} {caps args : List AV} {res res' : AV}
/-- A call that puts the rows of one table of the caller's, passed whole, into another order. -/
theorem OpOk.callR {l : Loc} {m : Nat} {R : List (List (List D))} (ho : o.op = .call { callee := .value fo, args := xs.toArray, argTypes := ts }) [FnBody P f] (hfo : A fo = .clo (.func f) [] caps)
    (hx : xs.map A ++ caps = [.own 1 l 0 m]) (hc : AC P f [.own 1 ⟨0, []⟩ 0 m] (hpM 1 R) (.tup []) (hpR R (tRows ⟨0, []⟩ R).reverse)) (hm : IsM H l 1 R) : OpOk P o A [l] H new (.tup []) [.one l (some ⟨1, (tRows l R).reverse⟩)] := by
  let τ : Loc → Loc := fun l' => ⟨l.id, l.sub ++ l'.sub⟩
  let L : List Loc := ⟨0, []⟩ :: (List.range R.length).map (Loc.at ⟨0, []⟩)
  have hτ0 : τ ⟨0, []⟩ = l := by simp [τ]
  have hτi : ∀ i, τ (Loc.at ⟨0, []⟩ i) = l.at i := fun i => by simp [τ, Loc.at]
  have hL : ∀ l', hpM 1 R l' ≠ none ↔ l' ∈ L := fun l' => by
    constructor
    · intro h
      cases h1 : hpM 1 R l' with
      | none => exact absurd h1 h
      | some ob =>
        rcases hpM_some h1 with ⟨rfl, _⟩ | ⟨i, r, rfl, hr, _⟩
        · simp [L]
        · exact List.mem_cons_of_mem _ (List.mem_map.2 ⟨i, List.mem_range.2 (List.getElem?_eq_some_iff.1 hr).1, rfl⟩)
    · intro h
      rcases List.mem_cons.1 h with rfl | h
      · rw [hpM_l]; simp
      · obtain ⟨i, hi, rfl⟩ := List.mem_map.1 h
        rw [hpM_at, List.getElem?_eq_getElem (List.mem_range.1 hi)]; simp
  have hinj : ∀ l1 ∈ L, ∀ l2 ∈ L, τ l1 = τ l2 → l1 = l2 := fun l1 h1 l2 h2 e => by
    rcases List.mem_cons.1 h1 with rfl | h1 <;> rcases List.mem_cons.1 h2 with rfl | h2
    · rfl
    · obtain ⟨i, _, rfl⟩ := List.mem_map.1 h2
      rw [hτ0, hτi] at e; exact absurd e.symm (l.at_ne i)
    · obtain ⟨i, _, rfl⟩ := List.mem_map.1 h1
      rw [hτ0, hτi] at e; exact absurd e (l.at_ne i)
    · obtain ⟨i, _, rfl⟩ := List.mem_map.1 h1
      obtain ⟨j, _, rfl⟩ := List.mem_map.1 h2
      rw [hτi, hτi] at e; rw [(Loc.at_inj e).2]
  have hmem : ∀ i, i < R.length → Loc.at ⟨0, []⟩ i ∈ L := fun i hi => List.mem_cons_of_mem _ (List.mem_map.2 ⟨i, List.mem_range.2 hi, rfl⟩)
  have h := OpOk.callGen (P := P) (o := o) (A := A) (H := H) (new := new) (wr := [.one l (some ⟨1, (tRows l R).reverse⟩)]) (fun _ => False) [l] τ L (fun _ h => h.elim) (fun l' hl' => by
      rcases List.mem_cons.1 hl' with rfl | hl'
      · exact ⟨l, by simp, by rw [hτ0]; exact l.cov_self⟩
      · obtain ⟨i, _, rfl⟩ := List.mem_map.1 hl'
        exact ⟨l, by simp, by rw [hτi]; exact l.cov_at i⟩) ho hfo hc hL hinj (fun _ _ h => h) (fun l' ob hob => by
      rcases hpM_some hob with ⟨rfl, rfl⟩ | ⟨i, r, rfl, hr, rfl⟩
      · refine ⟨outer l.at 1 R 0, by rw [hτ0]; exact hm.o, rfl, by simp [outer_len], fun i r r' h1 h2 => ?_⟩
        rcases outer_get h1 with ⟨x, hx, rfl⟩ | rfl
        · rw [outer_lt hx] at h2; cases h2
          refine ⟨rfl, fun j c c' hc hc' => ?_⟩
          cases j with
          | succ j => simp at hc
          | zero =>
            simp at hc hc'; subst hc; subst hc'
            have := AR.own (H := H) (lent := fun _ => False) (τ := τ) (L := (· ∈ L)) 1 (Loc.at ⟨0, []⟩ i) 0 x.length ((hL _).1 (by rw [hpM_at, hx]; simp))
            rwa [hτi] at this
        · exfalso
          have h3 := (List.getElem?_eq_some_iff.1 h1).1
          rw [outer_len] at h3
          rw [outer_lt (List.getElem?_eq_getElem (by omega))] at h1
          cases h1
      · exact ⟨_, by rw [hτi]; exact hm.r i r hr, ObA.data⟩) (.inl fun _ h => h) (by
        rw [hx]
        have := AR.own (H := H) (lent := fun _ => False) (τ := τ) (L := (· ∈ L)) 1 ⟨0, []⟩ 0 m (by simp [L])
        rw [hτ0] at this
        exact .cons this .nil) (fun H1 h1 h2 => by
      funext l'
      simp only [upds, W.app, merge]
      cases hf : L.find? (fun lc => τ lc == l') with
      | some lc =>
        have hlc := List.mem_of_find?_eq_some hf
        have he : τ lc = l' := by have := List.find?_some hf; simpa using this
        simp only
        rcases List.mem_cons.1 hlc with rfl | hlc
        · rw [hτ0] at he; subst he
          rw [upd_same, hpR_l]
          simp only [Option.map_some, Option.some.injEq]
          have h5 := rnO_outer (g := emb τ L new) (f := Loc.at ⟨0, []⟩) (f' := l.at) (k := 1) (R := R) (nils := 0) (fun i hi => by unfold emb; rw [if_pos (hmem i hi), hτi])
          have h6 := congrArg AObj.rows h5
          simp only [rnO] at h6
          simp only [rnO, List.map_reverse]
          exact congrArg (fun x => (⟨1, List.reverse x⟩ : AObj)) h6.symm
        · obtain ⟨i, hi, rfl⟩ := List.mem_map.1 hlc
          rw [hτi] at he; subst he
          have hi := List.mem_range.1 hi
          rw [upd_ne (Loc.at_ne _ i), hpR_at, List.getElem?_eq_getElem hi]
          have h4 := h2 (Loc.at ⟨0, []⟩ i) (hmem i hi)
          rw [hτi] at h4
          rw [h4, hm.r i _ (List.getElem?_eq_getElem hi)]
          simp [rnO_dobj]
      | none =>
        have hno : ∀ lc ∈ L, τ lc ≠ l' := fun lc hlc e => by
          have := List.find?_eq_none.1 hf lc hlc
          simp [e] at this
        have hne : l' ≠ l := fun e => hno ⟨0, []⟩ (by simp [L]) (by rw [hτ0, e])
        rw [upd_ne hne]
        simp only
        split
        · rename_i hid
          obtain ⟨id, sub⟩ := l'
          simp only at hid; subst hid
          rw [h1 sub]
          cases sub with
          | nil => rfl
          | cons i s =>
            simp only
            split
            · rfl
            · rename_i hn
              cases hh : hpR R (tRows ⟨0, []⟩ R).reverse ⟨i, s⟩ with
              | none => rfl
              | some ob =>
                exfalso
                rcases hpR_id (by rw [hh]; simp) with e | ⟨j, hj, e⟩
                · rw [e] at hn; exact hn (by simp [L])
                · rw [e] at hn; exact hn (hmem j hj)
        · rfl)
  have hrn : rn (emb τ L new) (.tup []) = .tup [] := by rw [rn]; rfl
  rwa [hrn] at h
/-- Rows of data appended to rows of one's own, whatever they hold. -/
theorem Ok.appendTD {t t' e e' : TypeId} {s x : Operand} {k b b' n m : Nat} {z z' : Value} {R : List (List D)} {l : Loc} {ob : AObj} (ho : o.op = .call { callee := .builtin .append, args := #[s, x], argTypes := ts }) (hts : ts = #[t, t']) [h : TySlice P t e k b z] [h' : TySlice P t' e' k b' z'] (hk0 : 0 < k)
    (hs : A s = .own k l 0 n) (hl : H l = some ob) (hok : ob.k = k) (hn : ob.rows.length = n) (hx : A x = .d (.sl k R)) (hR : R.length = m) (hk : ∀ r ∈ R, r.length = k) (hone : ∀ r ∈ R, (r.map AV.d).all AV.one = true) (hsz : (n + m) * b ≤ 140737488355328) (h63 : n + m ≤ 9223372036854775807) :
    OpOk P o A [l] H new (.own k ⟨new, []⟩ 0 (n + m)) [.one l none, .one ⟨new, []⟩ (some ⟨k, ob.rows ++ R.map fun r => r.map .d⟩)] := by
  subst hR
  have := OpOk.append (P := P) (H := H) (new := new) (A := A) (S := ob.rows) (R := R.map fun r => r.map .d) (rd := []) (rs := [l]) (wr := [.one l none, .one ⟨new, []⟩ (some ⟨k, ob.rows ++ R.map fun r => r.map .d⟩)]) (n := n) ho hts hk0
    (.inl ⟨l, _, hs, hl, hok, by rw [hn]; exact Nat.le_refl _, by rw [List.take_of_length_le (by omega)], rfl, rfl⟩) (by rw [hx]; exact .data R hk) (by intro r hr; obtain ⟨r', hr', rfl⟩ := List.mem_map.1 hr; exact hone r' hr') (by simpa using hsz) (by simpa using h63)
  simpa using this
end
/-- A table whose first row is one's own, the others data, told as data. -/
theorem AR.mix {H : Heap} {lent : Loc → Prop} {τ : Loc → Loc} {L : Loc → Prop} {l e : Loc} {x : List (List D)} {R : List (List (List D))} {n m : Nat} (hl : H l = some ⟨1, [.own 1 e 0 m] :: (mRows 1 R).map fun r => r.map .d⟩) (he : H e = some (dobj 1 x)) (hm : x.length = m) (hn : R.length + 1 = n) (h1 : lent l) (h2 : lent e) : AR H lent τ L (.d (.sl 1 (mRows 1 (x :: R)))) (.own 1 l 0 n) := by
  subst hm
  refine .d (.own 1 l 0 n _ _ hl h1 rfl (by simp; omega) (by simp; omega) (fun i r r' hr hr' => ?_) (fun i r r' hr hr' j c c' hc hc' => ?_))
  all_goals
    rw [Nat.zero_add] at hr'
    cases i with
    | zero =>
      simp at hr hr'
      subst hr; subst hr'
      first
        | rfl
        | (cases j with
           | succ j => simp at hc
           | zero =>
             simp at hc hc'; subst hc; subst hc'
             have := DRel.dobj (H := H) (lent := lent) (off := 0) (n := x.length) he h2 (by omega)
             rwa [List.drop_zero, List.take_of_length_le (Nat.le_refl _)] at this)
    | succ i =>
      simp only [List.map_cons, List.getElem?_cons_succ, List.getElem?_map] at hr hr'
      cases hx : R[i]? with
      | none => rw [hx] at hr; simp at hr
      | some y =>
        rw [hx] at hr hr'
        simp at hr hr'
        subst hr; subst hr'
        first
          | rfl
          | (cases j with
             | succ j => simp at hc
             | zero => simp at hc hc'; subst hc; subst hc'; exact .d _)
/-- The end of a function whose table's rows have been put into the other order. -/
theorem Le.revT {C : Ctx} {H : Heap} {n n' m : Nat} {l : Loc} {R : List (List (List D))} (ho : H l = some ⟨1, (tRows l R).reverse⟩) (hr : ∀ i x, R[i]? = some x → H (l.at i) = some (dobj 1 x)) (hm : R.length = m) (hn : 0 < n') (hD : ∀ l, ¬ C.D0 l) : Le C ⟨[.own 1 l 0 m], H, n⟩ ⟨[.own 1 ⟨0, []⟩ 0 m], hpM 1 R.reverse, n'⟩ := by
  subst hm
  let τ : Loc → Loc := fun l' => match l'.sub with | [i] => l.at (R.length - 1 - i) | _ => l
  have hτ0 : τ ⟨0, []⟩ = l := rfl
  have hτi : ∀ i, τ (Loc.at ⟨0, []⟩ i) = l.at (R.length - 1 - i) := fun i => rfl
  have hdom : ∀ l', hpM 1 R.reverse l' ≠ none → l' = ⟨0, []⟩ ∨ ∃ i, i < R.length ∧ l' = Loc.at ⟨0, []⟩ i := fun l' h => by
    cases hh : hpM 1 R.reverse l' with
    | none => exact absurd hh h
    | some ob =>
      rcases hpM_some hh with ⟨rfl, _⟩ | ⟨i, r, rfl, hr, _⟩
      · exact .inl rfl
      · exact .inr ⟨i, by have := (List.getElem?_eq_some_iff.1 hr).1; simpa using this, rfl⟩
  refine Le.tell (fun _ => False) τ ?_ (fun l' ob h => ?_) (fun l1 l2 h1 h2 e => ?_) (fun l' _ h => h) (fun l' h => ?_) (fun l' h => absurd h (hD l'))
  · have := AR.own (H := H) (lent := fun _ => False) (τ := τ) (L := fun l => hpM 1 R.reverse l ≠ none) 1 ⟨0, []⟩ 0 R.length (by rw [hpM_l]; simp)
    rw [hτ0] at this
    exact .cons this .nil
  · rcases hpM_some h with ⟨rfl, rfl⟩ | ⟨i, x, rfl, hx, rfl⟩
    · refine ⟨⟨1, (tRows l R).reverse⟩, by rw [hτ0]; exact ho, rfl, by simp [outer_len], fun i r r' h1 h2 => ?_⟩
      rcases outer_get h1 with ⟨x, hx, rfl⟩ | rfl
      · have hi : i < R.length := by have := (List.getElem?_eq_some_iff.1 hx).1; simpa using this
        rw [List.getElem?_reverse hi] at hx
        simp only at h2
        rw [List.getElem?_reverse (by rw [tRows_len]; exact hi), tRows_len, tRows_get hx] at h2
        cases h2
        refine ⟨rfl, fun j c c' hc hc' => ?_⟩
        cases j with
        | succ j => simp at hc
        | zero =>
          simp at hc hc'; subst hc; subst hc'
          have := AR.own (H := H) (lent := fun _ => False) (τ := τ) (L := fun l => hpM 1 R.reverse l ≠ none) 1 (Loc.at ⟨0, []⟩ i) 0 x.length (by rw [hpM_at, List.getElem?_reverse hi, hx]; simp)
          rwa [hτi] at this
      · exfalso
        have h3 := (List.getElem?_eq_some_iff.1 h1).1
        rw [outer_len] at h3
        rw [outer_lt (List.getElem?_eq_getElem (by omega))] at h1
        cases h1
    · have hi : i < R.length := by have := (List.getElem?_eq_some_iff.1 hx).1; simpa using this
      rw [List.getElem?_reverse hi] at hx
      exact ⟨_, by rw [hτi]; exact hr _ _ hx, ObA.data⟩
  · rcases hdom l1 h1 with rfl | ⟨i, hi, rfl⟩ <;> rcases hdom l2 h2 with rfl | ⟨j, hj, rfl⟩
    · rfl
    · rw [hτ0, hτi] at e; exact absurd e.symm (l.at_ne _)
    · rw [hτ0, hτi] at e; exact absurd e (l.at_ne _)
    · rw [hτi, hτi] at e
      have := (Loc.at_inj e).2
      rw [show i = j by omega]
  · rcases hdom l' h with rfl | ⟨i, hi, rfl⟩
    · exact hn
    · exact hn
end Go.Proofs.Ytlgejkkbnpjeoaa
end

section
namespace Go.Proofs.Ytlgejkkbnpjeoaa
open Go Go.RowKit
set_option linter.unusedSimpArgs false
set_option linter.unusedVariables false

section
variable {P : Program} {o : Oper} {A : Operand → AV} {H : Heap} {new : Nat}
theorem Ok.storeR {t : TypeId} {a x : Operand} {k i j : Nat} {l : Loc} {R : List (List AV)} {r r' : List AV} {v : AV} (ho : o.op = .store t a x) (ha : A a = .ptr k l i j) [ht : TyCell P t] (hl : H l = some ⟨k, R.set i r⟩) (hi : i < R.length) (hn : j < r.length) (hx : A x = v) (hc : v.cells = [v]) (h1 : v.one = true) (hr : r.set j v = r') :
    OpOk P o A [l] H new (.d (.v undef)) [.one l (some ⟨k, R.set i r'⟩)] :=
  Ok.storeC ho ha hl rfl (by simp [hi]) hn hx hc h1 (by rw [hr]; simp [List.set_set])
end
/-- The first i of xs marked. -/
def markL {α : Type} (mk : Nat → α) (xs : List α) (i : Nat) : List α := (List.range i).map mk ++ xs.drop i
theorem markL_0 {α : Type} {mk : Nat → α} {xs : List α} : markL mk xs 0 = xs := by simp [markL]
theorem markL_all {α : Type} {mk : Nat → α} {xs : List α} {i : Nat} (h : i = xs.length) : markL mk xs i = (List.range xs.length).map mk := by subst h; simp [markL]
theorem markL_len {α : Type} {mk : Nat → α} {xs : List α} {i : Nat} (h : i ≤ xs.length) : (markL mk xs i).length = xs.length := by simp [markL]; omega
theorem markL_set {α : Type} {mk : Nat → α} {xs : List α} {i : Nat} (h : i < xs.length) : (markL mk xs i).set i (mk i) = markL mk xs (i + 1) := by
  unfold markL
  rw [List.set_append_right _ _ (by simp), List.length_map, List.length_range, Nat.sub_self, List.drop_eq_getElem_cons h, List.set_cons_zero, List.range_succ]
  simp
theorem markL_get {α : Type} {mk : Nat → α} {xs : List α} {i : Nat} {x : α} (h : xs[i]? = some x) : (markL mk xs i)[i]? = some x := by
  unfold markL
  rw [List.getElem?_append_right (by simp), List.length_map, List.length_range, Nat.sub_self]
  simpa using h
def rowsA {α : Type} (row : α → List D) (xs : List α) : List (List AV) := (xs.map row).map fun r => r.map .d
theorem rowsA_len {α : Type} {row : α → List D} {xs : List α} : (rowsA row xs).length = xs.length := by simp [rowsA]
/-- At a round's start: the row spelled out. -/
theorem mark_open {α : Type} {mk : Nat → α} {row : α → List D} {xs : List α} {i m : Nat} {x : α} (h : xs[i]? = some x) : dobj m ((markL mk xs i).map row) = ⟨m, (rowsA row (markL mk xs i)).set (0 + ((i : Nat) : Int).toNat) ((row x).map .d)⟩ := by
  simp only [dobj, rowsA, Int.toNat_natCast, Nat.zero_add, AObj.mk.injEq, true_and]
  have hi := (List.getElem?_eq_some_iff.1 (markL_get (mk := mk) h)).1
  have he := (List.getElem?_eq_some_iff.1 (markL_get (mk := mk) h)).2
  rw [← List.map_set, ← List.map_set]
  congr 2
  conv => lhs; rw [← List.set_getElem_self hi, he]
theorem mark_shut {α : Type} {mk : Nat → α} {row : α → List D} {xs : List α} {i m : Nat} {r : List AV} (h : i < xs.length) (hr : r = (row (mk i)).map .d) : (⟨m, (rowsA row (markL mk xs i)).set (0 + ((i : Nat) : Int).toNat) r⟩ : AObj) = dobj m ((markL mk xs (i + 1)).map row) := by
  subst hr
  simp only [dobj, rowsA, Int.toNat_natCast, Nat.zero_add, AObj.mk.injEq, true_and, ← List.map_set, ← markL_set h]
theorem free_rowsPl {xs : List Pl} : ∀ r ∈ (dobj 4 (xs.map Pl.row)).rows, ∀ c ∈ r, FreeF c := by
  intro r hr c hc
  simp only [dobj, List.map_map, List.mem_map, Function.comp_def, Pl.row] at hr
  obtain ⟨x, _, rfl⟩ := hr
  simp at hc
  rcases hc with rfl | rfl | rfl | rfl <;> exact FreeF.v _
theorem free_rowsEd {xs : List Ed} : ∀ r ∈ (dobj 6 (xs.map Ed.row)).rows, ∀ c ∈ r, FreeF c := by
  intro r hr c hc
  simp only [dobj, List.map_map, List.mem_map, Function.comp_def, Ed.row] at hr
  obtain ⟨x, _, rfl⟩ := hr
  simp at hc
  rcases hc with rfl | rfl | rfl | rfl | rfl | rfl <;> exact FreeF.v _
theorem FreeF.cons {a : AV} {r : List AV} (h : FreeF a) (h' : ∀ c ∈ r, FreeF c) : ∀ c ∈ a :: r, FreeF c := fun c hc => by
  rcases List.mem_cons.1 hc with rfl | hc
  · exact h
  · exact h' c hc
theorem FreeF.nil : ∀ c ∈ ([] : List AV), FreeF c := fun c hc => by cases hc
/-- The marks of places and of edits, counted from k on. -/
def mkP (k : Int) (i : Nat) : Pl := ⟨k + 4 * i, k + 4 * i + 1, k + 4 * i + 1 + 1, k + 4 * i + 1 + 1 + 1⟩
def mkE (k : Int) (i : Nat) : Ed := ⟨k + 6 * i, k + 6 * i + 1, ⟨k + 6 * i + 1 + 1, k + 6 * i + 1 + 1 + 1, k + 6 * i + 1 + 1 + 1 + 1, k + 6 * i + 1 + 1 + 1 + 1 + 1⟩⟩
def mksP (k : Int) (n : Nat) : List Pl := (List.range n).map (mkP k)
def mksE (k : Int) (n : Nat) : List Ed := (List.range n).map (mkE k)
theorem mksP_len (k : Int) (n : Nat) : (mksP k n).length = n := by simp [mksP]
theorem mksE_len (k : Int) (n : Nat) : (mksE k n).length = n := by simp [mksE]
end Go.Proofs.Ytlgejkkbnpjeoaa
end
