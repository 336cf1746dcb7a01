/-
  Plain facts, more: equality of lists of records, edits.
-/
import Derived.Test.YtemomjcgkpinfaaBase
namespace Go.Proofs.Ytemomjcgkpinfaa
open Go.RowKit

def eqLs {α : Type} (eq : α → α → Bool) : List α → List α → Bool
  | [], [] => true
  | p :: ps, q :: qs => eq p q && eqLs eq ps qs
  | _, _ => false
theorem eqLs_iff {α : Type} {eq : α → α → Bool} (h : ∀ p q, eq p q = true ↔ p = q) : ∀ (ps qs : List α), eqLs eq ps qs = true ↔ ps = qs
  | [], [] => by simp [eqLs]
  | [], _ :: _ => by simp [eqLs]
  | _ :: _, [] => by simp [eqLs]
  | p :: ps, q :: qs => by simp [eqLs, h, eqLs_iff h ps qs]
theorem eqLs_len' {α : Type} {eq : α → α → Bool} : ∀ {ps qs : List α}, eqLs eq ps qs = true → ps.length = qs.length
  | [], [], _ => rfl
  | [], _ :: _, h => by simp [eqLs] at h
  | _ :: _, [], h => by simp [eqLs] at h
  | p :: ps, q :: qs, h => by
    simp only [eqLs, Bool.and_eq_true] at h
    simp [eqLs_len' h.2]
theorem eqLs_len {α : Type} {eq : α → α → Bool} {ps qs : List α} (h : ps.length ≠ qs.length) : eqLs eq ps qs = false := by
  rw [Bool.eq_false_iff]; intro e; exact h (eqLs_len' e)
theorem eqLs_drop {α : Type} {eq : α → α → Bool} {ps qs : List α} {k : Nat} {p q : α} (hp : ps[k]? = some p) (hq : qs[k]? = some q) : eqLs eq (ps.drop k) (qs.drop k) = (eq p q && eqLs eq (ps.drop (k + 1)) (qs.drop (k + 1))) := by
  obtain ⟨h1, rfl⟩ := List.getElem?_eq_some_iff.1 hp
  obtain ⟨h2, rfl⟩ := List.getElem?_eq_some_iff.1 hq
  rw [List.drop_eq_getElem_cons h1, List.drop_eq_getElem_cons h2]; rfl
theorem eqLs_end {α : Type} {eq : α → α → Bool} {ps qs : List α} {k : Nat} (hp : ps.length ≤ k) (hq : qs.length ≤ k) : eqLs eq (ps.drop k) (qs.drop k) = true := by
  rw [List.drop_of_length_le hp, List.drop_of_length_le hq]; rfl
theorem eqPls_eqLs : ∀ (ps qs : List Pl), eqPls ps qs = eqLs Pl.eq ps qs
  | [], [] => rfl
  | [], _ :: _ => rfl
  | _ :: _, [] => rfl
  | p :: ps, q :: qs => by simp [eqPls, eqLs, eqPls_eqLs ps qs]

def Ed.eq (p q : Ed) : Bool := p.kind == q.kind && p.idx == q.idx && p.pl.eq q.pl
theorem Ed.eq_iff (p q : Ed) : p.eq q = true ↔ p = q := by
  cases p; cases q; simp [Ed.eq, Pl.eq_iff, and_assoc]
theorem Ed.enc_len (e : Ed) : e.enc.length = 6 := rfl
theorem rdEd {w : World} {ad : Option Addr} {xs : List Ed} (h : SlR w 6 Ed.enc ad xs) {i : Nat} {p : Ed} (hp : xs[i]? = some p) :
    ∃ b off, ad = some ⟨b, off, none⟩ ∧ w.cell? ⟨b, off + i * 6, none⟩ = some (.int .i64 p.kind) ∧ w.cell? ⟨b, off + i * 6 + 1, none⟩ = some (.int .i64 p.idx) ∧
      w.cell? ⟨b, off + i * 6 + 2, none⟩ = some (.int .i64 p.pl.f) ∧ w.cell? ⟨b, off + i * 6 + 3, none⟩ = some (.int .i64 p.pl.t) ∧
      w.cell? ⟨b, off + i * 6 + 4, none⟩ = some (.int .i64 p.pl.d) ∧ w.cell? ⟨b, off + i * 6 + 5, none⟩ = some (.int .i64 p.pl.k) := by
  obtain ⟨b, off, e, hc⟩ := h i p hp
  exact ⟨b, off, e, hc 0 _ rfl, hc 1 _ rfl, hc 2 _ rfl, hc 3 _ rfl, hc 4 _ rfl, hc 5 _ rfl⟩
/-- What is read elsewhere stays behind writes into row g. -/
theorem stay_grown {w w' : World} {g : Nat} (h : w.grownBy w' (some g)) {a : Addr} {v : Value} (hc : w.cell? a = some v) (hne : a.block ≠ g) : w'.cell? a = some v :=
  (World.cell?_of_block (w := w) (h.block _ (World.block_lt_of_cell? _ _ hc) (fun e => hne (Option.some.inj e)))).trans hc
theorem stay_grown' {w w' : World} {r : Option Nat} (h : w.grownBy w' r) {a : Addr} {v : Value} (hc : w.cell? a = some v) (hne : r ≠ some a.block) : w'.cell? a = some v :=
  (World.cell?_of_block (w := w) (h.block _ (World.block_lt_of_cell? _ _ hc) (fun e => hne e.symm))).trans hc
theorem SlR.grown {α : Type} {w w' : World} {k : Nat} {enc : α → List Value} {ad : Option Addr} {xs : List α} {r : Option Nat} (h : SlR w k enc ad xs) (hg : w.grownBy w' r) (hne : ∀ a, ad = some a → r ≠ some a.block) : SlR w' k enc ad xs :=
  fun i x hx => let ⟨b, off, e, hc⟩ := h i x hx; ⟨b, off, e, fun j c hj => stay_grown' hg (hc j c hj) (by simpa using hne _ e)⟩
theorem FlR.grown {w w' : World} {ad : Option Addr} {cs : List Value} {r : Option Nat} (h : FlR w ad cs) (hg : w.grownBy w' r) (hne : ∀ a, ad = some a → r ≠ some a.block) : FlR w' ad cs :=
  fun j c hj => let ⟨b, off, e, hc⟩ := h j c hj; ⟨b, off, e, stay_grown' hg hc (by simpa using hne _ e)⟩
theorem FlR.stay {w w' : World} {ad : Option Addr} {cs : List Value} (h : FlR w ad cs) (hb : Below w.heap.size w w') : FlR w' ad cs :=
  fun j c hj => let ⟨b, off, e, hc⟩ := h j c hj; ⟨b, off, e, Ytemomjcgkpinfaa.stay hb (Nat.le_refl _) hc⟩
theorem FlR.alloc {w : World} {ad : Option Addr} {cs : List Value} (h : FlR w ad cs) (o : Obj) : FlR (w.alloc o) ad cs := h.stay ((Below.refl _ _).alloc (Nat.le_refl _) o)
theorem FlR.drew {w : World} {ad : Option Addr} {cs : List Value} (h : FlR w ad cs) : FlR w.drew ad cs := h.stay (Below.refl _ _).drew
theorem SlR.set {α : Type} {w : World} {k : Nat} {enc : α → List Value} {ad : Option Addr} {xs : List α} {a : Addr} {u : Value} (h : SlR w k enc ad xs) (hne : ∀ b, ad = some b → b.block ≠ a.block) : SlR (w.setCell a u) k enc ad xs :=
  h.grown (r := some a.block) ⟨rfl, rfl, rfl, by simp, fun k _ hk => Below.heap_setCell _ _ _ _ (fun e => hk (by rw [e]))⟩ (fun b hb e => hne b hb (Option.some.inj e).symm)
/-- Behind writes into a row of the call's own all that was there before is as it was. -/
theorem below_of_grown {w0 w w' : World} {r : Option Nat} (h : Below w0.heap.size w0 w) (hg : w.grownBy w' r) (hr : ∀ g, r = some g → w0.heap.size ≤ g) : Below w0.heap.size w0 w' := h.grown hg h.size hr
theorem own_lt' {w : World} {B E k n cap : Nat} {ad : Option Addr} {xs : List Value} (h : w.ownsRow B E k (.slice ad n cap) n xs) : ∀ a, ad = some a → B ≤ a.block ∧ a.block < w.heap.size := by
  intro a e; subst e; exact h.lt a.block rfl
theorem own_grown {w w' : World} {B E k n cap : Nat} {ad : Option Addr} {xs : List Value} {r : Option Nat} (h : w.ownsRow B E k (.slice ad n cap) n xs) (hg : w.grownBy w' r) (hne : ∀ a, ad = some a → r ≠ some a.block) : w'.ownsRow B E k (.slice ad n cap) n xs := by
  refine h.kept hg ?_
  cases ad with
  | none => exact .inl rfl
  | some a => exact .inr (fun e => hne a rfl e.symm)
theorem ownBlock_some {ad : Option Addr} {n cap g : Nat} (h : (Value.slice ad n cap).ownBlock = some g) : ∃ a, ad = some a ∧ a.block = g := by
  cases ad with
  | none => simp [Value.ownBlock] at h
  | some a => exact ⟨a, rfl, by simpa [Value.ownBlock] using h⟩

end Go.Proofs.Ytemomjcgkpinfaa
