/-
  Plain facts beneath the walks: readings of slices of records, regions walked once, records and their plain functions.
-/
import Derived.WalkKit
import Derived.WalkSpells
import Derived.WalkLawsBesides
import Derived.BigQuiet
import Derived.Lib.Hide
namespace Go.Proofs.Ytemomjcgkpinfaa
open Go.RowKit

theorem ret_bool {a b : Bool} (h : a = b) : Ending.returned (.bool a) = .returned (.bool b) := by rw [h]
theorem ret_int {k : IntKind} {a b : Int} (h : a = b) : Ending.returned (.int k a) = .returned (.int k b) := by rw [h]

/-! ### Regions that draw their order -/
/-- A world in which all that lay in w below block B is as it was. -/
structure Later (B : Nat) (w : World) where
  W : World
  le : Below B w W
instance (B : Nat) (w : World) : Nonempty (Later B w) := ⟨⟨w, Below.refl B w⟩⟩
section
variable {P : Program}
/-- A region of reads and of calls that leave old memory alone: walked once, in the order of the text. -/
theorem wp_region_later {id : Nat} {Q : Exit → Act → World → Prop} {a : Act} {w : World} {l : List Oper} (B : Nat) (hm : P.follows .mixedOrders = true) (hB : Region.lexB .any l.toArray = true)
    (h : wpQuiet P l.toArray (fun w' => ∃ x : Later B w, w' = x.W) (fun a' => ∀ w', (∃ x : Later B w, w' = x.W) → Q .normal a' w') l a) : (Code.region id l.toArray true).wp P Q a w :=
  wp_region_quiet (C := fun w' => ∃ x : Later B w, w' = x.W) hm hB ⟨⟨_, (Below.refl B w).drew⟩, rfl⟩ (by simpa using h)
theorem later_call {f : FuncId} {args : Array Value} {B : Nat} {w : World} {v : Value} {x : Later B w} (hB : B ≤ w.heap.size) (h : Calls P f args x.W fun e w' => e = .returned v ∧ Below x.W.heap.size x.W w') :
    Calls P f args x.W fun e w'' => e = .returned v ∧ ∃ y : Later B w, w'' = y.W :=
  h.mono fun _ w'' ⟨he, hb⟩ => ⟨he, ⟨w'', x.le.trans (hb.mono (Nat.le_trans hB x.le.size))⟩, rfl⟩
theorem later_same {f : FuncId} {args : Array Value} {B : Nat} {w : World} {v : Value} {x : Later B w} (h : Calls P f args x.W fun e w' => e = .returned v ∧ x.W = w') :
    Calls P f args x.W fun e w'' => e = .returned v ∧ ∃ y : Later B w, w'' = y.W :=
  h.mono fun _ w'' ⟨he, hb⟩ => ⟨he, ⟨w'', hb ▸ x.le⟩, rfl⟩
end

/-! ### Cells -/
/-- A cell that is there stays there. -/
theorem stay {B : Nat} {w w' : World} (h : Below B w w') (hB : w.heap.size ≤ B) {a : Addr} {v : Value} (hc : w.cell? a = some v) : w'.cell? a = some v :=
  (h.cell (Nat.lt_of_lt_of_le (World.block_lt_of_cell? _ _ hc) hB)).trans hc
theorem below_trans' {w w' w'' : World} (h : Below w.heap.size w w') (k : Below w'.heap.size w' w'') : Below w.heap.size w w'' := h.trans (k.mono h.size)

theorem bcell {W w1 : World} (hb : Below W.heap.size W w1) : (∀ b o, b < W.heap.size → w1.cell? ⟨b, o, none⟩ = W.cell? ⟨b, o, none⟩) ∧ (∀ b o, b < W.heap.size → w1.frozen? ⟨b, o, none⟩ = W.frozen? ⟨b, o, none⟩) :=
  ⟨fun b o h => hb.cell (p := ⟨b, o, none⟩) h, fun b o h => hb.frozen (p := ⟨b, o, none⟩) h⟩

/-- In the world w the elements of xs lie one behind the other from the address ad on, each in k cells. -/
def SlR {α : Type} (w : World) (k : Nat) (enc : α → List Value) (ad : Option Addr) (xs : List α) : Prop :=
  ∀ (i : Nat) (x : α), xs[i]? = some x → ∃ b off, ad = some ⟨b, off, none⟩ ∧ ∀ (j : Nat) (c : Value), (enc x)[j]? = some c → w.cell? ⟨b, off + i * k + j, none⟩ = some c
theorem SlR.stay {α : Type} {w w' : World} {k : Nat} {enc : α → List Value} {ad : Option Addr} {xs : List α} (h : SlR w k enc ad xs) (hb : Below w.heap.size w w') : SlR w' k enc ad xs :=
  fun i x hx => let ⟨b, off, e, hc⟩ := h i x hx; ⟨b, off, e, fun j c hj => Ytemomjcgkpinfaa.stay hb (Nat.le_refl _) (hc j c hj)⟩
theorem SlR.alloc {α : Type} {w : World} {k : Nat} {enc : α → List Value} {ad : Option Addr} {xs : List α} (h : SlR w k enc ad xs) (o : Obj) : SlR (w.alloc o) k enc ad xs :=
  h.stay ((Below.refl _ _).alloc (Nat.le_refl _) o)
theorem SlR.drew {α : Type} {w : World} {k : Nat} {enc : α → List Value} {ad : Option Addr} {xs : List α} (h : SlR w k enc ad xs) : SlR w.drew k enc ad xs := h.stay (Below.refl _ _).drew
theorem SlR.nil {α : Type} (w : World) (k : Nat) (enc : α → List Value) (ad : Option Addr) : SlR w k enc ad [] := fun i x h => by simp at h

theorem flat_at {α β : Type} {k : Nat} {enc : α → List β} (he : ∀ x, (enc x).length = k) : ∀ {xs : List α} {i j : Nat} {x : α} {c : β}, xs[i]? = some x → (enc x)[j]? = some c → (xs.flatMap enc)[i * k + j]? = some c
  | [], i, j, x, c, h, _ => by simp at h
  | y :: ys, 0, j, x, c, h, hc => by
    simp at h; subst h
    simp only [List.flatMap_cons, Nat.zero_mul, Nat.zero_add]
    rw [List.getElem?_append_left (List.getElem?_eq_some_iff.1 hc).1]; exact hc
  | y :: ys, i + 1, j, x, c, h, hc => by
    simp at h
    have := flat_at he h hc
    simp only [List.flatMap_cons]
    rw [List.getElem?_append_right (by rw [he, Nat.succ_mul]; omega), he, show (i + 1) * k + j - k = i * k + j by rw [Nat.succ_mul]; omega]
    exact this
/-- What a row of the call's own reads as. -/
theorem own_slr {α : Type} {w : World} {B E k : Nat} {enc : α → List Value} {ad : Option Addr} {cap : Nat} {xs : List α} (he : ∀ x, (enc x).length = k)
    (h : w.ownsRow B E k (.slice ad xs.length cap) xs.length (xs.flatMap enc)) : SlR w k enc ad xs := by
  intro i x hx
  rcases h.2 with ⟨hv, hn⟩ | ⟨g, cap', cur, hv, hg, hh, r⟩
  · rw [List.length_eq_zero_iff.1 hn] at hx; simp at hx
  · simp only [Value.slice.injEq] at hv
    obtain ⟨rfl, _, rfl⟩ := hv
    refine ⟨g, 0, rfl, fun j c hj => ?_⟩
    have hi := (List.getElem?_eq_some_iff.1 hx).1
    have hjk : j < k := by rw [← he x]; exact (List.getElem?_eq_some_iff.1 hj).1
    have hlt : i * k + j < xs.length * k := by
      have : (i + 1) * k ≤ xs.length * k := Nat.mul_le_mul_right _ hi
      rw [Nat.succ_mul] at this; omega
    rw [show 0 + i * k + j = i * k + j by omega, h.cellAt _ hlt]
    exact flat_at he hx hj

/-- What a store of four cells into a row makes of the list. -/
theorem set4 {α : Type} (z0 z1 z2 z3 a b c d : α) (B : List α) : ∀ (A : List α) (i : Nat), A.length = i → ((((A ++ z0 :: z1 :: z2 :: z3 :: B).set i a).set (i + 1) b).set (i + 2) c).set (i + 3) d = A ++ a :: b :: c :: d :: B
  | [], i, h => by simp at h; subst h; rfl
  | x :: A, i, h => by
    obtain ⟨i, rfl⟩ : ∃ j, i = j + 1 := ⟨A.length, by simpa using h.symm⟩
    have := set4 z0 z1 z2 z3 a b c d B A i (by simpa using h)
    simp only [List.cons_append, List.set_cons_succ, Nat.add_right_comm i 1] at this ⊢
    rw [this]
theorem flat_rep {z : List Value} {k : Nat} (hz : z.length = k) (hk : 0 < k) : ∀ (n j : Nat), j < n * k → (List.replicate n z).flatten[j]? = some (z.toArray[j % k]!)
  | 0, j, h => by omega
  | n + 1, j, h => by
    rw [List.replicate_succ, List.flatten_cons]
    by_cases hj : j < k
    · rw [List.getElem?_append_left (by omega), Nat.mod_eq_of_lt hj]
      simp [hz, hj]
    · rw [List.getElem?_append_right (by omega), hz, flat_rep hz hk n (j - k) (by rw [Nat.succ_mul] at h; omega), Nat.mod_eq_sub_mod (by omega : j ≥ k)]
theorem made_flat {z : List Value} {k : Nat} (hz : z.length = k) (hk : 0 < k) (n : Nat) : (madeCells z.toArray (n * k)).toList = (List.replicate n z).flatten := by
  apply List.ext_getElem?
  intro j
  by_cases hj : j < n * k
  · rw [flat_rep hz hk n j hj]; simp [madeCells, hj, hz]
  · rw [List.getElem?_eq_none (by simp [madeCells]; omega), List.getElem?_eq_none (by simp [hz]; omega)]
theorem own_below {w w' : World} {B E k n : Nat} {v : Value} {xs : List Value} (h : w.ownsRow B E k v n xs) (hb : Below w.heap.size w w') : w'.ownsRow B E k v n xs :=
  h.kept (row := none) ⟨hb.os, hb.tape, hb.output, hb.size, fun k hk _ => hb.block k hk⟩ (by cases v.ownBlock <;> simp)
/-- The cells of a row of the call's own are there. -/
theorem own_some {w : World} {B E k g n cap : Nat} {xs : List Value} (h : w.ownsRow B E k (.slice (some ⟨g, 0, none⟩) n cap) n xs) {j : Nat} (hj : j < n * k) : ∃ v, w.cell? ⟨g, j, none⟩ = some v := by
  rw [h.cellAt j hj]
  exact ⟨_, List.getElem?_eq_getElem (by rw [h.1]; exact hj)⟩
theorem own_lt {w : World} {B E k g n cap : Nat} {xs : List Value} (h : w.ownsRow B E k (.slice (some ⟨g, 0, none⟩) n cap) n xs) : B ≤ g ∧ g < w.heap.size := h.lt g rfl
theorem own_set4 {w : World} {B E k g n cap : Nat} {xs : List Value} (h : w.ownsRow B E k (.slice (some ⟨g, 0, none⟩) n cap) n xs) (j : Nat) (a b c d : Value) :
    ((((w.setCell ⟨g, j, none⟩ a).setCell ⟨g, j + 1, none⟩ b).setCell ⟨g, j + 2, none⟩ c).setCell ⟨g, j + 3, none⟩ d).ownsRow B E k (.slice (some ⟨g, 0, none⟩) n cap) n ((((xs.set j a).set (j + 1) b).set (j + 2) c).set (j + 3) d) :=
  ((((h.stored j a).1.stored (j + 1) b).1.stored (j + 2) c).1.stored (j + 3) d).1
theorem own_mono {w : World} {B B' E k n : Nat} {v : Value} {xs : List Value} (h : w.ownsRow B E k v n xs) (hB : B' ≤ B) : w.ownsRow B' E k v n xs :=
  ⟨h.1, h.2.imp id fun ⟨g, cap, cur, hv, hb, r⟩ => ⟨g, cap, cur, hv, Nat.le_trans hB hb, r⟩⟩
theorem own_set {w : World} {B E k g n cap : Nat} {xs : List Value} {a : Addr} {u : Value} (h : w.ownsRow B E k (.slice (some ⟨g, 0, none⟩) n cap) n xs) (hne : g ≠ a.block) : (w.setCell a u).ownsRow B E k (.slice (some ⟨g, 0, none⟩) n cap) n xs :=
  h.kept (row := some a.block) ⟨rfl, rfl, rfl, by simp, fun k _ hk => Below.heap_setCell _ _ _ _ (fun e => hk (by rw [e]))⟩ (.inr (by simpa [Value.ownBlock] using hne))
theorem own_drew {w : World} {B E k n : Nat} {v : Value} {xs : List Value} (h : w.ownsRow B E k v n xs) : w.drew.ownsRow B E k v n xs := own_below h (Below.refl _ _).drew
theorem below_grown {w w' : World} (h : w.grownBy w' none) : Below w.heap.size w w' := ⟨h.os, h.tape, h.output, h.size, fun k hk => h.block k hk (by simp)⟩
/-- The cells of a row in whose first k elements records have been stored, n - k being zero still. -/
def fill {α : Type} (enc : α → List Value) (z : List Value) (xs : List α) (k : Nat) : List Value := (xs.take k).flatMap enc ++ (List.replicate (xs.length - k) z).flatten
theorem fill_end {α : Type} (enc : α → List Value) (z : List Value) (xs : List α) : fill enc z xs xs.length = xs.flatMap enc := by simp [fill]
theorem flat_len {α β : Type} {k : Nat} {enc : α → List β} (he : ∀ x, (enc x).length = k) : ∀ xs : List α, (xs.flatMap enc).length = xs.length * k
  | [] => by simp
  | x :: xs => by rw [List.flatMap_cons, List.length_append, he, flat_len he xs, List.length_cons, Nat.succ_mul, Nat.add_comm]
theorem fill_split {α : Type} {enc : α → List Value} {z : List Value} {xs : List α} {k : Nat} (hk : k < xs.length) :
    fill enc z xs k = (xs.take k).flatMap enc ++ (z ++ (List.replicate (xs.length - (k + 1)) z).flatten) := by
  unfold fill
  rw [show xs.length - k = (xs.length - (k + 1)) + 1 by omega, List.replicate_succ, List.flatten_cons]
theorem fill_succ {α : Type} {enc : α → List Value} {z : List Value} {xs : List α} {k : Nat} {x : α} (hx : xs[k]? = some x) :
    fill enc z xs (k + 1) = (xs.take k).flatMap enc ++ (enc x ++ (List.replicate (xs.length - (k + 1)) z).flatten) := by
  unfold fill
  rw [List.take_add_one, hx]
  simp

/-! ### Marks -/
/-- The cells cs lie one behind the other from the address ad on. -/
def FlR (w : World) (ad : Option Addr) (cs : List Value) : Prop :=
  ∀ (j : Nat) (c : Value), cs[j]? = some c → ∃ b off, ad = some ⟨b, off, none⟩ ∧ w.cell? ⟨b, off + j, none⟩ = some c
theorem flr_at {w : World} {ad : Option Addr} {cs : List Value} (h : FlR w ad cs) {m c : Nat} (hm : m + c ≤ cs.length) (hc : 0 < c := by decide) : ∃ b off, ad = some ⟨b, off, none⟩ ∧ ∀ j, j < c → ∀ v, cs[m + j]? = some v → w.cell? ⟨b, off + m + j, none⟩ = some v := by
  obtain ⟨b, off, e, _⟩ := h m _ (List.getElem?_eq_getElem (by omega))
  refine ⟨b, off, e, fun j hj v hv => ?_⟩
  obtain ⟨b', off', e', h'⟩ := h (m + j) v hv
  rw [e] at e'
  simp only [Option.some.injEq, Addr.mk.injEq, and_true] at e'
  obtain ⟨rfl, rfl⟩ := e'
  rw [Nat.add_assoc]; exact h'
theorem own_flr {w : World} {B E k n cap : Nat} {ad : Option Addr} {cs : List Value} (h : w.ownsRow B E k (.slice ad n cap) n cs) : FlR w ad cs := by
  intro j c hj
  have hlen := h.1
  have hjl := (List.getElem?_eq_some_iff.1 hj).1
  rcases h.2 with ⟨_, hn⟩ | ⟨g, cap', cur, hv, _⟩
  · subst hn; omega
  · simp only [Value.slice.injEq, true_and] at hv
    obtain ⟨rfl, rfl⟩ := hv
    exact ⟨g, 0, rfl, by rw [Nat.zero_add, h.cellAt j (by omega)]; exact hj⟩
def marks (k : Int) (n : Nat) : List Value := (List.range n).map fun i : Nat => Value.int .i64 (k + (i : Int))
theorem marks_len (k : Int) (n : Nat) : (marks k n).length = n := by simp [marks]
theorem marks_at {k : Int} {n m : Nat} (h : m < n) : (marks k n)[m]? = some (.int .i64 (k + (m : Int))) := by simp [marks, h]
theorem marks_succ (k : Int) (n : Nat) : marks k (n + 1) = marks k n ++ [.int .i64 (k + (n : Int))] := by simp [marks, List.range_succ]
theorem marks_set {k v : Int} {m : Nat} {cs : List Value} (h : m < cs.length) (hv : v = k + (m : Int)) : (marks k m ++ cs.drop m).set m (.int .i64 v) = marks k (m + 1) ++ cs.drop (m + 1) := by
  subst hv
  rw [List.set_append_right _ _ (by rw [marks_len]; exact Nat.le_refl _), marks_len, Nat.sub_self, marks_succ, List.drop_eq_getElem_cons h, List.set_cons_zero]
  simp
theorem grown_rfl (w : World) (r : Option Nat) : w.grownBy w r := ⟨rfl, rfl, rfl, Nat.le_refl _, fun _ _ _ => rfl⟩
theorem grown_set {w w' : World} {g : Nat} (h : w.grownBy w' (some g)) {a : Addr} {u : Value} (ha : a.block = g) : w.grownBy (w'.setCell a u) (some g) :=
  ⟨h.os, h.tape, h.output, by simpa using h.size, fun k hk hne => (Below.heap_setCell _ _ _ _ (fun e => hne (by rw [e, ha]))).trans (h.block k hk hne)⟩
theorem grown_trans {w w' w'' : World} {r : Option Nat} (h : w.grownBy w' r) (k : w'.grownBy w'' r) : w.grownBy w'' r :=
  ⟨k.os.trans h.os, k.tape.trans h.tape, k.output.trans h.output, Nat.le_trans h.size k.size, fun j hj hne => (k.block j (Nat.lt_of_lt_of_le hj h.size) hne).trans (h.block j hj hne)⟩
theorem grown_below {w w' : World} (h : Below w.heap.size w w') (r : Option Nat) : w.grownBy w' r := ⟨h.os, h.tape, h.output, h.size, fun k hk _ => h.block k hk⟩

/-! ### Records -/
structure Pl where
  f : Int
  t : Int
  d : Int
  k : Int
instance : Inhabited Pl := ⟨⟨0, 0, 0, 0⟩⟩
def Pl.enc (p : Pl) : List Value := [.int .i64 p.f, .int .i64 p.t, .int .i64 p.d, .int .i64 p.k]
def Pl.val (p : Pl) : Value := .agg #[.int .i64 p.f, .int .i64 p.t, .int .i64 p.d, .int .i64 p.k]
def Pl.eq (p q : Pl) : Bool := p.f == q.f && p.t == q.t && p.d == q.d && p.k == q.k
theorem Pl.eq_iff (p q : Pl) : p.eq q = true ↔ p = q := by
  cases p; cases q; simp [Pl.eq, and_assoc]
theorem Pl.eq_rfl (p : Pl) : p.eq p = true := (Pl.eq_iff p p).2 rfl
/-- The cells of place number i. -/
theorem rdPl {w : World} {ad : Option Addr} {xs : List Pl} (h : SlR w 4 Pl.enc ad xs) {i : Nat} {p : Pl} (hp : xs[i]? = some p) :
    ∃ b off, ad = some ⟨b, off, none⟩ ∧ w.cell? ⟨b, off + i * 4, none⟩ = some (.int .i64 p.f) ∧ w.cell? ⟨b, off + i * 4 + 1, none⟩ = some (.int .i64 p.t) ∧
      w.cell? ⟨b, off + i * 4 + 2, none⟩ = some (.int .i64 p.d) ∧ w.cell? ⟨b, off + i * 4 + 3, none⟩ = some (.int .i64 p.k) := by
  obtain ⟨b, off, e, hc⟩ := h i p hp
  exact ⟨b, off, e, hc 0 _ rfl, hc 1 _ rfl, hc 2 _ rfl, hc 3 _ rfl⟩

theorem Pl.enc_len (p : Pl) : p.enc.length = 4 := rfl
def Pl.zs : List Value := [.int .i64 0, .int .i64 0, .int .i64 0, .int .i64 0]
theorem fill4 {xs : List Pl} {k : Nat} {p : Pl} (hp : xs[k]? = some p) :
    ((((fill Pl.enc Pl.zs xs k).set (k * 4) (.int .i64 p.f)).set (k * 4 + 1) (.int .i64 p.t)).set (k * 4 + 2) (.int .i64 p.d)).set (k * 4 + 3) (.int .i64 p.k) = fill Pl.enc Pl.zs xs (k + 1) := by
  have hk := (List.getElem?_eq_some_iff.1 hp).1
  rw [fill_split hk, fill_succ hp]
  exact set4 _ _ _ _ _ _ _ _ _ _ _ (by rw [flat_len Pl.enc_len, List.length_take]; omega)

def eqPls : List Pl → List Pl → Bool
  | [], [] => true
  | p :: ps, q :: qs => p.eq q && eqPls ps qs
  | _, _ => false
theorem eqPls_iff : ∀ (ps qs : List Pl), eqPls ps qs = true ↔ ps = qs
  | [], [] => by simp [eqPls]
  | [], _ :: _ => by simp [eqPls]
  | _ :: _, [] => by simp [eqPls]
  | p :: ps, q :: qs => by simp [eqPls, Pl.eq_iff, eqPls_iff ps qs]
theorem eqPls_len {ps qs : List Pl} (h : ps.length ≠ qs.length) : eqPls ps qs = false := by
  rw [Bool.eq_false_iff]; intro e; exact h (by rw [(eqPls_iff _ _).1 e])
theorem eqPls_drop {ps qs : List Pl} {k : Nat} {p q : Pl} (hp : ps[k]? = some p) (hq : qs[k]? = some q) : eqPls (ps.drop k) (qs.drop k) = (p.eq q && eqPls (ps.drop (k + 1)) (qs.drop (k + 1))) := by
  obtain ⟨h1, rfl⟩ := List.getElem?_eq_some_iff.1 hp
  obtain ⟨h2, rfl⟩ := List.getElem?_eq_some_iff.1 hq
  rw [List.drop_eq_getElem_cons h1, List.drop_eq_getElem_cons h2]; rfl
theorem eqPls_end {ps qs : List Pl} {k : Nat} (hp : ps.length ≤ k) (hq : qs.length ≤ k) : eqPls (ps.drop k) (qs.drop k) = true := by
  rw [List.drop_of_length_le hp, List.drop_of_length_le hq]; rfl

structure Ed where
  kind : Int
  idx : Int
  pl : Pl
instance : Inhabited Ed := ⟨⟨0, 0, ⟨0, 0, 0, 0⟩⟩⟩
def Ed.enc (e : Ed) : List Value := [.int .i64 e.kind, .int .i64 e.idx, .int .i64 e.pl.f, .int .i64 e.pl.t, .int .i64 e.pl.d, .int .i64 e.pl.k]
def Ed.val (e : Ed) : Value := .agg #[.int .i64 e.kind, .int .i64 e.idx, .int .i64 e.pl.f, .int .i64 e.pl.t, .int .i64 e.pl.d, .int .i64 e.pl.k]

/-! ### The plain functions -/
def wi (n lo hi : Int) : Bool := decide (lo ≤ n) && decide (n ≤ hi)
theorem wi_iff {n lo hi : Int} : wi n lo hi = true ↔ lo ≤ n ∧ n ≤ hi := by simp [wi]
/-- m: the number of the last event. -/
def plB (m : Int) (p : Pl) : Bool := wi p.f 0 m && wi p.t 0 m && wi p.d 0 1000 && wi p.k 0 5
def isEG (ev : Int) (ps : List Pl) : Bool := wi ev 1 10 && decide (ps.length ≤ 30) && ps.all (plB (ev - 1))
theorem isEG_w (ev : Int) (ps : List Pl) : (ps.all (plB (wrap64 (ev - 1))) && (wi ev 1 10 && decide (ps.length ≤ 30))) = isEG ev ps := by
  by_cases h : wi ev 1 10 = true
  · have h' := wi_iff.1 h
    rw [IntWalk.wrap64_in (ev - 1) ⟨by omega, by omega⟩, isEG, Bool.and_comm]
  · simp [isEG, h]
theorem all_step {α : Type} {f : α → Bool} {xs : List α} {k : Nat} {x : α} (hx : xs[k]? = some x) (h : xs.all f = (xs.drop k).all f) (hf : f x = true) : xs.all f = (xs.drop (k + 1)).all f := by
  obtain ⟨h1, rfl⟩ := List.getElem?_eq_some_iff.1 hx
  rw [h, List.drop_eq_getElem_cons h1, List.all_cons, hf, Bool.true_and]
theorem all_no {α : Type} {f : α → Bool} {xs : List α} {k : Nat} {x : α} (hx : xs[k]? = some x) (hf : f x = false) : xs.all f = false := by
  rw [List.all_eq_false]; exact ⟨x, List.mem_of_getElem? hx, by simp [hf]⟩
theorem all_end {α : Type} {f : α → Bool} {xs : List α} (h : xs.all f = (xs.drop xs.length).all f) : xs.all f = true := by rw [h]; simp
def plZ : Pl := ⟨0, 0, 0, 0⟩
def canEd (ev : Int) (ps : List Pl) (e : Ed) : Bool :=
  if e.kind = 1 then wi e.idx 0 ps.length && plB (ev - 1) e.pl && decide (ps.length < 30)
  else if e.kind = 2 then wi e.idx 0 ((ps.length : Int) - 1) && e.pl.eq plZ
  else if e.kind = 3 then wi e.idx 0 ((ps.length : Int) - 1) && plB (ev - 1) e.pl
  else false

end Go.Proofs.Ytemomjcgkpinfaa
