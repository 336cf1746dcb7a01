/-
  The laws' arguments, opened: what a place, an edit, a graph reads as.
-/
import Derived.Test.YtlgejkkbnpjeoaaProg
import Derived.Test.YtlgejkkbnpjeoaaKA1
import Derived.ProofKit
import Derived.Deep.Slices
namespace Go.Proofs.Ytlgejkkbnpjeoaa
set_option linter.unusedSimpArgs false
set_option linter.unusedVariables false
open Go.RowKit Go.ChangeShapes Go.WideShapes Go.Deep

section
variable {H : Type} {enc : TypeId × Value → H} {w : World} {base : Nat} {spare : Nat → Bool} {held : Bool} {fuel : Nat} {cs : List Value} {x : DataW H × List MemPlace}
theorem c_int64 : Try.prog.cellsOf 2 = 1 := by kernel_rfl
/-- A field that is an integer: its cell. -/
theorem fld {cs : List Value} {off : Nat} {r : Option (DataW H × List MemPlace)} (hr : ∃ y, r = some y) (h : DataW.trod enc Try.prog w base spare held fuel 2 ((cs.drop off).take (Try.prog.cellsOf 2)) = r) : ∃ n : Int, cs[off]? = some (.int .i64 n) := by
  obtain ⟨y, rfl⟩ := hr
  obtain ⟨n, e, _⟩ := DataW.trod_int Try.underlying2 h
  rw [c_int64] at e
  refine ⟨n, ?_⟩
  have : (cs.drop off)[0]? = some (.int .i64 n) := by
    have h1 : ((cs.drop off).take 1)[0]? = some (.int .i64 n) := by rw [e]; rfl
    rw [List.getElem?_take] at h1
    simpa using h1
  simpa using this
theorem get_some {α : Type} {xs : List α} {n i : Nat} (h : xs.length = n) (hi : i < n) : ∃ y, xs[i]? = some y := ⟨_, List.getElem?_eq_getElem (h ▸ hi)⟩
set_option maxRecDepth 100000 in
theorem rd_place (h : DataW.trod enc Try.prog w base spare held fuel 108 cs = some x) : ∃ p : Pl, cs = p.enc := by
  obtain ⟨xs, n, _, _, hl, hx, hf⟩ := DataW.trod_struct Try.underlying108 h
  rw [show Try.prog.cellsOf 108 = 4 by kernel_rfl] at hl
  obtain ⟨a, ha⟩ := fld (get_some hx (by decide)) (hf 0 _ rfl)
  obtain ⟨b, hb⟩ := fld (get_some hx (by decide)) (hf 1 _ rfl)
  obtain ⟨c, hc⟩ := fld (get_some hx (by decide)) (hf 2 _ rfl)
  obtain ⟨d, hd⟩ := fld (get_some hx (by decide)) (hf 3 _ rfl)
  match cs, hl with
  | [c0, c1, c2, c3], _ =>
    simp at ha hb hc hd
    subst ha hb hc hd
    exact ⟨⟨a, b, c, d⟩, rfl⟩
/-- A slice of records that came in. -/
theorem rd_slice {α : Type} [Inhabited α] {k : Nat} {t e : TypeId} {enc' : α → List Value} (ht : Try.prog.underlying t = some (.slice e)) (hk : Try.prog.cellsOf e = k) (hk0 : 0 < k) (he : ∀ x, (enc' x).length = k)
    (hrd : ∀ {fuel : Nat} {cs : List Value} {x : DataW H × List MemPlace}, DataW.trod enc Try.prog w base spare held fuel e cs = some x → ∃ p : α, cs = enc' p)
    (h : DataW.trod enc Try.prog w base spare held fuel t cs = some x) : ∃ (a : Option Addr) (xs : List α) (cap : Nat), cs = [.slice a xs.length cap] ∧ xs.length ≤ maxLen ∧ xs.length ≤ cap ∧ SlR w k enc' a xs := by
  rcases open_slice ht h with ⟨hc, _⟩ | ⟨a, len, cap, m, n, D, Q, hc, _, hl, hm, hmm, _, hi⟩
  · exact ⟨none, [], 0, hc, Nat.zero_le _, Nat.zero_le _, SlR.nil _ _ _ _⟩
  · have hlm : len ≤ m := by rw [hmm]; split <;> omega
    obtain ⟨f, hf⟩ := choose_lt (α := α) (p := fun i p => w.cells? base (a.add (i * k)) k = some (enc' p)) (n := len) (fun i hi' => by
      obtain ⟨cs', h1, h2⟩ := hi i (by omega)
      obtain ⟨p, rfl⟩ := hrd h2
      rw [hk] at h1
      exact ⟨p, h1⟩)
    refine ⟨some a, (List.range len).map f, cap, by rw [hc]; simp, by simp; omega, by simp; omega, ?_⟩
    intro i x hx
    simp only [List.getElem?_map, Option.map_eq_some_iff] at hx
    obtain ⟨i', hi', rfl⟩ := hx
    obtain ⟨hlt, e1⟩ := List.getElem?_eq_some_iff.1 hi'
    simp at hlt e1
    subst e1
    obtain ⟨_, _, hcell⟩ := World.cells?_some (hf i hlt)
    have hsp : a.spot = none := by
      obtain ⟨_, _, hc0⟩ := World.cells?_some (hf 0 (by omega))
      have h0 := hc0 0 hk0
      rw [List.getElem?_eq_getElem (by rw [he]; exact hk0)] at h0
      cases hs : a.spot with
      | none => rfl
      | some s =>
        exfalso
        simp [Addr.add, World.cell?, hs] at h0
        split at h0 <;> simp at h0
    obtain ⟨b, off, sp⟩ := a
    simp only at hsp
    subst hsp
    refine ⟨b, off, rfl, fun j c hj => ?_⟩
    have hjk : j < k := by rw [← he (f i)]; exact (List.getElem?_eq_some_iff.1 hj).1
    have := hcell j hjk
    rw [hj] at this
    have e : (Addr.add (Addr.add ⟨b, off, none⟩ (i * k)) j) = ⟨b, off + i * k + j, none⟩ := by
      simp only [Addr.add]
      by_cases h1 : i * k = 0 <;> by_cases h2 : j = 0 <;> simp [h1, h2]
    rw [← this, e]
set_option maxRecDepth 100000 in
theorem rd_graph (h : DataW.trod enc Try.prog w base spare held fuel 24 cs = some x) : ∃ (ev : Int) (a : Option Addr) (xs : List Pl) (cap : Nat), cs = [.int .i64 ev, .slice a xs.length cap] ∧ xs.length ≤ maxLen ∧ xs.length ≤ cap ∧ SlR w 4 Pl.enc a xs := by
  obtain ⟨xs, n, _, _, hl, hx, hf⟩ := DataW.trod_struct Try.underlying24 h
  rw [show Try.prog.cellsOf 24 = 2 by kernel_rfl] at hl
  obtain ⟨a, ha⟩ := fld (get_some hx (by decide)) (hf 0 _ rfl)
  obtain ⟨y, hy⟩ := get_some hx (i := 1) (by decide)
  obtain ⟨ad, ps, cap, hp, hm, hcap, hr⟩ := rd_slice Try.underlying22 (k := 4) (by kernel_rfl) (by decide) Pl.enc_len rd_place ((hf 1 _ rfl).trans hy)
  replace hp : (cs.drop 1).take (Try.prog.cellsOf 22) = [.slice ad ps.length cap] := hp
  rw [show Try.prog.cellsOf 22 = 1 by kernel_rfl] at hp
  match cs, hl with
  | [c0, c1], _ =>
    simp at ha hp
    subst ha hp
    exact ⟨a, ad, ps, cap, rfl, hm, hcap, hr⟩
set_option maxRecDepth 100000 in
/-- A struct by value. -/
theorem rd_agg {r : Reach} {b0 : Nat} {t : TypeId} {fs : Array Field} {v : Value} {d : DataW H} {p : List MemPlace} (ht : Try.prog.underlying t = some (.struct fs)) (hv : Value.okWide Try.prog w r b0 t v) (h : DataW.Trod enc Try.prog w base spare held t v d p) :
    ∃ (cs : List Value) (fuel : Nat), v = .agg cs.toArray ∧ DataW.trod enc Try.prog w base spare held fuel t cs = some (d, p) := by
  obtain ⟨cs, rfl, _⟩ := okWide_struct ht hv
  obtain ⟨fuel, hf⟩ := h
  exact ⟨cs.toList, fuel, by simp, by simpa [Value.cells] using hf⟩
end
end Go.Proofs.Ytlgejkkbnpjeoaa
