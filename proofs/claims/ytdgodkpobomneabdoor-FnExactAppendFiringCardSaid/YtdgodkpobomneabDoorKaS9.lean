/-
  What a text's longest beginning that is a trace is: plain laws.
-/
import Derived.Test.YtdgodkpobomneabDoorKaS17
import Derived.Test.YtdgodkpobomneabDoorKaS8
import Derived.Test.YtdgodkpobomneabDoorKaS4
namespace Go.Proofs.YtdgodkpobomneabDoor
set_option linter.unusedSimpArgs false
set_option linter.unusedVariables false
open Go Go.RowKit

/-- How many firings of an event there are. -/
def cnt (fs : List Fi) (e : Int) : Nat := fs.countP fun f => decide (f.e = e)
theorem cnt_snoc [Mode] {fs : List Fi} {f : Fi} {e : Int} : cnt (fs ++ [f]) e = cnt fs e + if f.e = e then 1 else 0 := by
  simp only [cnt, List.countP_append, List.countP_cons, List.countP_nil, Nat.zero_add]
  by_cases h : f.e = e <;> simp [h]
theorem cnt_le [Mode] (fs : List Fi) (e : Int) : cnt fs e ≤ fs.length := List.countP_le_length
/-- The firings of the longest beginning of a text that is a trace; r: what is left. -/
structure RecOf (s : List UInt8) (fs : List Fi) (r : List UInt8) : Prop where
  len : fs.length ≤ 500
  wr : fs.all wrF = true
  num : ∀ (k : Nat) (f : Fi), fs[k]? = some f → f.n = cnt (fs.take k) f.e + 1
  txt : s = trT 1 fs ++ r
  stop : fs.length < 500 → ∀ f, wrF f = true → ∀ b, r ≠ trN (chA 1 fs) f ++ b
theorem wrA_all [Mode] {fs : List Fi} {k : Nat} (h : fs.all wrF = true) : (fs.take k).all wrF = true := List.all_eq_true.2 fun x hx => List.all_eq_true.1 h x (List.mem_of_mem_take hx)
/-- There is such a beginning. -/
theorem rec_from [Mode] (s : List UInt8) : ∀ (m : Nat) (fs : List Fi) (r : List UInt8), 500 - fs.length = m → fs.length ≤ 500 → fs.all wrF = true → (∀ (k : Nat) (f : Fi), fs[k]? = some f → f.n = cnt (fs.take k) f.e + 1) → s = trT 1 fs ++ r → ∃ fs' r', RecOf s fs' r'
  | 0, fs, r, hm, h1, h2, h3, h4 => ⟨fs, r, h1, h2, h3, h4, fun h => by omega⟩
  | m + 1, fs, r, hm, h1, h2, h3, h4 => by
    by_cases hs : ∀ f, wrF f = true → ∀ b, r ≠ trN (chA 1 fs) f ++ b
    · exact ⟨fs, r, h1, h2, h3, h4, fun _ => hs⟩
    · have : ∃ f b, wrF f = true ∧ r = trN (chA 1 fs) f ++ b := by
        refine Classical.byContradiction fun hn => hs fun f hf b e => hn ⟨f, b, hf, e⟩
      obtain ⟨⟨e, n, t⟩, b, hf, hr⟩ := this
      refine rec_from s m (fs ++ [⟨e, cnt fs e + 1, t⟩]) b (by simp; omega) (by simp; omega) ?_ (fun k f hk => ?_) ?_
      · have hf' : wrF ⟨e, cnt fs e + 1, t⟩ = true := hf
        rw [List.all_append, h2, List.all_cons, hf']; rfl
      · rw [List.getElem?_append] at hk
        split at hk
        · rename_i hlt
          rw [List.take_append_of_le_length (by omega)]
          exact h3 k f hk
        · rename_i hge
          have hk0 : k - fs.length = 0 := by
            have := (List.getElem?_eq_some_iff.1 hk).1
            simp at this; omega
          rw [hk0] at hk
          simp only [List.getElem?_cons_zero, Option.some.injEq] at hk
          subst hk
          have : k = fs.length := by omega
          subst this
          simp
      · rw [h4, hr, trT_snoc, List.append_assoc]; rfl
theorem rec_ex [Mode] (s : List UInt8) : ∃ fs r, RecOf s fs r := rec_from s 500 [] s rfl (by decide) rfl (fun k f h => by simp at h) rfl
/-! Lines and words. -/
theorem trL_no10 [Mode] (c : Int) (f : Fi) : (10 : UInt8) ∉ trL c f := by
  have h : (10 : UInt8).toNat < 48 ∨ 57 < (10 : UInt8).toNat := by decide
  simp only [trL, List.mem_append, List.mem_cons, List.not_mem_nil, or_false, not_or]
  exact ⟨⟨⟨⟨dec_no h, by decide⟩, dec_no h⟩, by decide⟩, dec_no h⟩
theorem spl_words [Mode] (a b c : Nat) : spl 32 (dec a ++ [32] ++ dec b ++ [32] ++ dec c) = [dec a, dec b, dec c] := by
  have h : (32 : UInt8).toNat < 48 ∨ 57 < (32 : UInt8).toNat := by decide
  have e : dec a ++ [32] ++ dec b ++ [32] ++ dec c = dec a ++ 32 :: (dec b ++ 32 :: dec c) := by simp
  rw [e, spl_at (dec_no h), spl_at (dec_no h), spl_no (dec_no h)]
theorem spl_trL [Mode] (c : Int) (f : Fi) : spl 32 (trL c f) = [dec f.e.toNat, dec f.t.toNat, dec (nxI c f).toNat] := spl_words _ _ _
/-- The pieces, joined again. -/
theorem spl_three [Mode] {c : UInt8} {l x y z : List UInt8} (h : spl c l = [x, y, z]) : l = x ++ c :: (y ++ c :: z) := by
  rcases first_byte c l with h1 | ⟨a, b, rfl, h1⟩
  · rw [spl_no h1] at h; simp at h
  · rw [spl_at h1] at h
    simp only [List.cons.injEq] at h
    obtain ⟨rfl, h⟩ := h
    rcases first_byte c b with h2 | ⟨a', b', rfl, h2⟩
    · rw [spl_no h2] at h; simp at h
    · rw [spl_at h2] at h
      simp only [List.cons.injEq] at h
      obtain ⟨rfl, h⟩ := h
      rcases first_byte c b' with h3 | ⟨a'', b'', rfl, h3⟩
      · rw [spl_no h3] at h
        simp only [List.cons.injEq, and_true] at h
        rw [h]
      · rw [spl_at h3] at h
        have := spl_ne (c := c) (l := b'')
        simp only [List.cons.injEq] at h
        exact absurd h.2 this
/-- The lines of a trace. -/
def lnS : Int → List Fi → List (List UInt8)
  | _, [] => []
  | c, f :: fs => trL c f :: lnS (nxI c f) fs
theorem lnS_len [Mode] : ∀ {c : Int} {fs : List Fi}, (lnS c fs).length = fs.length
  | _, [] => rfl
  | c, f :: fs => by rw [lnS, List.length_cons, lnS_len, List.length_cons]
theorem spl_trT [Mode] (r : List UInt8) : ∀ (c : Int) (fs : List Fi), spl 10 (trT c fs ++ r) = lnS c fs ++ spl 10 r
  | _, [] => rfl
  | c, f :: fs => by
    rw [trT, lnS, List.cons_append, ← spl_trT r (nxI c f) fs, ← spl_at (trL_no10 c f)]
    simp [trN]
theorem lnS_get [Mode] : ∀ {c : Int} {fs : List Fi} {k : Nat} {f : Fi}, fs[k]? = some f → (lnS c fs)[k]? = some (trL (chA c (fs.take k)) f)
  | c, [], k, f, h => by simp at h
  | c, g :: fs, 0, f, h => by simp at h; subst h; rfl
  | c, g :: fs, k + 1, f, h => by
    rw [lnS, List.getElem?_cons_succ, List.take_succ_cons, chA]
    exact lnS_get (by simpa using h)
theorem trT_drop [Mode] {c : Int} : ∀ {fs : List Fi} {k : Nat}, (trT c fs).drop (trT c (fs.take k)).length = trT (chA c (fs.take k)) (fs.drop k) := by
  intro fs k
  have key : ∀ (a b : List Fi) (c : Int), trT c (a ++ b) = trT c a ++ trT (chA c a) b := by
    intro a
    induction a with
    | nil => intro b c; rfl
    | cons g a ih => intro b c; rw [List.cons_append, trT, trT, chA, ih, List.append_assoc]
  conv => lhs; rw [← List.take_append_drop k fs, key]
  rw [List.take_append_drop, List.drop_left']
  rfl
end Go.Proofs.YtdgodkpobomneabDoor
