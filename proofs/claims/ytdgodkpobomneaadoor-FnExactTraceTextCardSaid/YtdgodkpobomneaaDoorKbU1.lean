/-
  Walks in the abstract reading, part 1.
-/
import Derived.Test.YtdgodkpobomneaaDoorProg
import Derived.Test.YtdgodkpobomneaaDoorKbA1
import Derived.ProofKit
import Derived.Deep.Slices
import Derived.Test.YtdgodkpobomneaaDoorKbA2
import Derived.Shelf.LaysM
import Derived.Shelf.LaysC
import Derived.Shelf.Strings.Builder1
import Derived.Shelf.Strconv.Itoa4
import Derived.Shelf.Strconv.ParseIntPublic10
import Derived.Shelf.Strings.Cut
import Derived.Shelf.Strings.Split
import Derived.Lib.ItoaNum
import Derived.Lib.ParseIntB
import Derived.Lib.Split
import Derived.Test.YtdgodkpobomneaaDoorKbA3
import Derived.Lib.AppendIntMem
import Derived.Lib.AtoiErrMem
section
namespace Go.Proofs.YtdgodkpobomneaaDoor
set_option linter.unusedSimpArgs false
set_option linter.unusedVariables false
open Go.RowKit Go.ChangeShapes Go.WideShapes Go.Deep

section
variable {H : Type} {enc : TypeId × Value → H} {w : World} {base : Nat} {spare : Nat → Bool} {held : Bool} {fuel : Nat} {cs : List Value} {x : DataW H × List MemPlace}
theorem c_int64 : Tryd.prog.cellsOf 2 = 1 := by kernel_rfl
/-- A field that is an integer: its cell. -/
theorem fld {cs : List Value} {off : Nat} {r : Option (DataW H × List MemPlace)} (hr : ∃ y, r = some y) (h : DataW.trod enc Tryd.prog w base spare held fuel 2 ((cs.drop off).take (Tryd.prog.cellsOf 2)) = r) : ∃ n : Int, cs[off]? = some (.int .i64 n) := by
  obtain ⟨y, rfl⟩ := hr
  obtain ⟨n, e, _⟩ := DataW.trod_int Tryd.underlying2 h
  rw [c_int64] at e
  refine ⟨n, ?_⟩
  have : (cs.drop off)[0]? = some (.int .i64 n) := by
    have h1 : ((cs.drop off).take 1)[0]? = some (.int .i64 n) := by rw [e]; rfl
    rw [List.getElem?_take] at h1
    simpa using h1
  simpa using this
theorem get_some {α : Type} {xs : List α} {n i : Nat} (h : xs.length = n) (hi : i < n) : ∃ y, xs[i]? = some y := ⟨_, List.getElem?_eq_getElem (h ▸ hi)⟩
/-- A slice of records that came in. -/
theorem rd_slice {α : Type} [Inhabited α] {k : Nat} {t e : TypeId} {enc' : α → List Value} (ht : Tryd.prog.underlying t = some (.slice e)) (hk : Tryd.prog.cellsOf e = k) (hk0 : 0 < k) (he : ∀ x, (enc' x).length = k)
    (hrd : ∀ {fuel : Nat} {cs : List Value} {x : DataW H × List MemPlace}, DataW.trod enc Tryd.prog w base spare held fuel e cs = some x → ∃ p : α, cs = enc' p)
    (h : DataW.trod enc Tryd.prog w base spare held fuel t cs = some x) : ∃ (a : Option Addr) (xs : List α) (cap : Nat), cs = [.slice a xs.length cap] ∧ xs.length ≤ maxLen ∧ xs.length ≤ cap ∧ SlR w k enc' a xs := by
  rcases open_slice ht h with ⟨hc, _⟩ | ⟨a, len, cap, m, n, D, Q, hc, _, hl, hm, hmm, _, hi⟩
  · exact ⟨none, [], 0, hc, Nat.zero_le _, Nat.zero_le _, SlR.nil _ _ _ _⟩
  · have hlm : len ≤ m := by rw [hmm]; split <;> omega
    obtain ⟨f, hf⟩ := choose_lt (α := α) (p := fun i p => w.cells? base (a.add (i * k)) k = some (enc' p)) (n := len) (fun i hi' => by
      obtain ⟨cs', h1, h2⟩ := hi i (by omega)
      obtain ⟨p, rfl⟩ := hrd h2
      rw [hk] at h1
      exact ⟨p, h1⟩)
    refine ⟨some a, (List.range len).map f, cap, by rw [hc]; simp, by simp; omega, by simp; omega, ?_⟩
    intro i x hx
    simp only [List.getElem?_map, Option.map_eq_some_iff] at hx
    obtain ⟨i', hi', rfl⟩ := hx
    obtain ⟨hlt, e1⟩ := List.getElem?_eq_some_iff.1 hi'
    simp at hlt e1
    subst e1
    obtain ⟨_, _, hcell⟩ := World.cells?_some (hf i hlt)
    have hsp : a.spot = none := by
      obtain ⟨_, _, hc0⟩ := World.cells?_some (hf 0 (by omega))
      have h0 := hc0 0 hk0
      rw [List.getElem?_eq_getElem (by rw [he]; exact hk0)] at h0
      cases hs : a.spot with
      | none => rfl
      | some s =>
        exfalso
        simp [Addr.add, World.cell?, hs] at h0
        split at h0 <;> simp at h0
    obtain ⟨b, off, sp⟩ := a
    simp only at hsp
    subst hsp
    refine ⟨b, off, rfl, fun j c hj => ?_⟩
    have hjk : j < k := by rw [← he (f i)]; exact (List.getElem?_eq_some_iff.1 hj).1
    have := hcell j hjk
    rw [hj] at this
    have e : (Addr.add (Addr.add ⟨b, off, none⟩ (i * k)) j) = ⟨b, off + i * k + j, none⟩ := by
      simp only [Addr.add]
      by_cases h1 : i * k = 0 <;> by_cases h2 : j = 0 <;> simp [h1, h2]
    rw [← this, e]
end
end Go.Proofs.YtdgodkpobomneaaDoor
end

section
namespace Go.Proofs.YtdgodkpobomneaaDoor
open Go Go.RowKit
set_option linter.unusedSimpArgs false
set_option linter.unusedVariables false

theorem AC.below [Mode] {P : Program} {f : FuncId} {args : List AV} {vs : List Value} {w : World} (h : AC P f args H0 (Bo true) H0) (hv : VRs (fun _ => none) (fun b => b < w.heap.size) w args vs) (hg : Mode.good w := by exact True.intro) : Calls P f vs.toArray w fun r w' => r = .returned (.bool true) ∧ Below w.heap.size w w' := by
  refine (h (fun _ => none) (fun b => b < w.heap.size) w vs ⟨fun l o h => (by cases h), fun l l' b s s' h => absurd rfl h, fun l b s h => absurd rfl h, fun b h => h, Glb.begin hg⟩ (fun _ _ => rfl) hv).mono ?_
  rintro e w' ⟨v, ι', F', rfl, hr, _, hst, _⟩
  have := hr.v_inv
  subst this
  exact ⟨rfl, hst.os, hst.tape, hst.output, hst.size, fun b hb => hst.block b hb fun ⟨l, hl, _⟩ => absurd rfl hl⟩
theorem cell_lt [Mode] {w : World} {a : Addr} {v : Value} (h : w.cell? a = some v) : a.block < w.heap.size := by
  refine Nat.lt_of_not_le fun hn => ?_
  have hb : w.heap[a.block]? = none := by simp [hn]
  simp [World.cell?, hb] at h
theorem SlR.vr [Mode] {ι : Iota} {α : Type} {k : Nat} {enc : α → List Value} {row : α → List D} (hrow : ∀ x, row x = (enc x).map .v) {w : World} {a : Option Addr} {xs : List α} {cap : Nat} (h : SlR w k enc a xs) (hc : xs.length ≤ cap) : VR ι (fun b => b < w.heap.size) w (.d (.sl k (xs.map row))) (.slice a xs.length cap) := by
  have hl : (xs.map row).length = xs.length := by simp
  rw [← hl]
  have key : ∀ (i : Nat) r (j : Nat) c, (xs.map row)[i]? = some r → r[j]? = some c → ∃ x v, xs[i]? = some x ∧ (enc x)[j]? = some v ∧ c = D.v v := fun (i : Nat) r (j : Nat) c hr hc => by
    simp only [List.getElem?_map, Option.map_eq_some_iff] at hr
    obtain ⟨x, hx, rfl⟩ := hr
    rw [hrow] at hc
    simp only [List.getElem?_map, Option.map_eq_some_iff] at hc
    obtain ⟨v, hv, rfl⟩ := hc
    exact ⟨x, v, hx, hv, rfl⟩
  refine .d (.sl k _ a cap (fun i j => ((xs[i]?).bind fun x => (enc x)[j]?).getD undef) (by rw [hl]; exact hc) (fun i r j c hr hc => ?_) (fun i r j c hr hc => ?_))
  · obtain ⟨x, v, hx, hv, rfl⟩ := key i r j c hr hc
    obtain ⟨b, off, e, hcell⟩ := h i x hx
    have h1 := hcell j v hv
    exact ⟨b, off, e, cell_lt h1, by simp only [hx, Option.bind_some, hv, Option.getD_some]; exact h1⟩
  · obtain ⟨x, v, hx, hv, rfl⟩ := key i r j c hr hc
    simp only [hx, Option.bind_some, hv, Option.getD_some]
    exact .v v
end Go.Proofs.YtdgodkpobomneaaDoor
end

section
namespace Go.Proofs
set_option linter.unusedSimpArgs false
set_option linter.unusedVariables false
open Go.Shelf
def Tryd.lays169_ren : Go.Shelf.Ren := ⟨fun | 169 => 65 | n => n, fun | 70 => 89 | 9 => 9 | 0 => 0 | 72 => 91 | 37 => 64 | 127 => 110 | 3 => 3 | 5 => 5 | n => n, fun | n => n⟩
theorem Tryd.lays169 : Go.Proofs.Lays.n169 Tryd.prog Tryd.lays169_ren := {
  mixed := by kernel_rfl
  f169 := Tryd.func65.trans (congrArg some (by kernel_rfl))
  t0 := Tryd.underlying0
  a0 := Tryd.isAgg0
  z0 := Tryd.sizeOf0
  v0 := Tryd.zeroValue0
  t3 := Tryd.underlying3
  a3 := Tryd.isAgg3
  z3 := Tryd.sizeOf3
  v3 := Tryd.zeroValue3
  t9 := Tryd.underlying9
  a9 := Tryd.isAgg9
  z9 := Tryd.sizeOf9
  v9 := Tryd.zeroValue9
  t37 := Tryd.underlying64
  a37 := Tryd.isAgg64
  z37 := Tryd.sizeOf64
  v37 := Tryd.zeroValue64
  t70 := Tryd.underlying89
  a70 := Tryd.isAgg89
  z70 := Tryd.sizeOf89
  v70 := Tryd.zeroValue89
  t72 := Tryd.underlying91
  a72 := Tryd.isAgg91
  z72 := Tryd.sizeOf91
  v72 := Tryd.zeroValue91
  t127 := Tryd.underlying110
  a127 := Tryd.isAgg110
  z127 := Tryd.sizeOf110
  v127 := Tryd.zeroValue110 }
def Tryd.lays166_ren : Go.Shelf.Ren := ⟨fun | 166 => 64 | 240 => 76 | 276 => 87 | n => n, fun | 0 => 0 | 3 => 3 | 4 => 4 | 5 => 5 | 9 => 9 | 20 => 20 | 37 => 64 | 70 => 89 | 72 => 91 | 75 => 94 | 80 => 97 | 164 => 121 | n => n, fun | n => n⟩
theorem Tryd.lays166 : Go.Proofs.Lays.n166 Tryd.prog Tryd.lays166_ren := {
  mixed := by kernel_rfl
  f166 := Tryd.func64.trans (congrArg some (by kernel_rfl))
  f240 := Tryd.func76.trans (congrArg some (by kernel_rfl))
  f276 := Tryd.func87.trans (congrArg some (by kernel_rfl))
  t0 := Tryd.underlying0
  a0 := Tryd.isAgg0
  z0 := Tryd.sizeOf0
  v0 := Tryd.zeroValue0
  t3 := Tryd.underlying3
  a3 := Tryd.isAgg3
  z3 := Tryd.sizeOf3
  v3 := Tryd.zeroValue3
  t4 := Tryd.underlying4
  a4 := Tryd.isAgg4
  z4 := Tryd.sizeOf4
  v4 := Tryd.zeroValue4
  t9 := Tryd.underlying9
  a9 := Tryd.isAgg9
  z9 := Tryd.sizeOf9
  v9 := Tryd.zeroValue9
  t20 := Tryd.underlying20
  a20 := Tryd.isAgg20
  z20 := Tryd.sizeOf20
  v20 := Tryd.zeroValue20
  t37 := Tryd.underlying64
  a37 := Tryd.isAgg64
  z37 := Tryd.sizeOf64
  v37 := Tryd.zeroValue64
  t70 := Tryd.underlying89
  a70 := Tryd.isAgg89
  z70 := Tryd.sizeOf89
  v70 := Tryd.zeroValue89
  t72 := Tryd.underlying91
  a72 := Tryd.isAgg91
  z72 := Tryd.sizeOf91
  v72 := Tryd.zeroValue91
  t75 := Tryd.underlying94
  a75 := Tryd.isAgg94
  z75 := Tryd.sizeOf94
  v75 := Tryd.zeroValue94
  t164 := Tryd.underlying121
  a164 := Tryd.isAgg121
  z164 := Tryd.sizeOf121
  v164 := Tryd.zeroValue121 }
theorem Tryd.Builder_Extra_166 : Builder.Extra Tryd.prog Tryd.lays166_ren := {
  sizeBuilder := by kernel_rfl
  liesBuilder := by kernel_rfl
  t5 := Tryd.underlying5
  a5 := Tryd.isAgg5
  z5 := Tryd.sizeOf5
  v5 := Tryd.zeroValue5
  infoByte := by kernel_rfl
  cellsByte := by kernel_rfl
  sizeByte := by kernel_rfl
  neB5 := by decide }
theorem Tryd.Builder_Extra_169 : Builder.Extra Tryd.prog Tryd.lays169_ren := {
  sizeBuilder := by kernel_rfl
  liesBuilder := by kernel_rfl
  t5 := Tryd.underlying5
  a5 := Tryd.isAgg5
  z5 := Tryd.sizeOf5
  v5 := Tryd.zeroValue5
  infoByte := by kernel_rfl
  cellsByte := by kernel_rfl
  sizeByte := by kernel_rfl
  neB5 := by decide }
open Go.RowKit in
/-- (*strings.Builder).WriteString: "WriteString appends the contents of s to b's buffer. It returns the length of s and a nil error.": UNDER Go's OWN LIMIT: the new length takes at most 2^47 bytes. (LAID: no walk: one application.) -/
theorem Tryd.Builder_WriteString (B b : Nat) (bs : List Value) (s : ByteArray) (w : World) (h : Lib.IsBuilder 91 5 B b bs w) (hlen : bs.length + s.size ≤ 140737488355328) (hBw : B ≤ w.heap.size) :
    Calls Tryd.prog 64 #[.pointer (some ⟨b, 0, none⟩), .string s] w fun e w' => e = .returned (.tuple #[.int .i64 s.size, .nilIface]) ∧ (Lib.BuilderAt 91 5 B b (.pointer (some ⟨b, 0, none⟩)) (bs ++ Lib.strCells s) w' ∧ Below B w w') := Any.Builder_WriteString Tryd.lays166 Tryd.Builder_Extra_166 B b bs s w h hlen hBw
open Go.RowKit in
/-- (*strings.Builder).String: "String returns the accumulated string.": WHATEVER THE BUILDER HOLDS. (LAID: no walk: one application.) -/
theorem Tryd.Builder_String_any (B b : Nat) (l : List UInt8) (w : World) (h : Lib.IsBuilder 91 5 B b (Lib.byteCells l) w) (hBw : B ≤ w.heap.size) :
    Calls Tryd.prog 65 #[.pointer (some ⟨b, 0, none⟩)] w fun e w' => e = .returned (.string ⟨l.toArray⟩) ∧ Below B w w' := Any.Builder_String_any Tryd.lays169 Tryd.Builder_Extra_169 B b l w h hBw
def Tryd.laysM173_ren : Go.Shelf.Ren := ⟨fun | 173 => 59 | 246 => 74 | 283 => 83 | 284 => 84 | 285 => 85 | 286 => 86 | 129 => 102 | 317 => 101 | 318 => 103 | 319 => 104 | 320 => 105 | 337 => 116 | 338 => 117 | n => n, fun | 2 => 2 | 3 => 3 | 9 => 9 | 4 => 4 | 171 => 115 | 0 => 0 | 53 => 116 | 37 => 64 | 5 => 5 | 173 => 119 | 212 => 134 | 51 => 135 | 20 => 20 | 213 => 136 | 46 => 125 | 232 => 152 | 233 => 153 | n => n, fun | 17 => 1 | 18 => 4 | 19 => 5 | n => n⟩
theorem Tryd.laysM173 : Go.Proofs.LaysM.n173 Tryd.prog Tryd.laysM173_ren := {
  mixed := by kernel_rfl
  f129 := Tryd.func102.trans (congrArg some (by kernel_rfl))
  f173 := Tryd.func59.trans (congrArg some (by kernel_rfl))
  f246 := Tryd.func74.trans (congrArg some (by kernel_rfl))
  f283 := Tryd.func83.trans (congrArg some (by kernel_rfl))
  f284 := Tryd.func84.trans (congrArg some (by kernel_rfl))
  f285 := Tryd.func85.trans (congrArg some (by kernel_rfl))
  f286 := Tryd.func86.trans (congrArg some (by kernel_rfl))
  f317 := Tryd.func101.trans (congrArg some (by kernel_rfl))
  f318 := Tryd.func103.trans (congrArg some (by kernel_rfl))
  f319 := Tryd.func104.trans (congrArg some (by kernel_rfl))
  f320 := Tryd.func105.trans (congrArg some (by kernel_rfl))
  f337 := Tryd.func116.trans (congrArg some (by kernel_rfl))
  f338 := Tryd.func117.trans (congrArg some (by kernel_rfl))
  t0 := Tryd.underlying0
  a0 := Tryd.isAgg0
  z0 := Tryd.sizeOf0
  v0 := Tryd.zeroValue0
  t2 := Tryd.underlying2
  a2 := Tryd.isAgg2
  z2 := Tryd.sizeOf2
  v2 := Tryd.zeroValue2
  t3 := Tryd.underlying3
  a3 := Tryd.isAgg3
  z3 := Tryd.sizeOf3
  v3 := Tryd.zeroValue3
  t4 := Tryd.underlying4
  a4 := Tryd.isAgg4
  z4 := Tryd.sizeOf4
  v4 := Tryd.zeroValue4
  t5 := Tryd.underlying5
  a5 := Tryd.isAgg5
  z5 := Tryd.sizeOf5
  v5 := Tryd.zeroValue5
  t9 := Tryd.underlying9
  a9 := Tryd.isAgg9
  z9 := Tryd.sizeOf9
  v9 := Tryd.zeroValue9
  t20 := Tryd.underlying20
  a20 := Tryd.isAgg20
  z20 := Tryd.sizeOf20
  v20 := Tryd.zeroValue20
  t37 := Tryd.underlying64
  a37 := Tryd.isAgg64
  z37 := Tryd.sizeOf64
  v37 := Tryd.zeroValue64
  t46 := Tryd.underlying125
  a46 := Tryd.isAgg125
  z46 := Tryd.sizeOf125
  v46 := Tryd.zeroValue125
  t51 := Tryd.underlying135
  a51 := Tryd.isAgg135
  z51 := Tryd.sizeOf135
  v51 := Tryd.zeroValue135
  t53 := Tryd.underlying116
  a53 := Tryd.isAgg116
  z53 := Tryd.sizeOf116
  v53 := Tryd.zeroValue116
  t171 := Tryd.underlying115
  a171 := Tryd.isAgg115
  z171 := Tryd.sizeOf115
  v171 := Tryd.zeroValue115
  t173 := Tryd.underlying119
  a173 := Tryd.isAgg119
  z173 := Tryd.sizeOf119
  v173 := Tryd.zeroValue119
  t212 := Tryd.underlying134
  a212 := Tryd.isAgg134
  z212 := Tryd.sizeOf134
  v212 := Tryd.zeroValue134
  t213 := Tryd.underlying136
  a213 := Tryd.isAgg136
  z213 := Tryd.sizeOf136
  t232 := Tryd.underlying152
  a232 := Tryd.isAgg152
  z232 := Tryd.sizeOf152
  v232 := Tryd.zeroValue152
  t233 := Tryd.underlying153
  a233 := Tryd.isAgg153
  z233 := Tryd.sizeOf153
  v233 := Tryd.zeroValue153
  g17 := by kernel_rfl
  g18 := by kernel_rfl
  g19 := by kernel_rfl
  i0 := by kernel_rfl
  i2 := by kernel_rfl
  i3 := by kernel_rfl
  i4 := by kernel_rfl
  i5 := by kernel_rfl
  i9 := by kernel_rfl
  i20 := by kernel_rfl
  i37 := by kernel_rfl
  i46 := by kernel_rfl
  i51 := by kernel_rfl
  i53 := by kernel_rfl
  i171 := by kernel_rfl
  i173 := by kernel_rfl
  i212 := by kernel_rfl
  i232 := by kernel_rfl
  i233 := by kernel_rfl
  m17 := by kernel_rfl
  m18 := by kernel_rfl
  m19 := by kernel_rfl }
open Go.RowKit Go.Sort Go.Lib in
/-- strconv.FormatInt: "FormatInt returns the string representation of i in the given base": AT BASE 10: i's decimal numeral, for every int64. (LAID: no walk: one application.) -/
theorem Tryd.strconv_FormatInt_10 (n : Int) (h0 : -9223372036854775808 ≤ n) (h1 : n ≤ 9223372036854775807) (w : World) (htab : Lib.TabIs Tryd.prog w "internal/strconv.uint64pow10" .u64 Lib.pow10Tab) :
    Calls Tryd.prog 59 #[.int .i64 n, .int .i64 10] w fun e w' => e = .returned (.string ⟨(Lib.itoa n).toArray⟩) ∧ ∃ k os, w' = grow (w.drewN k) os := Any.strconv_FormatInt_10 Tryd.laysM173 n h0 h1 w htab
end Go.Proofs
end

section
namespace Go.Proofs.YtdgodkpobomneaaDoor
set_option linter.unusedSimpArgs false
set_option linter.unusedVariables false
open Go

/-! ### Split at a byte -/
/-! ### Numerals -/
abbrev dec (n : Nat) : List UInt8 := Lib.decDigits n
theorem dec_small {n : Nat} (h : n < 10) : dec n = [UInt8.ofNat (48 + n)] := by rw [dec, Lib.decDigits, dif_pos h]
theorem dec_big {n : Nat} (h : ¬ n < 10) : dec n = dec (n / 10) ++ [UInt8.ofNat (48 + n % 10)] := by rw [dec, Lib.decDigits, dif_neg h]
theorem dec_len_le (k : Nat) : ∀ n, n < 10 ^ (k + 1) → (dec n).length ≤ k + 1 := by
  induction k with
  | zero => intro n h; rw [dec_small (by simpa using h)]; simp
  | succ k ih =>
    intro n h
    by_cases h1 : n < 10
    · rw [dec_small h1]; simp
    · rw [dec_big h1, List.length_append]
      have := ih (n / 10) (by rw [Nat.pow_succ] at h; omega)
      simp; omega
/-! The library reads what it writes. -/
end Go.Proofs.YtdgodkpobomneaaDoor
end

section
namespace Go.Proofs.YtdgodkpobomneaaDoor
set_option linter.unusedSimpArgs false
set_option linter.unusedVariables false
open Go Go.RowKit
attribute [local irreducible] AL AD AW OpOk Le AC thenQ blockQ EndQ

/-- The world at the beginning holds the library's table of powers. -/
class HasTab [Mode] : Prop where
  tab : ∀ w, Mode.good w → Lib.TabIs Tryd.prog w "internal/strconv.uint64pow10" .u64 Lib.pow10Tab
/-- It holds the library's two errors. -/
class HasErr [Mode] : Prop where
  err : ∀ w, Mode.good w → (∃ t p, w.var? Tryd.prog "strconv.ErrSyntax" = some #[.iface t p]) ∧ ∃ t p, w.var? Tryd.prog "strconv.ErrRange" = some #[.iface t p]
/-- It holds the length up to which the library searches by an instruction. -/
class HasLen [Mode] : Prop where
  len : ∀ w, Mode.good w → ∃ m, w.var? Tryd.prog "internal/bytealg.MaxLen" = some #[.int .i64 m]
theorem formatInt_ac [Mode] [HasTab] (n : Int) (h0 : -9223372036854775808 ≤ n) (h1 : n ≤ 9223372036854775807) : AC Tryd.prog 59 [I n, I 10] H0 (Str (Lib.itoa n)) H0 := AC.ofCalls fun ι F w vs hs hv => by
  have := hv.inv2; subst this
  obtain ⟨w0, hg, hc, hvv⟩ := hs.gl.held
  refine (Tryd.strconv_FormatInt_10 n h0 h1 w (hvv _ _ _ (HasTab.tab w0 hg))).mono ?_
  rintro e w' ⟨rfl, k, os, rfl⟩
  exact ⟨_, rfl, fun _ _ => .d (.v _), Lib.below_grow _ _ (Nat.le_refl _) _ _⟩
end Go.Proofs.YtdgodkpobomneaaDoor
end

section
namespace Go.Proofs.YtdgodkpobomneaaDoor
open Go Go.RowKit
set_option linter.unusedSimpArgs false
set_option linter.unusedVariables false
attribute [local irreducible] AL AD AW OpOk Le AC thenQ blockQ EndQ

set_option maxHeartbeats 400000 in
theorem l01In_ac [Mode] (n lo hi : Int) : AC Tryd.prog 31 [I n, I lo, I hi] H0 (Bo (wi n lo hi)) H0 := by
  refine AC.of_body 0 Tryd.func31 rfl (fun l h => absurd rfl h) (fun C hC => ?_)
  have hD : ∀ l, ¬ C.D0 l := fun l h => (hC l).1 h rfl
  simp only [startFr, Tryd.ntmps31, List.length_cons, List.length_nil, Nat.reduceAdd, Nat.reduceSub, List.replicate_succ, List.replicate_zero, List.cons_append, List.nil_append]
  repeat' (first | refine AL.nil ?_ | ((first | apply AL.st | (apply AL.on; (· rfl); (· rfl)) | (apply AD.st; (· exact nxE)) | (apply AD.on; (· rfl); (· rfl); (· exact nxE))); (· first | exact Ok.pe); (· exact setE); (· first | exact updsE | exact rfl); (· exact nxE)) | ((first | apply AL.st0 | (apply AD.st0; (· exact nxE))); (· first | exact Ok.e0); (· exact rfl); (· exact nxE)) | ((first | apply AL.off | apply AD.off); (· rfl); (· rfl); (· rfl); (· exact setE); (· exact nxE)) | ((first | refine AL.gsplit rfl rfl (fun h => ?_) (fun h => ?_) | refine AD.gsplit rfl rfl (fun h => ?_) (fun h => ?_)) <;> try (exfalso; omega; done)) | (first | refine AL.gsplitB rfl rfl (fun h => ?_) (fun h => ?_) | refine AD.gsplitB rfl rfl (fun h => ?_) (fun h => ?_)) | refine AD.fin (by simp only [List.length_cons, List.length_nil, Nat.reduceAdd]; rfl) rfl (by kernel_rfl) ?_ | refine thenN ?_ | refine AW.seq ?_ | refine AW.reg ?_ | refine AW.dr mixedA (by kernel_rfl) ?_ | refine AW.block ?_ | refine AW.condT rfl ?_ | refine AW.condF rfl ?_ | (refine AW.ite rfl (fun h => ?_) (fun h => ?_) <;> try (exfalso; omega; done)) | refine AW.cond _ rfl (fun h => ?_) (fun h => ?_) | refine AW.ret ?_ | refine AW.exit ?_ | refine AW.skip ?_ | refine thenR ?_ | refine thenX ?_ | refine blockN ?_ | refine blockR ?_ | refine blockX ?_ | refine blockY (by decide) ?_)
  all_goals
    (refine end1p (by first | exact .inl rfl | exact .inr rfl) rfl (by first | exact rT rfl | exact rCA rfl rfl rfl rfl (by simp) | exact rCC rfl rfl rfl rfl rfl) ?_ (Le.head ([]) (by first | exact fun l h => absurd h (hD l) | (intro l h; rcases hD l h with rfl; simp [tauL]) | (intro l h; rcases hD l h with rfl | rfl <;> simp [tauL]; done) | (intro l h; rcases hD l h with rfl | rfl | rfl <;> simp [tauL])) ?_ ?_ (by simp) (by simp) (by simp [AllP]) (n' := 1000)); (· simp [wi, *]; done)) <;> (repeat' (first | exact trivial | exact ARs.nil | refine ARs.cons ?_ ?_ | exact AR.dead _ | exact AR.dd _ | exact AR.i (by (try dsimp only); omega) | exact AR.ptr _ _ _ _ (by simp [heapL, upd]) | exact AR.own _ _ _ _ (by simp [heapL, upd]) | refine AR.ownE _ _ _ ?_ (by simp [heapL, upd]) | refine ⟨⟨_, rfl, ?_⟩, ?_⟩ | exact ObA.data | refine ObA.box ?_ | refine ObA.frE ?_ | refine ObA.dataE ?_ | refine ARs.agg ?_ | refine ARs.tup ?_ | exact AR.clo' ARs.nil ARs.nil | exact AR.clo' ARs.nil (hca _ _)))
set_option maxHeartbeats 400000 in
theorem within_ac [Mode] (n lo hi : Int) : AC Tryd.prog 57 [I n, I lo, I hi] H0 (Bo (wi n lo hi)) H0 := by
  refine AC.of_body 0 Tryd.func57 rfl (fun l h => absurd rfl h) (fun C hC => ?_)
  have hD : ∀ l, ¬ C.D0 l := fun l h => (hC l).1 h rfl
  simp only [startFr, Tryd.ntmps57, List.length_cons, List.length_nil, Nat.reduceAdd, Nat.reduceSub, List.replicate_succ, List.replicate_zero, List.cons_append, List.nil_append]
  repeat' (first | refine AL.nil ?_ | ((first | apply AL.st | (apply AL.on; (· rfl); (· rfl)) | (apply AD.st; (· exact nxE)) | (apply AD.on; (· rfl); (· rfl); (· exact nxE))); (· first | exact Ok.pe); (· exact setE); (· first | exact updsE | exact rfl); (· exact nxE)) | ((first | apply AL.st0 | (apply AD.st0; (· exact nxE))); (· first | exact Ok.e0); (· exact rfl); (· exact nxE)) | ((first | apply AL.off | apply AD.off); (· rfl); (· rfl); (· rfl); (· exact setE); (· exact nxE)) | ((first | refine AL.gsplit rfl rfl (fun h => ?_) (fun h => ?_) | refine AD.gsplit rfl rfl (fun h => ?_) (fun h => ?_)) <;> try (exfalso; omega; done)) | (first | refine AL.gsplitB rfl rfl (fun h => ?_) (fun h => ?_) | refine AD.gsplitB rfl rfl (fun h => ?_) (fun h => ?_)) | refine AD.fin (by simp only [List.length_cons, List.length_nil, Nat.reduceAdd]; rfl) rfl (by kernel_rfl) ?_ | refine thenN ?_ | refine AW.seq ?_ | refine AW.reg ?_ | refine AW.dr mixedA (by kernel_rfl) ?_ | refine AW.block ?_ | refine AW.condT rfl ?_ | refine AW.condF rfl ?_ | (refine AW.ite rfl (fun h => ?_) (fun h => ?_) <;> try (exfalso; omega; done)) | refine AW.cond _ rfl (fun h => ?_) (fun h => ?_) | refine AW.ret ?_ | refine AW.exit ?_ | refine AW.skip ?_ | refine thenR ?_ | refine thenX ?_ | refine blockN ?_ | refine blockR ?_ | refine blockX ?_ | refine blockY (by decide) ?_)
  all_goals
    (refine end1p (by first | exact .inl rfl | exact .inr rfl) rfl (by first | exact rT rfl | exact rCA rfl rfl rfl rfl (by simp) | exact rCC rfl rfl rfl rfl rfl) ?_ (Le.head ([]) (by first | exact fun l h => absurd h (hD l) | (intro l h; rcases hD l h with rfl; simp [tauL]) | (intro l h; rcases hD l h with rfl | rfl <;> simp [tauL]; done) | (intro l h; rcases hD l h with rfl | rfl | rfl <;> simp [tauL])) ?_ ?_ (by simp) (by simp) (by simp [AllP]) (n' := 1000)); (· simp [wi, *]; done)) <;> (repeat' (first | exact trivial | exact ARs.nil | refine ARs.cons ?_ ?_ | exact AR.dead _ | exact AR.dd _ | exact AR.i (by (try dsimp only); omega) | exact AR.ptr _ _ _ _ (by simp [heapL, upd]) | exact AR.own _ _ _ _ (by simp [heapL, upd]) | refine AR.ownE _ _ _ ?_ (by simp [heapL, upd]) | refine ⟨⟨_, rfl, ?_⟩, ?_⟩ | exact ObA.data | refine ObA.box ?_ | refine ObA.frE ?_ | refine ObA.dataE ?_ | refine ARs.agg ?_ | refine ARs.tup ?_ | exact AR.clo' ARs.nil ARs.nil | exact AR.clo' ARs.nil (hca _ _)))
end Go.Proofs.YtdgodkpobomneaaDoor
end

section
namespace Go.Proofs.YtdgodkpobomneaaDoor
set_option linter.unusedSimpArgs false
set_option linter.unusedVariables false
open Go Go.RowKit
attribute [local irreducible] AL AD AW OpOk Le AC thenQ blockQ EndQ

theorem u8w [Mode] {a : Int} (h0 : 0 ≤ a) (h1 : a < 256) : IntKind.u8.wrap a = ((UInt8.ofNat a.toNat).toNat : Int) := by
  rw [UInt8.toNat_ofNat']
  unfold IntKind.wrap
  simp [IntKind.signed, IntKind.bits]
  omega
section
variable {P : Program} {o : Oper} {A : Operand → AV} {H : Heap} {new : Nat} {t t' : TypeId} {x : Operand}
theorem Ok.toByt [Mode] {a : Int} {k : IntKind} (ho : o.op = .convert t t' x) (hx : A x = .d (.v (.int k a))) (hu : P.underlying t' = some (.int .u8)) (hs : (P.underlying t).isSome = true) (h0 : 0 ≤ a) (h1 : a < 256) : OpOk P o A [] H new (Byt (UInt8.ofNat a.toNat)) [] :=
  Ok.convII ho hx hu hs (u8w h0 h1)
theorem Ok.strOf1 [Mode] {src e : TypeId} {l : Loc} {c : UInt8} (ho : o.op = .convert src t x) (hx : A x = .own 1 l 0 1) (hl : H l = some ⟨1, [[Byt c]]⟩) {b : Nat} {z : Value} [hs : TySlice P src e 1 b z] [hd : TyString P t] (he : P.underlying e = some (.int .u8)) : OpOk P o A [l] H new (Str [c]) [] :=
  Ok.strOf (a := [c]) ho hx hl rfl he
end
theorem tdiv_nat [Mode] (n : Nat) : (n : Int).tdiv 10 = ((n / 10 : Nat) : Int) := by
  rw [Int.tdiv_eq_ediv_of_nonneg (by omega)]; omega
theorem tmod_nat [Mode] (n : Nat) : (n : Int).tmod 10 = ((n % 10 : Nat) : Int) := by
  rw [Int.tmod_eq_emod_of_nonneg (by omega)]; omega
theorem dec_len [Mode] (n : Nat) (h : n ≤ 9223372036854775807) : (dec n).length ≤ 19 := dec_len_le 18 n (by omega)
set_option maxHeartbeats 1000000 in
theorem l01Dec_ac [Mode] (n : Nat) (hn : n ≤ 9223372036854775807) : AC Tryd.prog 33 [I n] H0 (Str (dec n)) H0 := by
  induction n using Nat.strongRecOn with
  | ind n ih =>
  by_cases hs : n < 10
  ·
    refine AC.of_body 0 Tryd.func33 rfl (fun l h => absurd rfl h) (fun C hC => ?_)
    have hD : ∀ l, ¬ C.D0 l := fun l h => (hC l).1 h rfl
    simp only [startFr, Tryd.ntmps33, List.length_cons, List.length_nil, Nat.reduceAdd, Nat.reduceSub, List.replicate_succ, List.replicate_zero, List.cons_append, List.nil_append]
    repeat' (first | ((first | apply Ba | (apply Bb; (· rfl); (· rfl)) | (apply Bc; (· exact nxE)) | (apply Bd; (· rfl); (· rfl); (· exact nxE))); (· first | exact Ok.strOf1 rfl rfl rfl Tryd.underlying5 | exact Ok.toByt rfl rfl Tryd.underlying5 (by rw [Tryd.underlying2]; rfl) (by omega) (by omega) | exact Ok.seqS rfl rfl rfl | exact Ok.sneS rfl rfl rfl | exact Ok.slen rfl rfl | exact Ok.sjoin rfl rfl rfl (by simp only [List.length_append, List.length_cons, List.length_nil]; omega) | exact Ok.pe)) | ((first | apply Ca | (apply Cb; (· exact nxE))); (· first | exact Ok.e0)) | refine Sx ?_ | (refine Sy (fun h => ?_) (fun h => ?_) <;> try (exfalso; omega; done)) | refine Sz (fun h => ?_) (fun h => ?_))
    refine Ya ?_
    (apply Le.headZ (hs := []) [] rfl)
    all_goals (try dsimp only [srcs])
    (case' hfr => (repeat' (first | refine La ?_ ?_ | exact Lc | refine Lo ?_ | refine ⟨⟨_, rfl, ?_⟩, ?_⟩ | refine Lx ?_)))
    all_goals (first | exact Ld | exact trivial | ((rw [dec_small hs]; rfl)))
  · have h2 : (dec (n / 10)).length ≤ 19 := dec_len _ (by omega)
    have h3 := ih (n / 10) (by omega) (by omega)
    rw [← tdiv_nat] at h3
    have h5 := tmod_nat n
    have h6 : n % 10 < 10 := Nat.mod_lt _ (by decide)
    refine AC.of_body 0 Tryd.func33 rfl (fun l h => absurd rfl h) (fun C hC => ?_)
    have hD : ∀ l, ¬ C.D0 l := fun l h => (hC l).1 h rfl
    simp only [startFr, Tryd.ntmps33, List.length_cons, List.length_nil, Nat.reduceAdd, Nat.reduceSub, List.replicate_succ, List.replicate_zero, List.cons_append, List.nil_append]
    repeat' (first | ((first | apply Ba | (apply Bb; (· rfl); (· rfl)) | (apply Bc; (· exact nxE)) | (apply Bd; (· rfl); (· rfl); (· exact nxE))); (· first | exact Kz rfl rfl (h3) (Ad An) | exact Ok.quo rfl rfl rfl (by decide) (by omega) (by omega) | exact Ok.rem rfl rfl rfl (by decide) | exact Ok.strOf1 rfl rfl rfl Tryd.underlying5 | exact Ok.toByt rfl rfl Tryd.underlying5 (by rw [Tryd.underlying2]; rfl) (by omega) (by omega) | exact Ok.seqS rfl rfl rfl | exact Ok.sneS rfl rfl rfl | exact Ok.slen rfl rfl | exact Ok.sjoin rfl rfl rfl (by simp only [List.length_append, List.length_cons, List.length_nil]; omega) | exact Ok.pe)) | ((first | apply Ca | (apply Cb; (· exact nxE))); (· first | exact Ok.e0)) | refine Sx ?_ | (refine Sy (fun h => ?_) (fun h => ?_) <;> try (exfalso; omega; done)) | refine Sz (fun h => ?_) (fun h => ?_))
    refine Ya ?_
    (apply Le.headZ (hs := []) [] rfl)
    all_goals (try dsimp only [srcs])
    (case' hfr => (repeat' (first | refine La ?_ ?_ | exact Lc | refine Lo ?_ | refine ⟨⟨_, rfl, ?_⟩, ?_⟩ | refine Lx ?_)))
    all_goals (first | exact Ld | exact trivial | ((rw [dec_big hs, h5]; rfl)))
end Go.Proofs.YtdgodkpobomneaaDoor
end

section
namespace Go.Proofs.YtdgodkpobomneaaDoor
set_option linter.unusedSimpArgs false
set_option linter.unusedVariables false
open Go Go.RowKit
attribute [local irreducible] AL AD AW OpOk Le AC thenQ blockQ EndQ

theorem l01DecI_ac [Mode] (n : Int) (h0 : 0 ≤ n) (h1 : n ≤ 9223372036854775807) : AC Tryd.prog 33 [I n] H0 (Str (dec n.toNat)) H0 := by
  have := l01Dec_ac n.toNat (by omega)
  rwa [Int.toNat_of_nonneg h0] at this
theorem decimal_ac [Mode] [HasTab] (n : Int) (h0 : -9223372036854775808 ≤ n) (h1 : n ≤ 9223372036854775807) : AC Tryd.prog 37 [I n] H0 (Str (Lib.itoa n)) H0 := by
  refine AC.of_body 0 Tryd.func37 rfl (fun l h => absurd rfl h) (fun C hC => ?_)
  have hD : ∀ l, ¬ C.D0 l := fun l h => (hC l).1 h rfl
  simp only [startFr, Tryd.ntmps37, List.length_cons, List.length_nil, Nat.reduceAdd, Nat.reduceSub, List.replicate_succ, List.replicate_zero, List.cons_append, List.nil_append]
  repeat' (first | ((first | apply Ba | (apply Bb; (· rfl); (· rfl)) | (apply Bc; (· exact nxE)) | (apply Bd; (· rfl); (· rfl); (· exact nxE))); (· first | exact Kz rfl rfl (formatInt_ac n h0 h1) (Ad (Ad An)) | exact Ok.seqS rfl rfl rfl | exact Ok.sneS rfl rfl rfl | exact Ok.slen rfl rfl | exact Ok.sjoin rfl rfl rfl (by simp only [List.length_append, List.length_cons, List.length_nil]; omega) | exact Ok.pe)) | ((first | apply Ca | (apply Cb; (· exact nxE))); (· first | exact Ok.e0)) | refine Sx ?_ | (refine Sy (fun h => ?_) (fun h => ?_) <;> try (exfalso; omega; done)) | refine Sz (fun h => ?_) (fun h => ?_))
  refine Ya ?_
  (apply Le.headZ (hs := []) [] rfl)
  all_goals (try dsimp only [srcs])
  (case' hfr => (repeat' (first | refine La ?_ ?_ | exact Lc | refine Lo ?_ | refine ⟨⟨_, rfl, ?_⟩, ?_⟩ | refine Lx ?_)))
  all_goals (first | exact Ld | exact trivial | (rfl))
theorem itoa_pos [Mode] {n : Int} (h : 0 ≤ n) : Lib.itoa n = dec n.toNat := by rw [Lib.itoa, if_neg (by omega)]
theorem decimalP_ac [Mode] [HasTab] (n : Int) (h0 : 0 ≤ n) (h1 : n ≤ 9223372036854775807) : AC Tryd.prog 37 [I n] H0 (Str (dec n.toNat)) H0 := by
  have := decimal_ac n (by omega) h1
  rwa [itoa_pos h0] at this
end Go.Proofs.YtdgodkpobomneaaDoor
end

section
namespace Go.Proofs.YtdgodkpobomneaaDoor
open Go Go.RowKit
set_option linter.unusedSimpArgs false
set_option linter.unusedVariables false
attribute [local irreducible] AL AD AW OpOk Le AC thenQ blockQ EndQ

abbrev own1 (k n : Nat) : AV := .own k ⟨0, []⟩ 0 n
abbrev hp1 (o : AObj) : Heap := upd H0 ⟨0, []⟩ (some o)
end Go.Proofs.YtdgodkpobomneaaDoor
end

section
namespace Go.Proofs.YtdgodkpobomneaaDoor
set_option linter.unusedSimpArgs false
set_option linter.unusedVariables false

abbrev BOT : Int := -1000000000000000
def hdN (p : List Nat) : Nat := p.headD 0
def lsN (p : List Nat) : Nat := p.getLastD 0
/-- Each node has an arc to the next one. -/
def pathP (a : Nat → Nat → Int) (c : List Nat) : Prop := ∀ i, i + 1 < c.length → a (c.getD (i + 1) 0) (c.getD i 0) ≠ BOT
structure Cyc (a : Nat → Nat → Int) (n : Nat) (c : List Nat) : Prop where
  ne : c ≠ []
  lt : ∀ v ∈ c, v < n
  path : pathP a c
  close : a (hdN c) (lsN c) ≠ BOT
end Go.Proofs.YtdgodkpobomneaaDoor
end

section
namespace Go.Proofs.YtdgodkpobomneaaDoor
set_option linter.unusedSimpArgs false
set_option linter.unusedVariables false

/-! ### Firing orders -/
structure OrdOk (w : Nat → Nat → Bool) (n : Nat) (ord : List Nat) : Prop where
  nd : ord.Nodup
  lt : ∀ x ∈ ord, x < n
  wait : ∀ i, i < ord.length → ∀ u, u < n → w (ord.getD i 0) u = true → u ∈ ord.take i
theorem OrdOk.nil {w : Nat → Nat → Bool} {n : Nat} : OrdOk w n [] := ⟨List.nodup_nil, fun x h => (by cases h), fun i h => (by simp at h)⟩
end Go.Proofs.YtdgodkpobomneaaDoor
end

section
namespace Go.Proofs.YtdgodkpobomneaaDoor
set_option linter.unusedSimpArgs false
set_option linter.unusedVariables false
open Go Go.RowKit
attribute [local irreducible] AL AD AW OpOk Le AC thenQ blockQ EndQ

abbrev IR (xs : List Int) : List (List D) := xs.map fun n => [DI n]
theorem IR_len [Mode] {xs : List Int} : (IR xs).length = xs.length := by simp [IR]
abbrev TR (t : List (List Int)) : List (List (List D)) := t.map IR
theorem TR_len [Mode] {t : List (List Int)} : (TR t).length = t.length := by simp [TR]
end Go.Proofs.YtdgodkpobomneaaDoor
end

section
namespace Go.Proofs.YtdgodkpobomneaaDoor
set_option linter.unusedSimpArgs false
set_option linter.unusedVariables false
open Go Go.RowKit
attribute [local irreducible] AL AD AW OpOk Le AC thenQ blockQ EndQ

/-- A firing. -/
structure Fi where
  e : Int
  n : Int
  t : Int
  deriving DecidableEq
def Fi.row (f : Fi) : List D := [DI f.e, DI f.n, DI f.t]
abbrev Fi.av (f : Fi) : AV := .agg [I f.e, I f.n, I f.t]
abbrev fiZ : Fi := ⟨0, 0, 0⟩
abbrev FL (fs : List Fi) : AV := .d (.sl 3 (fs.map Fi.row))
abbrev FO (fs : List Fi) : AObj := dobj 3 (fs.map Fi.row)
theorem FL_len [Mode] {fs : List Fi} : (fs.map Fi.row).length = fs.length := by simp
/-- A firing that can be written. -/
def wrF (f : Fi) : Bool := wi f.e 0 9 && wi f.t 0 1000000
theorem wrF_iff [Mode] {f : Fi} : wrF f = true ↔ (0 ≤ f.e ∧ f.e ≤ 9) ∧ (0 ≤ f.t ∧ f.t ≤ 1000000) := by simp [wrF, wi]
def wrA (fs : List Fi) : Bool := fs.all wrF && decide (fs.length ≤ 500)
theorem l28Writable_ac [Mode] (f : Fi) : AC Tryd.prog 60 [f.av] H0 (Bo (wrF f)) H0 := by
  obtain ⟨e, n, t⟩ := f
  refine AC.of_body 0 Tryd.func60 rfl (fun l h => absurd rfl h) (fun C hC => ?_)
  have hD : ∀ l, ¬ C.D0 l := fun l h => (hC l).1 h rfl
  simp only [startFr, Tryd.ntmps60, List.length_cons, List.length_nil, Nat.reduceAdd, Nat.reduceSub, List.replicate_succ, List.replicate_zero, List.cons_append, List.nil_append]
  repeat' (first | ((first | apply Ba | (apply Bb; (· rfl); (· rfl)) | (apply Bc; (· exact nxE)) | (apply Bd; (· rfl); (· rfl); (· exact nxE))); (· first | exact Kz rfl rfl (l01In_ac _ _ _) (Ad (Ad (Ad An))) | exact Ok.seqS rfl rfl rfl | exact Ok.sneS rfl rfl rfl | exact Ok.slen rfl rfl | exact Ok.sjoin rfl rfl rfl (by simp only [List.length_append, List.length_cons, List.length_nil]; omega) | exact Ok.pe)) | ((first | apply Ca | (apply Cb; (· exact nxE))); (· first | exact Ok.e0)) | refine Sx ?_ | (refine Sy (fun h => ?_) (fun h => ?_) <;> try (exfalso; omega; done)) | refine Sz (fun h => ?_) (fun h => ?_))
  all_goals
    refine Ya ?_
    (apply Le.headZ (hs := []) [] rfl)
    all_goals (try dsimp only [srcs])
    (case' hfr => (repeat' (first | refine La ?_ ?_ | exact Lc | refine Lo ?_ | refine ⟨⟨_, rfl, ?_⟩, ?_⟩ | refine Lx ?_)))
    all_goals (first | exact Ld | exact trivial | ((simp [wrF, *]; done)))
theorem fi_all_no [Mode] {fs : List Fi} {p : Fi → Bool} {k : Nat} {f : Fi} (h : fs[k]? = some f) (hf : p f = false) : fs.all p = false := by
  rw [Bool.eq_false_iff]
  intro ha
  have := List.all_eq_true.1 ha f (List.mem_of_getElem? h)
  rw [hf] at this; cases this
theorem fi_all_step [Mode] {fs : List Fi} {p : Fi → Bool} {k : Nat} {f : Fi} (h : fs[k]? = some f) (hf : p f = true) (ha : fs.all p = (fs.drop k).all p) : fs.all p = (fs.drop (k + 1)).all p := by
  obtain ⟨h1, rfl⟩ := List.getElem?_eq_some_iff.1 h
  rw [ha, List.drop_eq_getElem_cons h1, List.all_cons, hf, Bool.true_and]
theorem l28All_ac [Mode] (fs : List Fi) (hn : fs.length ≤ 100000000) : AC Tryd.prog 39 [FL fs] H0 (Bo (wrA fs)) H0 := by
  refine AC.of_body 0 Tryd.func39 rfl (fun l h => absurd rfl h) (fun C hC => ?_)
  have hD : ∀ l, ¬ C.D0 l := fun l h => (hC l).1 h rfl
  simp only [startFr, Tryd.ntmps39, List.length_cons, List.length_nil, Nat.reduceAdd, Nat.reduceSub, List.replicate_succ, List.replicate_zero, List.cons_append, List.nil_append]
  repeat' (first | ((first | apply Ba | (apply Bb; (· rfl); (· rfl)) | (apply Bc; (· exact nxE)) | (apply Bd; (· rfl); (· rfl); (· exact nxE))); (· first | exact Ok.seqS rfl rfl rfl | exact Ok.sneS rfl rfl rfl | exact Ok.slen rfl rfl | exact Ok.sjoin rfl rfl rfl (by simp only [List.length_append, List.length_cons, List.length_nil]; omega) | exact Ok.pe)) | ((first | apply Ca | (apply Cb; (· exact nxE))); (· first | exact Ok.e0)) | refine Sx ?_ | (refine Sy (fun h => ?_) (fun h => ?_) <;> try (exfalso; omega; done)) | refine Sz (fun h => ?_) (fun h => ?_))
  refine AW.loop (X := {k : Nat // k ≤ fs.length ∧ fs.all wrF = (fs.drop k).all wrF}) (fun k => ⟨[FL fs, Oo, Oo, I (k.1 : Nat), Oo, Oo, Oo, Oo, Oo, Oo, Oo, Oo, Oo, Oo, Oo, Oo, Oo, Oo, Oo], heapL [], 900⟩) (fun k => fs.length - k.1) ⟨0, Nat.zero_le _, by simp⟩ ?_ (fun k => ?_)
  ·
    (apply Le.headZ [] rfl)
    all_goals (try dsimp only [srcs])
    (case' hfr | hob => (repeat' (first | refine La ?_ ?_ | exact Lc | refine Lo ?_ | refine ⟨⟨_, rfl, ?_⟩, ?_⟩ | refine Lx ?_)))
    all_goals (first | (rfl) | exact Ld)
  obtain ⟨k, hk, hall⟩ := k
  simp only
  by_cases hlt : k < fs.length
  · obtain ⟨f, hf⟩ : ∃ f, fs[k]? = some f := ⟨fs[k], List.getElem?_eq_getElem hlt⟩
    have hrow : (fs.map Fi.row)[((k : Nat) : Int).toNat]? = some [DI f.e, DI f.n, DI f.t] := row_get hf
    have hW := l28Writable_ac f
    cases hb : wrF f with
    | true =>
      rw [hb] at hW
      repeat' (first | ((first | apply Ba | (apply Bb; (· rfl); (· rfl)) | (apply Bc; (· exact nxE)) | (apply Bd; (· rfl); (· rfl); (· exact nxE))); (· first | exact Kz rfl rfl (hW) (Aa (Ad (Ad (Ad An))) An) | exact Ok.seqS rfl rfl rfl | exact Ok.sneS rfl rfl rfl | exact Ok.slen rfl rfl | exact Ok.sjoin rfl rfl rfl (by simp only [List.length_append, List.length_cons, List.length_nil]; omega) | exact Ok.pe)) | ((first | apply Ca | (apply Cb; (· exact nxE))); (· first | exact Ok.e0)) | refine Sx ?_ | (refine Sy (fun h => ?_) (fun h => ?_) <;> try (exfalso; omega; done)) | refine Sz (fun h => ?_) (fun h => ?_))
      refine ⟨⟨k + 1, by omega, fi_all_step hf hb hall⟩, ?_, by simp only; omega⟩
      (apply Le.headZ [] rfl)
      all_goals (try dsimp only [srcs])
      (case' hfr | hob => (repeat' (first | refine La ?_ ?_ | exact Lc | refine Lo ?_ | refine ⟨⟨_, rfl, ?_⟩, ?_⟩ | refine Lx ?_)))
      all_goals (first | (rfl) | exact Ld)
    | false =>
      rw [hb] at hW
      have hA : wrA fs = false := by unfold wrA; rw [fi_all_no hf hb, Bool.false_and]
      rw [hA]
      repeat' (first | ((first | apply Ba | (apply Bb; (· rfl); (· rfl)) | (apply Bc; (· exact nxE)) | (apply Bd; (· rfl); (· rfl); (· exact nxE))); (· first | exact Kz rfl rfl (hW) (Aa (Ad (Ad (Ad An))) An) | exact Ok.seqS rfl rfl rfl | exact Ok.sneS rfl rfl rfl | exact Ok.slen rfl rfl | exact Ok.sjoin rfl rfl rfl (by simp only [List.length_append, List.length_cons, List.length_nil]; omega) | exact Ok.pe)) | ((first | apply Ca | (apply Cb; (· exact nxE))); (· first | exact Ok.e0)) | refine Sx ?_ | (refine Sy (fun h => ?_) (fun h => ?_) <;> try (exfalso; omega; done)) | refine Sz (fun h => ?_) (fun h => ?_))
      refine Ya ?_
      (apply Le.headZ (hs := []) [] rfl)
      all_goals (try dsimp only [srcs])
      (case' hfr => (repeat' (first | refine La ?_ ?_ | exact Lc | refine Lo ?_ | refine ⟨⟨_, rfl, ?_⟩, ?_⟩ | refine Lx ?_)))
      all_goals (first | exact Ld | exact trivial | (rfl))
  ·
    have hA : wrA fs = decide (fs.length ≤ 500) := by unfold wrA; rw [hall, List.drop_of_length_le (by omega)]; simp
    rw [hA]
    repeat' (first | ((first | apply Ba | (apply Bb; (· rfl); (· rfl)) | (apply Bc; (· exact nxE)) | (apply Bd; (· rfl); (· rfl); (· exact nxE))); (· first | exact Ok.seqS rfl rfl rfl | exact Ok.sneS rfl rfl rfl | exact Ok.slen rfl rfl | exact Ok.sjoin rfl rfl rfl (by simp only [List.length_append, List.length_cons, List.length_nil]; omega) | exact Ok.pe)) | ((first | apply Ca | (apply Cb; (· exact nxE))); (· first | exact Ok.e0)) | refine Sx ?_ | (refine Sy (fun h => ?_) (fun h => ?_) <;> try (exfalso; omega; done)) | refine Sz (fun h => ?_) (fun h => ?_))
    refine Ya ?_
    (apply Le.headZ (hs := []) [] rfl)
    all_goals (try dsimp only [srcs])
    (case' hfr => (repeat' (first | refine La ?_ ?_ | exact Lc | refine Lo ?_ | refine ⟨⟨_, rfl, ?_⟩, ?_⟩ | refine Lx ?_)))
    all_goals (first | exact Ld | exact trivial | ((apply decide_eq_decide.2; omega)))
/-! The program's test. -/
theorem isWrFn_ac [Mode] (f : Fi) : AC Tryd.prog 62 [f.av] H0 (Bo (!wrF f)) H0 := by
  obtain ⟨e, n, t⟩ := f
  refine AC.of_body 0 Tryd.func62 rfl (fun l h => absurd rfl h) (fun C hC => ?_)
  have hD : ∀ l, ¬ C.D0 l := fun l h => (hC l).1 h rfl
  simp only [startFr, Tryd.ntmps62, List.length_cons, List.length_nil, Nat.reduceAdd, Nat.reduceSub, List.replicate_succ, List.replicate_zero, List.cons_append, List.nil_append]
  repeat' (first | ((first | apply Ba | (apply Bb; (· rfl); (· rfl)) | (apply Bc; (· exact nxE)) | (apply Bd; (· rfl); (· rfl); (· exact nxE))); (· first | exact Kz rfl rfl (within_ac _ _ _) (Ad (Ad (Ad An))) | exact Ok.seqS rfl rfl rfl | exact Ok.sneS rfl rfl rfl | exact Ok.slen rfl rfl | exact Ok.sjoin rfl rfl rfl (by simp only [List.length_append, List.length_cons, List.length_nil]; omega) | exact Ok.pe)) | ((first | apply Ca | (apply Cb; (· exact nxE))); (· first | exact Ok.e0)) | refine Sx ?_ | (refine Sy (fun h => ?_) (fun h => ?_) <;> try (exfalso; omega; done)) | refine Sz (fun h => ?_) (fun h => ?_))
  all_goals
    refine Ya ?_
    (apply Le.headZ (hs := []) [] rfl)
    all_goals (try dsimp only [srcs])
    (case' hfr => (repeat' (first | refine La ?_ ?_ | exact Lc | refine Lo ?_ | refine ⟨⟨_, rfl, ?_⟩, ?_⟩ | refine Lx ?_)))
    all_goals (first | exact Ld | exact trivial | ((simp [wrF, *]; done)))
set_option maxHeartbeats 1000000 in
theorem indexFuncFi_ac [Mode] (fs : List Fi) (hn : fs.length ≤ 100000000) : AC Tryd.prog 75 [FL fs, .clo (.func 62) [] []] H0 (I (idxOf (fun f => !wrF f) fs 0)) H0 := by
  refine AC.of_body 0 Tryd.func75 rfl (fun l h => absurd rfl h) (fun C hC => ?_)
  have hD : ∀ l, ¬ C.D0 l := fun l h => (hC l).1 h rfl
  simp only [startFr, Tryd.ntmps75, List.length_cons, List.length_nil, Nat.reduceAdd, Nat.reduceSub, List.replicate_succ, List.replicate_zero, List.cons_append, List.nil_append]
  repeat' (first | ((first | apply Ba | (apply Bb; (· rfl); (· rfl)) | (apply Bc; (· exact nxE)) | (apply Bd; (· rfl); (· rfl); (· exact nxE))); (· first | exact Ok.seqS rfl rfl rfl | exact Ok.sneS rfl rfl rfl | exact Ok.slen rfl rfl | exact Ok.sjoin rfl rfl rfl (by simp only [List.length_append, List.length_cons, List.length_nil]; omega) | exact Ok.pe)) | ((first | apply Ca | (apply Cb; (· exact nxE))); (· first | exact Ok.e0)) | refine Sx ?_ | (refine Sy (fun h => ?_) (fun h => ?_) <;> try (exfalso; omega; done)) | refine Sz (fun h => ?_) (fun h => ?_))
  refine AW.loop (X := {k : Nat // k ≤ fs.length ∧ idxOf (fun f => !wrF f) fs 0 = idxOf (fun f => !wrF f) (fs.drop k) k}) (fun k => ⟨[FL fs, .clo (.func 62) [] [], Oo, Oo, Oo, Oo, Oo, I fs.length, I (k.1 : Nat), Oo, Oo, Oo, Oo, Oo, Oo, Oo, Oo, Oo, Oo], heapL [], 900⟩) (fun k => fs.length - k.1) ⟨0, Nat.zero_le _, by simp⟩ ?_ (fun k => ?_)
  ·
    (apply Le.headZ [] rfl)
    all_goals (try dsimp only [srcs])
    (case' hfr | hob => (repeat' (first | refine La ?_ ?_ | exact Lc | refine Lo ?_ | refine ⟨⟨_, rfl, ?_⟩, ?_⟩ | refine Lx ?_)))
    all_goals (first | (rfl) | exact Ld)
  obtain ⟨k, hk, hall⟩ := k
  simp only
  by_cases hlt : k < fs.length
  · obtain ⟨f, hf⟩ : ∃ f, fs[k]? = some f := ⟨fs[k], List.getElem?_eq_getElem hlt⟩
    have hrow : (fs.map Fi.row)[((k : Nat) : Int).toNat]? = some [DI f.e, DI f.n, DI f.t] := row_get hf
    have hst := idxOf_at (f := fun f => !wrF f) hf k
    rw [← hall] at hst
    have hW := isWrFn_ac f
    cases hb : wrF f with
    | true =>
      rw [hb] at hW hst
      repeat' (first | ((first | apply Ba | (apply Bb; (· rfl); (· rfl)) | (apply Bc; (· exact nxE)) | (apply Bd; (· rfl); (· rfl); (· exact nxE))); (· first | exact Kz rfl rfl (hW) (Aa (Ad (Ad (Ad An))) An) | exact Ok.seqS rfl rfl rfl | exact Ok.sneS rfl rfl rfl | exact Ok.slen rfl rfl | exact Ok.sjoin rfl rfl rfl (by simp only [List.length_append, List.length_cons, List.length_nil]; omega) | exact Ok.pe)) | ((first | apply Ca | (apply Cb; (· exact nxE))); (· first | exact Ok.e0)) | refine Sx ?_ | (refine Sy (fun h => ?_) (fun h => ?_) <;> try (exfalso; omega; done)) | refine Sz (fun h => ?_) (fun h => ?_))
      refine ⟨⟨k + 1, by omega, hst⟩, ?_, by simp only; omega⟩
      (apply Le.headZ [] rfl)
      all_goals (try dsimp only [srcs])
      (case' hfr | hob => (repeat' (first | refine La ?_ ?_ | exact Lc | refine Lo ?_ | refine ⟨⟨_, rfl, ?_⟩, ?_⟩ | refine Lx ?_)))
      all_goals (first | (rfl) | exact Ld)
    | false =>
      rw [hb] at hW hst
      rw [hst]
      repeat' (first | ((first | apply Ba | (apply Bb; (· rfl); (· rfl)) | (apply Bc; (· exact nxE)) | (apply Bd; (· rfl); (· rfl); (· exact nxE))); (· first | exact Kz rfl rfl (hW) (Aa (Ad (Ad (Ad An))) An) | exact Ok.seqS rfl rfl rfl | exact Ok.sneS rfl rfl rfl | exact Ok.slen rfl rfl | exact Ok.sjoin rfl rfl rfl (by simp only [List.length_append, List.length_cons, List.length_nil]; omega) | exact Ok.pe)) | ((first | apply Ca | (apply Cb; (· exact nxE))); (· first | exact Ok.e0)) | refine Sx ?_ | (refine Sy (fun h => ?_) (fun h => ?_) <;> try (exfalso; omega; done)) | refine Sz (fun h => ?_) (fun h => ?_))
      refine Ya ?_
      (apply Le.headZ (hs := []) [] rfl)
      all_goals (try dsimp only [srcs])
      (case' hfr => (repeat' (first | refine La ?_ ?_ | exact Lc | refine Lo ?_ | refine ⟨⟨_, rfl, ?_⟩, ?_⟩ | refine Lx ?_)))
      all_goals (first | exact Ld | exact trivial | (rfl))
  ·
    rw [hall, List.drop_of_length_le (by omega)]
    repeat' (first | ((first | apply Ba | (apply Bb; (· rfl); (· rfl)) | (apply Bc; (· exact nxE)) | (apply Bd; (· rfl); (· rfl); (· exact nxE))); (· first | exact Ok.seqS rfl rfl rfl | exact Ok.sneS rfl rfl rfl | exact Ok.slen rfl rfl | exact Ok.sjoin rfl rfl rfl (by simp only [List.length_append, List.length_cons, List.length_nil]; omega) | exact Ok.pe)) | ((first | apply Ca | (apply Cb; (· exact nxE))); (· first | exact Ok.e0)) | refine Sx ?_ | (refine Sy (fun h => ?_) (fun h => ?_) <;> try (exfalso; omega; done)) | refine Sz (fun h => ?_) (fun h => ?_))
    refine Ya ?_
    (apply Le.headZ (hs := []) [] rfl)
    all_goals (try dsimp only [srcs])
    (case' hfr => (repeat' (first | refine La ?_ ?_ | exact Lc | refine Lo ?_ | refine ⟨⟨_, rfl, ?_⟩, ?_⟩ | refine Lx ?_)))
    all_goals (first | exact Ld | exact trivial | (rfl))
theorem containsFuncFi_ac [Mode] (fs : List Fi) (hn : fs.length ≤ 100000000) : AC Tryd.prog 61 [FL fs, .clo (.func 62) [] []] H0 (Bo (fs.any fun f => !wrF f)) H0 := by
  have hI := indexFuncFi_ac fs hn
  have hA := idxOf_any (f := fun f => !wrF f) fs 0
  rw [← hA]
  refine AC.of_body 0 Tryd.func61 rfl (fun l h => absurd rfl h) (fun C hC => ?_)
  have hD : ∀ l, ¬ C.D0 l := fun l h => (hC l).1 h rfl
  simp only [startFr, Tryd.ntmps61, List.length_cons, List.length_nil, Nat.reduceAdd, Nat.reduceSub, List.replicate_succ, List.replicate_zero, List.cons_append, List.nil_append]
  repeat' (first | ((first | apply Ba | (apply Bb; (· rfl); (· rfl)) | (apply Bc; (· exact nxE)) | (apply Bd; (· rfl); (· rfl); (· exact nxE))); (· first | exact OpOk.call0 [] rfl rfl hI (.inl rfl) (fun _ => by simp [rn]) (ARs.cons (AR.dd _) (ARs.cons (AR.clo' .nil .nil) ARs.nil)) | exact Ok.seqS rfl rfl rfl | exact Ok.sneS rfl rfl rfl | exact Ok.slen rfl rfl | exact Ok.sjoin rfl rfl rfl (by simp only [List.length_append, List.length_cons, List.length_nil]; omega) | exact Ok.pe)) | ((first | apply Ca | (apply Cb; (· exact nxE))); (· first | exact Ok.e0)) | refine Sx ?_ | (refine Sy (fun h => ?_) (fun h => ?_) <;> try (exfalso; omega; done)) | refine Sz (fun h => ?_) (fun h => ?_))
  refine Ya ?_
  (apply Le.headZ (hs := []) [] rfl)
  all_goals (try dsimp only [srcs])
  (case' hfr => (repeat' (first | refine La ?_ ?_ | exact Lc | refine Lo ?_ | refine ⟨⟨_, rfl, ?_⟩, ?_⟩ | refine Lx ?_)))
  all_goals (first | exact Ld | exact trivial | (rfl))
theorem isWritable_ac [Mode] (fs : List Fi) (hn : fs.length ≤ 100000000) : AC Tryd.prog 42 [FL fs] H0 (Bo (wrA fs)) H0 := by
  have hA : (!fs.any fun f => !wrF f) = fs.all wrF := by rw [List.all_eq_not_any_not]
  have hI := containsFuncFi_ac fs hn
  by_cases hl : fs.length ≤ 500
  · have e : wrA fs = !fs.any fun f => !wrF f := by unfold wrA; rw [hA, decide_eq_true hl, Bool.and_true]
    rw [e]
    refine AC.of_body 0 Tryd.func42 rfl (fun l h => absurd rfl h) (fun C hC => ?_)
    have hD : ∀ l, ¬ C.D0 l := fun l h => (hC l).1 h rfl
    simp only [startFr, Tryd.ntmps42, List.length_cons, List.length_nil, Nat.reduceAdd, Nat.reduceSub, List.replicate_succ, List.replicate_zero, List.cons_append, List.nil_append]
    repeat' (first | ((first | apply Ba | (apply Bb; (· rfl); (· rfl)) | (apply Bc; (· exact nxE)) | (apply Bd; (· rfl); (· rfl); (· exact nxE))); (· first | exact OpOk.call0 [] rfl rfl hI (.inl rfl) (fun _ => by simp [rn]) (ARs.cons (AR.dd _) (ARs.cons (AR.clo' .nil .nil) ARs.nil)) | exact Ok.seqS rfl rfl rfl | exact Ok.sneS rfl rfl rfl | exact Ok.slen rfl rfl | exact Ok.sjoin rfl rfl rfl (by simp only [List.length_append, List.length_cons, List.length_nil]; omega) | exact Ok.pe)) | ((first | apply Ca | (apply Cb; (· exact nxE))); (· first | exact Ok.e0)) | refine Sx ?_ | (refine Sy (fun h => ?_) (fun h => ?_) <;> try (exfalso; omega; done)) | refine Sz (fun h => ?_) (fun h => ?_))
    refine Ya ?_
    (apply Le.headZ (hs := []) [] rfl)
    all_goals (try dsimp only [srcs])
    (case' hfr => (repeat' (first | refine La ?_ ?_ | exact Lc | refine Lo ?_ | refine ⟨⟨_, rfl, ?_⟩, ?_⟩ | refine Lx ?_)))
    all_goals (first | exact Ld | exact trivial | (rfl))
  · have e : wrA fs = false := by unfold wrA; rw [decide_eq_false hl, Bool.and_false]
    rw [e]
    refine AC.of_body 0 Tryd.func42 rfl (fun l h => absurd rfl h) (fun C hC => ?_)
    have hD : ∀ l, ¬ C.D0 l := fun l h => (hC l).1 h rfl
    simp only [startFr, Tryd.ntmps42, List.length_cons, List.length_nil, Nat.reduceAdd, Nat.reduceSub, List.replicate_succ, List.replicate_zero, List.cons_append, List.nil_append]
    repeat' (first | ((first | apply Ba | (apply Bb; (· rfl); (· rfl)) | (apply Bc; (· exact nxE)) | (apply Bd; (· rfl); (· rfl); (· exact nxE))); (· first | exact OpOk.call0 [] rfl rfl hI (.inl rfl) (fun _ => by simp [rn]) (ARs.cons (AR.dd _) (ARs.cons (AR.clo' .nil .nil) ARs.nil)) | exact Ok.seqS rfl rfl rfl | exact Ok.sneS rfl rfl rfl | exact Ok.slen rfl rfl | exact Ok.sjoin rfl rfl rfl (by simp only [List.length_append, List.length_cons, List.length_nil]; omega) | exact Ok.pe)) | ((first | apply Ca | (apply Cb; (· exact nxE))); (· first | exact Ok.e0)) | refine Sx ?_ | (refine Sy (fun h => ?_) (fun h => ?_) <;> try (exfalso; omega; done)) | refine Sz (fun h => ?_) (fun h => ?_))
    refine Ya ?_
    (apply Le.headZ (hs := []) [] rfl)
    all_goals (try dsimp only [srcs])
    (case' hfr => (repeat' (first | refine La ?_ ?_ | exact Lc | refine Lo ?_ | refine ⟨⟨_, rfl, ?_⟩, ?_⟩ | refine Lx ?_)))
    all_goals (first | exact Ld | exact trivial | (rfl))
/-! Lines. -/
/-- The chain after a firing. -/
def nxI (c : Int) (f : Fi) : Int := (31 * c + 7 * f.e + f.t).tmod 9973
theorem nxI_bd [Mode] {c : Int} {f : Fi} (h0 : 0 ≤ c) (hf : wrF f = true) : 0 ≤ nxI c f ∧ nxI c f < 9973 := by
  obtain ⟨⟨h1, _⟩, h2, _⟩ := wrF_iff.1 hf
  unfold nxI
  rw [Int.tmod_eq_emod_of_nonneg (by omega)]
  omega
/-- The line of a firing. -/
def trL (c : Int) (f : Fi) : List UInt8 := dec f.e.toNat ++ [32] ++ dec f.t.toNat ++ [32] ++ dec (nxI c f).toNat
def trN (c : Int) (f : Fi) : List UInt8 := trL c f ++ [10]
theorem trN_len [Mode] {c : Int} {f : Fi} (h0 : 0 ≤ c) (hf : wrF f = true) : (trN c f).length ≤ 60 := by
  obtain ⟨⟨h1, h2⟩, h3, h4⟩ := wrF_iff.1 hf
  have hb := nxI_bd h0 hf
  have l1 := dec_len f.e.toNat (by omega)
  have l2 := dec_len f.t.toNat (by omega)
  have l3 := dec_len (nxI c f).toNat (by omega)
  simp only [trN, trL, List.length_append, List.length_cons, List.length_nil]
  omega
theorem l28Next_ac [Mode] (c : Int) (f : Fi) (h0 : 0 ≤ c) (h1 : c < 9973) (hf : wrF f = true) : AC Tryd.prog 40 [I c, f.av] H0 (I (nxI c f)) H0 := by
  obtain ⟨⟨h2, h3⟩, h4, h5⟩ := wrF_iff.1 hf
  obtain ⟨e, n, t⟩ := f
  simp only at h2 h3 h4 h5
  refine AC.of_body 0 Tryd.func40 rfl (fun l h => absurd rfl h) (fun C hC => ?_)
  have hD : ∀ l, ¬ C.D0 l := fun l h => (hC l).1 h rfl
  simp only [startFr, Tryd.ntmps40, List.length_cons, List.length_nil, Nat.reduceAdd, Nat.reduceSub, List.replicate_succ, List.replicate_zero, List.cons_append, List.nil_append]
  repeat' (first | ((first | apply Ba | (apply Bb; (· rfl); (· rfl)) | (apply Bc; (· exact nxE)) | (apply Bd; (· rfl); (· rfl); (· exact nxE))); (· first | exact Ok.rem rfl rfl rfl (by decide) | exact Ok.seqS rfl rfl rfl | exact Ok.sneS rfl rfl rfl | exact Ok.slen rfl rfl | exact Ok.sjoin rfl rfl rfl (by simp only [List.length_append, List.length_cons, List.length_nil]; omega) | exact Ok.pe)) | ((first | apply Ca | (apply Cb; (· exact nxE))); (· first | exact Ok.e0)) | refine Sx ?_ | (refine Sy (fun h => ?_) (fun h => ?_) <;> try (exfalso; omega; done)) | refine Sz (fun h => ?_) (fun h => ?_))
  refine Ya ?_
  (apply Le.headZ (hs := []) [] rfl)
  all_goals (try dsimp only [srcs])
  (case' hfr => (repeat' (first | refine La ?_ ?_ | exact Lc | refine Lo ?_ | refine ⟨⟨_, rfl, ?_⟩, ?_⟩ | refine Lx ?_)))
  all_goals (first | exact Ld | exact trivial | (rfl))
set_option maxHeartbeats 1000000 in
theorem l28Line_ac [Mode] (c : Int) (f : Fi) (h0 : 0 ≤ c) (h1 : c < 9973) (hf : wrF f = true) : AC Tryd.prog 45 [f.av, I (nxI c f)] H0 (Str (trL c f)) H0 := by
  obtain ⟨⟨h2, h3⟩, h4, h5⟩ := wrF_iff.1 hf
  obtain ⟨h6, h7⟩ := nxI_bd h0 hf
  have l1 := dec_len f.e.toNat (by omega)
  have l2 := dec_len f.t.toNat (by omega)
  have l3 := dec_len (nxI c f).toNat (by omega)
  have k1 := l01DecI_ac f.e h2 (by omega)
  have k2 := l01DecI_ac f.t h4 (by omega)
  have k3 := l01DecI_ac (nxI c f) h6 (by omega)
  unfold trL
  generalize nxI c f = q at *
  obtain ⟨e, n, t⟩ := f
  simp only at *
  refine AC.of_body 0 Tryd.func45 rfl (fun l h => absurd rfl h) (fun C hC => ?_)
  have hD : ∀ l, ¬ C.D0 l := fun l h => (hC l).1 h rfl
  simp only [startFr, Tryd.ntmps45, List.length_cons, List.length_nil, Nat.reduceAdd, Nat.reduceSub, List.replicate_succ, List.replicate_zero, List.cons_append, List.nil_append]
  repeat' (first | ((first | apply Ba | (apply Bb; (· rfl); (· rfl)) | (apply Bc; (· exact nxE)) | (apply Bd; (· rfl); (· rfl); (· exact nxE))); (· first | exact Kz rfl rfl (k1) (Ad An) | exact Kz rfl rfl (k2) (Ad An) | exact Kz rfl rfl (k3) (Ad An) | exact Ok.seqS rfl rfl rfl | exact Ok.sneS rfl rfl rfl | exact Ok.slen rfl rfl | exact Ok.sjoin rfl rfl rfl (by simp only [List.length_append, List.length_cons, List.length_nil]; omega) | exact Ok.pe)) | ((first | apply Ca | (apply Cb; (· exact nxE))); (· first | exact Ok.e0)) | refine Sx ?_ | (refine Sy (fun h => ?_) (fun h => ?_) <;> try (exfalso; omega; done)) | refine Sz (fun h => ?_) (fun h => ?_))
  refine Ya ?_
  (apply Le.headZ (hs := []) [] rfl)
  all_goals (try dsimp only [srcs])
  (case' hfr => (repeat' (first | refine La ?_ ?_ | exact Lc | refine Lo ?_ | refine ⟨⟨_, rfl, ?_⟩, ?_⟩ | refine Lx ?_)))
  all_goals (first | exact Ld | exact trivial | (rfl))
set_option maxHeartbeats 1000000 in
theorem traceLine_ac [Mode] [HasTab] (c : Int) (f : Fi) (h0 : 0 ≤ c) (h1 : c < 9973) (hf : wrF f = true) : AC Tryd.prog 63 [f.av, I c] H0 (.tup [Str (trN c f), I (nxI c f)]) H0 := by
  obtain ⟨⟨h2, h3⟩, h4, h5⟩ := wrF_iff.1 hf
  obtain ⟨h6, h7⟩ := nxI_bd h0 hf
  have l1 := dec_len f.e.toNat (by omega)
  have l2 := dec_len f.t.toNat (by omega)
  have l3 := dec_len (nxI c f).toNat (by omega)
  have k1 := decimalP_ac f.e h2 (by omega)
  have k2 := decimalP_ac f.t h4 (by omega)
  have k3 := decimalP_ac (nxI c f) h6 (by omega)
  unfold trN trL
  unfold nxI at *
  obtain ⟨e, n, t⟩ := f
  simp only at *
  refine AC.of_body 0 Tryd.func63 rfl (fun l h => absurd rfl h) (fun C hC => ?_)
  have hD : ∀ l, ¬ C.D0 l := fun l h => (hC l).1 h rfl
  simp only [startFr, Tryd.ntmps63, List.length_cons, List.length_nil, Nat.reduceAdd, Nat.reduceSub, List.replicate_succ, List.replicate_zero, List.cons_append, List.nil_append]
  repeat' (first | ((first | apply Ba | (apply Bb; (· rfl); (· rfl)) | (apply Bc; (· exact nxE)) | (apply Bd; (· rfl); (· rfl); (· exact nxE))); (· first | exact Kz rfl rfl (k1) (Ad An) | exact Kz rfl rfl (k2) (Ad An) | exact Kz rfl rfl (k3) (Ad An) | exact Ok.rem rfl rfl rfl (by decide) | exact Ok.seqS rfl rfl rfl | exact Ok.sneS rfl rfl rfl | exact Ok.slen rfl rfl | exact Ok.sjoin rfl rfl rfl (by simp only [List.length_append, List.length_cons, List.length_nil]; omega) | exact Ok.pe)) | ((first | apply Ca | (apply Cb; (· exact nxE))); (· first | exact Ok.e0)) | refine Sx ?_ | (refine Sy (fun h => ?_) (fun h => ?_) <;> try (exfalso; omega; done)) | refine Sz (fun h => ?_) (fun h => ?_))
  refine Yb ?_
  (apply Le.headZ (hs := []) [] rfl)
  all_goals (try dsimp only [srcs])
  (case' hfr => (repeat' (first | refine La ?_ ?_ | exact Lc | refine Lo ?_ | refine ⟨⟨_, rfl, ?_⟩, ?_⟩ | refine Lx ?_)))
  all_goals (first | exact Ld | exact trivial | (rfl))
/-- The chain after all firings, and their text. -/
def chA : Int → List Fi → Int
  | c, [] => c
  | c, f :: fs => chA (nxI c f) fs
def trT : Int → List Fi → List UInt8
  | _, [] => []
  | c, f :: fs => trN c f ++ trT (nxI c f) fs
theorem chA_snoc [Mode] {f : Fi} : ∀ {c : Int} {fs : List Fi}, chA c (fs ++ [f]) = nxI (chA c fs) f
  | c, [] => rfl
  | c, g :: fs => by rw [List.cons_append, chA, chA, chA_snoc]
theorem trT_snoc [Mode] {f : Fi} : ∀ {c : Int} {fs : List Fi}, trT c (fs ++ [f]) = trT c fs ++ trN (chA c fs) f
  | c, [] => by simp [trT, chA]
  | c, g :: fs => by rw [List.cons_append, trT, trT, trT_snoc, chA, List.append_assoc]
theorem chA_bd [Mode] : ∀ {c : Int} {fs : List Fi}, 0 ≤ c → c < 9973 → fs.all wrF = true → 0 ≤ chA c fs ∧ chA c fs < 9973
  | c, [], h0, h1, _ => ⟨h0, h1⟩
  | c, f :: fs, h0, h1, hf => by
    rw [List.all_cons, Bool.and_eq_true] at hf
    have := nxI_bd h0 hf.1
    show 0 ≤ chA (nxI c f) fs ∧ chA (nxI c f) fs < 9973
    exact chA_bd this.1 this.2 hf.2
theorem trT_len [Mode] : ∀ {c : Int} {fs : List Fi}, 0 ≤ c → fs.all wrF = true → (trT c fs).length ≤ 60 * fs.length
  | c, [], _, _ => by simp [trT]
  | c, f :: fs, h0, hf => by
    rw [List.all_cons, Bool.and_eq_true] at hf
    have h1 := trN_len h0 hf.1
    have h2 := trT_len (nxI_bd h0 hf.1).1 hf.2
    rw [trT, List.length_append, List.length_cons]
    omega
end Go.Proofs.YtdgodkpobomneaaDoor
end

section
namespace Go.Proofs.YtdgodkpobomneaaDoor
set_option linter.unusedSimpArgs false
set_option linter.unusedVariables false
open Go Go.RowKit

/-- A contract of the reading, used in the machine's terms. -/
theorem AC.at [Mode] {P : Program} {f : FuncId} {args : List AV} {res : AV} {w : World} {vs : List Value} (h : AC P f args H0 res H0) (hg : Glb (fun b => b < w.heap.size) w) (hv : VRs (fun _ => none) (fun b => b < w.heap.size) w args vs) :
    Calls P f vs.toArray w fun e w' => ∃ v ι F, e = .returned v ∧ VR ι F w' res v ∧ Below w.heap.size w w' := by
  refine (h (fun _ => none) (fun b => b < w.heap.size) w vs ⟨fun l o h => (by cases h), fun l l' b s s' h => absurd rfl h, fun l b s h => absurd rfl h, fun b h => h, hg⟩ (fun _ _ => rfl) hv).mono ?_
  rintro e w' ⟨v, ι', F', rfl, hr, _, hst, _⟩
  exact ⟨v, ι', F', rfl, hr, hst.os, hst.tape, hst.output, hst.size, fun b hb => hst.block b hb fun ⟨l, hl, _⟩ => absurd rfl hl⟩
/-- A slice of records that is only read, as the machine has it. -/
theorem VR.slR [Mode] {ι : Iota} {F : Nat → Prop} {w : World} {α : Type} {k : Nat} {enc : α → List Value} {row : α → List D} (hrow : ∀ x, row x = (enc x).map .v) {xs : List α} {v : Value} (h : VR ι F w (.d (.sl k (xs.map row))) v) :
    ∃ (a : Option Addr) (cap : Nat), v = .slice a xs.length cap ∧ ∀ (i : Nat) (x : α), xs[i]? = some x → 0 < (enc x).length → ∃ b off, a = some ⟨b, off, none⟩ ∧ F b ∧ ∀ (j : Nat) (c : Value), (enc x)[j]? = some c → w.cell? ⟨b, off + i * k + j, none⟩ = some c := by
  have hd := h.sl_inv
  clear h
  generalize hrows : xs.map row = rows at hd
  cases hd with
  | sl _ _ a cap g hcap h hd =>
    subst hrows
    refine ⟨a, cap, by simp, fun i x hx hpos => ?_⟩
    have hr : (xs.map row)[i]? = some (row x) := by simp [hx]
    have hget : ∀ (j : Nat) (c : Value), (enc x)[j]? = some c → (row x)[j]? = some (.v c) := fun j c hj => by rw [hrow]; simp [hj]
    obtain ⟨b, off, e, hF, _⟩ := h i _ 0 _ hr (hget 0 _ (List.getElem?_eq_getElem hpos))
    refine ⟨b, off, e, hF, fun j c hj => ?_⟩
    obtain ⟨b', off', e', _, hc⟩ := h i _ j _ hr (hget j c hj)
    rw [e] at e'
    simp only [Option.some.injEq, Addr.mk.injEq, and_true] at e'
    obtain ⟨rfl, rfl⟩ := e'
    have hv := hd i _ j _ hr (hget j c hj)
    generalize hq : g i j = q at hv hc
    cases hv
    exact hc
theorem isB_stay [Mode] {T e : TypeId} {B b : Nat} {bs : List Value} {w w' : World} (h : Lib.IsBuilder T e B b bs w) (hw : ∀ k, k < w.heap.size → w'.heap[k]? = w.heap[k]?) : Lib.IsBuilder T e B b bs w' := by
  have key : ∀ {p : Value}, Lib.BuilderAt T e B b p bs w → Lib.BuilderAt T e B b p bs w' := by
    rintro p ⟨hB, v, hb, hown, hne⟩
    have hlt : b < w.heap.size := (Array.getElem?_eq_some_iff.1 hb).1
    refine ⟨hB, v, by rw [hw b hlt]; exact hb, ?_, hne⟩
    obtain ⟨h1, h2⟩ := hown
    refine ⟨h1, h2.imp id ?_⟩
    rintro ⟨g, cap, cur, e1, e2, e3, e4⟩
    exact ⟨g, cap, cur, e1, e2, by rw [hw g (Array.getElem?_eq_some_iff.1 e3).1]; exact e3, e4⟩
  exact h.imp key key
def Fi.enc (f : Fi) : List Value := [.int .i64 f.e, .int .i64 f.n, .int .i64 f.t]
theorem traceLine_calls [Mode] [HasTab] (c : Int) (f : Fi) (h0 : 0 ≤ c) (h1 : c < 9973) (hf : wrF f = true) (w : World) (hg : Glb (fun b => b < w.heap.size) w) :
    Calls Tryd.prog 63 #[.agg #[.int .i64 f.e, .int .i64 f.n, .int .i64 f.t], .int .i64 c] w fun e w' => e = .returned (.tuple #[.string ⟨(trN c f).toArray⟩, .int .i64 (nxI c f)]) ∧ Below w.heap.size w w' := by
  refine ((traceLine_ac c f h0 h1 hf).at hg (vs := [.agg #[.int .i64 f.e, .int .i64 f.n, .int .i64 f.t], .int .i64 c]) (.cons (VRs.agg (.cons (.d (.v _)) (.cons (.d (.v _)) (.cons (.d (.v _)) .nil)))) (.cons (.d (.v _)) .nil))).mono ?_
  rintro e w' ⟨v, ι, F, rfl, hr, hb⟩
  obtain ⟨vs, rfl, hl, hv⟩ := hr.tup_inv
  match vs, hl with
  | [a, b], _ =>
    have ha := (hv 0 _ a rfl rfl).v_inv
    have hb' := (hv 1 _ b rfl rfl).v_inv
    subst ha hb'
    exact ⟨rfl, hb⟩
set_option maxRecDepth 8000 in
set_option maxHeartbeats 1600000 in
theorem traceText_calls [Mode] [HasTab] (fs : List Fi) (hw : fs.all wrF = true) (hl : fs.length ≤ 500) (a : Option Addr) (cap : Nat) (w : World) (hG : ∀ W', Below w.heap.size w W' → Glb (fun b => b < W'.heap.size) W')
    (rx : ∀ (i : Nat) (x : Fi), fs[i]? = some x → 0 < x.enc.length → ∃ b off, a = some ⟨b, off, none⟩ ∧ b < w.heap.size ∧ ∀ (j : Nat) (c : Value), x.enc[j]? = some c → w.cell? ⟨b, off + i * 3 + j, none⟩ = some c) :
    Calls Tryd.prog 43 #[.slice a fs.length cap] w fun e w' => e = .returned (.tuple #[.string ⟨(trT 1 fs).toArray⟩, .int .i64 (chA 1 fs)]) ∧ Below w.heap.size w w' := by
  go_enter Tryd.func43, Tryd.ntmps43
  go_wp2
  go_loopw [5, 12] (fun c i wr => ∃ k : Nat, k ≤ fs.length ∧ i = .int .i64 k ∧ c = .int .i64 (chA 1 (fs.take k)) ∧ Lib.IsBuilder 91 5 w.heap.size w.heap.size (Lib.byteCells (trT 1 (fs.take k))) wr ∧ Below w.heap.size w wr) (fun _ i _ => fs.length - (intOf i).toNat)
  case atStart => exact ⟨0, Nat.zero_le _, rfl, rfl, Lib.fresh_isBuilder _ _ w, (Below.refl _ _).alloc (Nat.le_refl _) _⟩
  case round =>
    obtain ⟨k, hk, rfl, rfl, hB, hb⟩ := hrel
    by_cases hlt : k < fs.length
    · obtain ⟨f, hf⟩ : ∃ f, fs[k]? = some f := ⟨fs[k], List.getElem?_eq_getElem hlt⟩
      have hfw : wrF f = true := List.all_eq_true.1 hw f (List.mem_of_getElem? hf)
      have htk : fs.take (k + 1) = fs.take k ++ [f] := by rw [List.take_add_one, hf]; rfl
      have hwk : (fs.take k).all wrF = true := List.all_eq_true.2 fun x hx => List.all_eq_true.1 hw x (List.mem_of_mem_take hx)
      have hbd := chA_bd (c := 1) (by decide) (by decide) hwk
      have hT := trT_len (c := 1) (by decide) hwk
      have hTL := List.length_take_le k fs
      have hN := trN_len hbd.1 hfw
      have hs1 : trT 1 (fs.take (k + 1)) = trT 1 (fs.take k) ++ trN (chA 1 (fs.take k)) f := by rw [htk, trT_snoc]
      have hs2 : chA 1 (fs.take (k + 1)) = nxI (chA 1 (fs.take k)) f := by rw [htk, chA_snoc]
      obtain ⟨b, off, rfl, hbl, hc⟩ := rx k f hf (by simp [Fi.enc])
      have c0 := stay hb (Nat.le_refl _) (hc 0 _ rfl)
      have c1 := stay hb (Nat.le_refl _) (hc 1 _ rfl)
      have c2 := stay hb (Nat.le_refl _) (hc 2 _ rfl)
      have hz := hb.size
      clear hc rx
      generalize chA 1 (fs.take k) = ch at *
      generalize trT 1 (fs.take k) = tx at *
      obtain ⟨fe, fn, ft⟩ := f
      simp only [Nat.add_zero] at c0 c1 c2
      have hB1 : ∀ o, Lib.IsBuilder 91 5 w.heap.size w.heap.size (Lib.byteCells tx) (wr.alloc o) := fun o => isB_stay hB fun k hk => Below.heap_alloc _ _ _ hk
      have hb1 : ∀ o, Below w.heap.size w (wr.alloc o) := fun o => hb.alloc hz o
      have hlen : (Lib.byteCells tx).length + (ByteArray.mk (trN ch ⟨fe, fn, ft⟩).toArray).size ≤ 140737488355328 := by rw [Lib.byteCells_length, size_mk]; omega
      go_wp2_with (first
        | (go_at_call 63; refine (traceLine_calls ch ⟨fe, fn, ft⟩ hbd.1 hbd.2 hfw _ (hG _ (hb1 _))).mono ?_; rintro e w1 ⟨rfl, hl1⟩; have hB2 := isB_stay (hB1 _) (fun k hk => hl1.block k hk); have hb2 := (hb1 _).trans (hl1.mono (hb1 _).size); clear hB1 hb1 hl1 hG)
        | (go_at_call 64; refine (Tryd.Builder_WriteString _ _ _ _ _ hB2 hlen hb2.size).mono ?_; rintro e w2 ⟨rfl, hB3, hb3⟩))
      refine ⟨⟨k + 1, by omega, by simp, by rw [hs2], ?_, hb2.trans hb3⟩, by simp [intOf]; omega⟩
      rw [hs1, Lib.byteCells_append]
      exact .inr hB3
    · obtain rfl : k = fs.length := by omega
      rw [List.take_length] at hB ⊢
      have hz := hb.size
      go_wp2_with (go_at_call 65; refine (Tryd.Builder_String_any _ _ (trT 1 fs) _ hB hz).mono ?_; rintro e w2 ⟨rfl, hb3⟩)
      go_ret2
      exact ⟨rfl, hb.trans hb3⟩
theorem traceText_ac [Mode] [HasTab] (fs : List Fi) (hw : fs.all wrF = true) (hl : fs.length ≤ 500) : AC Tryd.prog 43 [FL fs] H0 (.tup [Str (trT 1 fs), I (chA 1 fs)]) H0 := AC.ofCalls fun ι F w vs hs hv => by
  obtain ⟨hvl, hvv⟩ := hv
  match vs, hvl with
  | [v], _ =>
    obtain ⟨a, cap, rfl, rx⟩ := (hvv 0 _ v rfl rfl).slR (enc := Fi.enc) (fun _ => rfl)
    refine (traceText_calls fs hw hl a cap w (fun W' hb => hs.gl.mono (fun b hb' => Nat.lt_of_lt_of_le (hs.lt b hb') hb.size) (fun b hb' => hb.block b (hs.lt b hb'))) (fun i x hx hp => ?_)).mono ?_
    · obtain ⟨b, off, e, hF, hc⟩ := rx i x hx hp
      exact ⟨b, off, e, hs.lt b hF, hc⟩
    · rintro e w' ⟨rfl, hb⟩
      exact ⟨_, rfl, fun _ _ => VRs.tup (.cons (.d (.v _)) (.cons (.d (.v _)) .nil)), hb⟩
end Go.Proofs.YtdgodkpobomneaaDoor
end
