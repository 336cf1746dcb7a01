/-
  Walks in the abstract reading, part 1.
-/
import Derived.Test.YtofakjlamoigcaaGreatDoorProg
import Derived.Test.YtofakjlamoigcaaGreatDoorKrA1
import Derived.ProofKit
import Derived.Deep.Slices
import Derived.Test.YtofakjlamoigcaaGreatDoorKrA2
import Derived.Shelf.LaysM
import Derived.Shelf.LaysC
import Derived.Shelf.Strings.Builder1
import Derived.Shelf.Strconv.Itoa4
import Derived.Shelf.Strconv.ParseIntPublic10
import Derived.Shelf.Strings.Cut
import Derived.Shelf.Strings.Split
import Derived.Lib.ItoaNum
import Derived.Lib.ParseIntB
import Derived.Lib.Split
import Derived.Test.YtofakjlamoigcaaGreatDoorKrA3
import Derived.Lib.AppendIntMem
import Derived.Lib.AtoiErrMem
section
namespace Go.Proofs.YtofakjlamoigcaaGreatDoor
set_option linter.unusedSimpArgs false
set_option linter.unusedVariables false
open Go.RowKit Go.ChangeShapes Go.WideShapes Go.Deep

section
variable {H : Type} {enc : TypeId × Value → H} {w : World} {base : Nat} {spare : Nat → Bool} {held : Bool} {fuel : Nat} {cs : List Value} {x : DataW H × List MemPlace}
theorem c_int64 : Tryz.prog.cellsOf 2 = 1 := by kernel_rfl
/-- A field that is an integer: its cell. -/
theorem fld {cs : List Value} {off : Nat} {r : Option (DataW H × List MemPlace)} (hr : ∃ y, r = some y) (h : DataW.trod enc Tryz.prog w base spare held fuel 2 ((cs.drop off).take (Tryz.prog.cellsOf 2)) = r) : ∃ n : Int, cs[off]? = some (.int .i64 n) := by
  obtain ⟨y, rfl⟩ := hr
  obtain ⟨n, e, _⟩ := DataW.trod_int Tryz.underlying2 h
  rw [c_int64] at e
  refine ⟨n, ?_⟩
  have : (cs.drop off)[0]? = some (.int .i64 n) := by
    have h1 : ((cs.drop off).take 1)[0]? = some (.int .i64 n) := by rw [e]; rfl
    rw [List.getElem?_take] at h1
    simpa using h1
  simpa using this
theorem get_some {α : Type} {xs : List α} {n i : Nat} (h : xs.length = n) (hi : i < n) : ∃ y, xs[i]? = some y := ⟨_, List.getElem?_eq_getElem (h ▸ hi)⟩
set_option maxRecDepth 100000 in
theorem rd_place (h : DataW.trod enc Tryz.prog w base spare held fuel 117 cs = some x) : ∃ p : Pl, cs = p.enc := by
  obtain ⟨xs, n, _, _, hl, hx, hf⟩ := DataW.trod_struct Tryz.underlying117 h
  rw [show Tryz.prog.cellsOf 117 = 4 by kernel_rfl] at hl
  obtain ⟨a, ha⟩ := fld (get_some hx (by decide)) (hf 0 _ rfl)
  obtain ⟨b, hb⟩ := fld (get_some hx (by decide)) (hf 1 _ rfl)
  obtain ⟨c, hc⟩ := fld (get_some hx (by decide)) (hf 2 _ rfl)
  obtain ⟨d, hd⟩ := fld (get_some hx (by decide)) (hf 3 _ rfl)
  match cs, hl with
  | [c0, c1, c2, c3], _ =>
    simp at ha hb hc hd
    subst ha hb hc hd
    exact ⟨⟨a, b, c, d⟩, rfl⟩
/-- A slice of records that came in. -/
theorem rd_slice {α : Type} [Inhabited α] {k : Nat} {t e : TypeId} {enc' : α → List Value} (ht : Tryz.prog.underlying t = some (.slice e)) (hk : Tryz.prog.cellsOf e = k) (hk0 : 0 < k) (he : ∀ x, (enc' x).length = k)
    (hrd : ∀ {fuel : Nat} {cs : List Value} {x : DataW H × List MemPlace}, DataW.trod enc Tryz.prog w base spare held fuel e cs = some x → ∃ p : α, cs = enc' p)
    (h : DataW.trod enc Tryz.prog w base spare held fuel t cs = some x) : ∃ (a : Option Addr) (xs : List α) (cap : Nat), cs = [.slice a xs.length cap] ∧ xs.length ≤ maxLen ∧ xs.length ≤ cap ∧ SlR w k enc' a xs := by
  rcases open_slice ht h with ⟨hc, _⟩ | ⟨a, len, cap, m, n, D, Q, hc, _, hl, hm, hmm, _, hi⟩
  · exact ⟨none, [], 0, hc, Nat.zero_le _, Nat.zero_le _, SlR.nil _ _ _ _⟩
  · have hlm : len ≤ m := by rw [hmm]; split <;> omega
    obtain ⟨f, hf⟩ := choose_lt (α := α) (p := fun i p => w.cells? base (a.add (i * k)) k = some (enc' p)) (n := len) (fun i hi' => by
      obtain ⟨cs', h1, h2⟩ := hi i (by omega)
      obtain ⟨p, rfl⟩ := hrd h2
      rw [hk] at h1
      exact ⟨p, h1⟩)
    refine ⟨some a, (List.range len).map f, cap, by rw [hc]; simp, by simp; omega, by simp; omega, ?_⟩
    intro i x hx
    simp only [List.getElem?_map, Option.map_eq_some_iff] at hx
    obtain ⟨i', hi', rfl⟩ := hx
    obtain ⟨hlt, e1⟩ := List.getElem?_eq_some_iff.1 hi'
    simp at hlt e1
    subst e1
    obtain ⟨_, _, hcell⟩ := World.cells?_some (hf i hlt)
    have hsp : a.spot = none := by
      obtain ⟨_, _, hc0⟩ := World.cells?_some (hf 0 (by omega))
      have h0 := hc0 0 hk0
      rw [List.getElem?_eq_getElem (by rw [he]; exact hk0)] at h0
      cases hs : a.spot with
      | none => rfl
      | some s =>
        exfalso
        simp [Addr.add, World.cell?, hs] at h0
        split at h0 <;> simp at h0
    obtain ⟨b, off, sp⟩ := a
    simp only at hsp
    subst hsp
    refine ⟨b, off, rfl, fun j c hj => ?_⟩
    have hjk : j < k := by rw [← he (f i)]; exact (List.getElem?_eq_some_iff.1 hj).1
    have := hcell j hjk
    rw [hj] at this
    have e : (Addr.add (Addr.add ⟨b, off, none⟩ (i * k)) j) = ⟨b, off + i * k + j, none⟩ := by
      simp only [Addr.add]
      by_cases h1 : i * k = 0 <;> by_cases h2 : j = 0 <;> simp [h1, h2]
    rw [← this, e]
set_option maxRecDepth 100000 in
theorem rd_graph (h : DataW.trod enc Tryz.prog w base spare held fuel 42 cs = some x) : ∃ (ev : Int) (a : Option Addr) (xs : List Pl) (cap : Nat), cs = [.int .i64 ev, .slice a xs.length cap] ∧ xs.length ≤ maxLen ∧ xs.length ≤ cap ∧ SlR w 4 Pl.enc a xs := by
  obtain ⟨xs, n, _, _, hl, hx, hf⟩ := DataW.trod_struct Tryz.underlying42 h
  rw [show Tryz.prog.cellsOf 42 = 2 by kernel_rfl] at hl
  obtain ⟨a, ha⟩ := fld (get_some hx (by decide)) (hf 0 _ rfl)
  obtain ⟨y, hy⟩ := get_some hx (i := 1) (by decide)
  obtain ⟨ad, ps, cap, hp, hm, hcap, hr⟩ := rd_slice Tryz.underlying40 (k := 4) (by kernel_rfl) (by decide) Pl.enc_len rd_place ((hf 1 _ rfl).trans hy)
  replace hp : (cs.drop 1).take (Tryz.prog.cellsOf 40) = [.slice ad ps.length cap] := hp
  rw [show Tryz.prog.cellsOf 40 = 1 by kernel_rfl] at hp
  match cs, hl with
  | [c0, c1], _ =>
    simp at ha hp
    subst ha hp
    exact ⟨a, ad, ps, cap, rfl, hm, hcap, hr⟩
set_option maxRecDepth 100000 in
/-- A struct by value. -/
theorem rd_agg {r : Reach} {b0 : Nat} {t : TypeId} {fs : Array Field} {v : Value} {d : DataW H} {p : List MemPlace} (ht : Tryz.prog.underlying t = some (.struct fs)) (hv : Value.okWide Tryz.prog w r b0 t v) (h : DataW.Trod enc Tryz.prog w base spare held t v d p) :
    ∃ (cs : List Value) (fuel : Nat), v = .agg cs.toArray ∧ DataW.trod enc Tryz.prog w base spare held fuel t cs = some (d, p) := by
  obtain ⟨cs, rfl, _⟩ := okWide_struct ht hv
  obtain ⟨fuel, hf⟩ := h
  exact ⟨cs.toList, fuel, by simp, by simpa [Value.cells] using hf⟩
end
end Go.Proofs.YtofakjlamoigcaaGreatDoor
end

section
namespace Go.Proofs.YtofakjlamoigcaaGreatDoor
open Go Go.RowKit
set_option linter.unusedSimpArgs false
set_option linter.unusedVariables false

theorem AC.below [Mode] {P : Program} {f : FuncId} {args : List AV} {vs : List Value} {w : World} (h : AC P f args H0 (Bo true) H0) (hv : VRs (fun _ => none) (fun b => b < w.heap.size) w args vs) (hg : Mode.good w := by exact True.intro) : Calls P f vs.toArray w fun r w' => r = .returned (.bool true) ∧ Below w.heap.size w w' := by
  refine (h (fun _ => none) (fun b => b < w.heap.size) w vs ⟨fun l o h => (by cases h), fun l l' b s s' h => absurd rfl h, fun l b s h => absurd rfl h, fun b h => h, Glb.begin hg⟩ (fun _ _ => rfl) hv).mono ?_
  rintro e w' ⟨v, ι', F', rfl, hr, _, hst, _⟩
  have := hr.v_inv
  subst this
  exact ⟨rfl, hst.os, hst.tape, hst.output, hst.size, fun b hb => hst.block b hb fun ⟨l, hl, _⟩ => absurd rfl hl⟩
theorem cell_lt [Mode] {w : World} {a : Addr} {v : Value} (h : w.cell? a = some v) : a.block < w.heap.size := by
  refine Nat.lt_of_not_le fun hn => ?_
  have hb : w.heap[a.block]? = none := by simp [hn]
  simp [World.cell?, hb] at h
theorem SlR.vr [Mode] {ι : Iota} {α : Type} {k : Nat} {enc : α → List Value} {row : α → List D} (hrow : ∀ x, row x = (enc x).map .v) {w : World} {a : Option Addr} {xs : List α} {cap : Nat} (h : SlR w k enc a xs) (hc : xs.length ≤ cap) : VR ι (fun b => b < w.heap.size) w (.d (.sl k (xs.map row))) (.slice a xs.length cap) := by
  have hl : (xs.map row).length = xs.length := by simp
  rw [← hl]
  have key : ∀ (i : Nat) r (j : Nat) c, (xs.map row)[i]? = some r → r[j]? = some c → ∃ x v, xs[i]? = some x ∧ (enc x)[j]? = some v ∧ c = D.v v := fun (i : Nat) r (j : Nat) c hr hc => by
    simp only [List.getElem?_map, Option.map_eq_some_iff] at hr
    obtain ⟨x, hx, rfl⟩ := hr
    rw [hrow] at hc
    simp only [List.getElem?_map, Option.map_eq_some_iff] at hc
    obtain ⟨v, hv, rfl⟩ := hc
    exact ⟨x, v, hx, hv, rfl⟩
  refine .d (.sl k _ a cap (fun i j => ((xs[i]?).bind fun x => (enc x)[j]?).getD undef) (by rw [hl]; exact hc) (fun i r j c hr hc => ?_) (fun i r j c hr hc => ?_))
  · obtain ⟨x, v, hx, hv, rfl⟩ := key i r j c hr hc
    obtain ⟨b, off, e, hcell⟩ := h i x hx
    have h1 := hcell j v hv
    exact ⟨b, off, e, cell_lt h1, by simp only [hx, Option.bind_some, hv, Option.getD_some]; exact h1⟩
  · obtain ⟨x, v, hx, hv, rfl⟩ := key i r j c hr hc
    simp only [hx, Option.bind_some, hv, Option.getD_some]
    exact .v v
theorem vr_graph [Mode] {ι : Iota} {w : World} {ev : Int} {a : Option Addr} {xs : List Pl} {cap : Nat} (h : SlR w 4 Pl.enc a xs) (hc : xs.length ≤ cap) : VR ι (fun b => b < w.heap.size) w (grD ev xs) (.agg #[.int .i64 ev, .slice a xs.length cap]) :=
  VRs.agg (.cons (.d (.v _)) (.cons (h.vr (row := Pl.row) (fun _ => rfl) hc) .nil))
end Go.Proofs.YtofakjlamoigcaaGreatDoor
end

section
namespace Go.Proofs
set_option linter.unusedSimpArgs false
set_option linter.unusedVariables false
open Go.Shelf
def Tryz.laysM173_ren : Go.Shelf.Ren := ⟨fun | 173 => 96 | 246 => 106 | 283 => 119 | 284 => 120 | 285 => 121 | 286 => 122 | 129 => 132 | 317 => 131 | 318 => 133 | 319 => 134 | 320 => 135 | 337 => 137 | 338 => 138 | n => n, fun | 2 => 2 | 3 => 3 | 9 => 9 | 4 => 4 | 171 => 155 | 0 => 0 | 53 => 36 | 37 => 22 | 5 => 5 | 173 => 158 | 212 => 170 | 51 => 160 | 20 => 20 | 213 => 171 | 46 => 75 | 232 => 182 | 233 => 183 | n => n, fun | 17 => 3 | 18 => 6 | 19 => 7 | n => n⟩
theorem Tryz.laysM173 : Go.Proofs.LaysM.n173 Tryz.prog Tryz.laysM173_ren := {
  mixed := by kernel_rfl
  f129 := Tryz.func132.trans (congrArg some (by kernel_rfl))
  f173 := Tryz.func96.trans (congrArg some (by kernel_rfl))
  f246 := Tryz.func106.trans (congrArg some (by kernel_rfl))
  f283 := Tryz.func119.trans (congrArg some (by kernel_rfl))
  f284 := Tryz.func120.trans (congrArg some (by kernel_rfl))
  f285 := Tryz.func121.trans (congrArg some (by kernel_rfl))
  f286 := Tryz.func122.trans (congrArg some (by kernel_rfl))
  f317 := Tryz.func131.trans (congrArg some (by kernel_rfl))
  f318 := Tryz.func133.trans (congrArg some (by kernel_rfl))
  f319 := Tryz.func134.trans (congrArg some (by kernel_rfl))
  f320 := Tryz.func135.trans (congrArg some (by kernel_rfl))
  f337 := Tryz.func137.trans (congrArg some (by kernel_rfl))
  f338 := Tryz.func138.trans (congrArg some (by kernel_rfl))
  t0 := Tryz.underlying0
  a0 := Tryz.isAgg0
  z0 := Tryz.sizeOf0
  v0 := Tryz.zeroValue0
  t2 := Tryz.underlying2
  a2 := Tryz.isAgg2
  z2 := Tryz.sizeOf2
  v2 := Tryz.zeroValue2
  t3 := Tryz.underlying3
  a3 := Tryz.isAgg3
  z3 := Tryz.sizeOf3
  v3 := Tryz.zeroValue3
  t4 := Tryz.underlying4
  a4 := Tryz.isAgg4
  z4 := Tryz.sizeOf4
  v4 := Tryz.zeroValue4
  t5 := Tryz.underlying5
  a5 := Tryz.isAgg5
  z5 := Tryz.sizeOf5
  v5 := Tryz.zeroValue5
  t9 := Tryz.underlying9
  a9 := Tryz.isAgg9
  z9 := Tryz.sizeOf9
  v9 := Tryz.zeroValue9
  t20 := Tryz.underlying20
  a20 := Tryz.isAgg20
  z20 := Tryz.sizeOf20
  v20 := Tryz.zeroValue20
  t37 := Tryz.underlying22
  a37 := Tryz.isAgg22
  z37 := Tryz.sizeOf22
  v37 := Tryz.zeroValue22
  t46 := Tryz.underlying75
  a46 := Tryz.isAgg75
  z46 := Tryz.sizeOf75
  v46 := Tryz.zeroValue75
  t51 := Tryz.underlying160
  a51 := Tryz.isAgg160
  z51 := Tryz.sizeOf160
  v51 := Tryz.zeroValue160
  t53 := Tryz.underlying36
  a53 := Tryz.isAgg36
  z53 := Tryz.sizeOf36
  v53 := Tryz.zeroValue36
  t171 := Tryz.underlying155
  a171 := Tryz.isAgg155
  z171 := Tryz.sizeOf155
  v171 := Tryz.zeroValue155
  t173 := Tryz.underlying158
  a173 := Tryz.isAgg158
  z173 := Tryz.sizeOf158
  v173 := Tryz.zeroValue158
  t212 := Tryz.underlying170
  a212 := Tryz.isAgg170
  z212 := Tryz.sizeOf170
  v212 := Tryz.zeroValue170
  t213 := Tryz.underlying171
  a213 := Tryz.isAgg171
  z213 := Tryz.sizeOf171
  t232 := Tryz.underlying182
  a232 := Tryz.isAgg182
  z232 := Tryz.sizeOf182
  v232 := Tryz.zeroValue182
  t233 := Tryz.underlying183
  a233 := Tryz.isAgg183
  z233 := Tryz.sizeOf183
  v233 := Tryz.zeroValue183
  g17 := by kernel_rfl
  g18 := by kernel_rfl
  g19 := by kernel_rfl
  i0 := by kernel_rfl
  i2 := by kernel_rfl
  i3 := by kernel_rfl
  i4 := by kernel_rfl
  i5 := by kernel_rfl
  i9 := by kernel_rfl
  i20 := by kernel_rfl
  i37 := by kernel_rfl
  i46 := by kernel_rfl
  i51 := by kernel_rfl
  i53 := by kernel_rfl
  i171 := by kernel_rfl
  i173 := by kernel_rfl
  i212 := by kernel_rfl
  i232 := by kernel_rfl
  i233 := by kernel_rfl
  m17 := by kernel_rfl
  m18 := by kernel_rfl
  m19 := by kernel_rfl }
open Go.RowKit Go.Sort Go.Lib in
/-- strconv.FormatInt: "FormatInt returns the string representation of i in the given base": AT BASE 10: i's decimal numeral, for every int64. (LAID: no walk: one application.) -/
theorem Tryz.strconv_FormatInt_10 (n : Int) (h0 : -9223372036854775808 ≤ n) (h1 : n ≤ 9223372036854775807) (w : World) (htab : Lib.TabIs Tryz.prog w "internal/strconv.uint64pow10" .u64 Lib.pow10Tab) :
    Calls Tryz.prog 96 #[.int .i64 n, .int .i64 10] w fun e w' => e = .returned (.string ⟨(Lib.itoa n).toArray⟩) ∧ ∃ k os, w' = grow (w.drewN k) os := Any.strconv_FormatInt_10 Tryz.laysM173 n h0 h1 w htab
def Tryz.laysC174_ren : Go.Shelf.Ren := ⟨fun | 174 => 89 | 247 => 102 | 245 => 103 | 287 => 114 | 279 => 115 | 280 => 116 | 281 => 117 | 282 => 118 | 321 => 126 | 322 => 127 | 316 => 128 | 171 => 130 | 205 => 129 | 243 => 136 | 246 => 106 | 283 => 119 | 284 => 120 | 285 => 121 | 286 => 122 | 129 => 132 | 317 => 131 | 318 => 133 | 319 => 134 | 320 => 135 | 337 => 137 | 338 => 138 | n => n, fun | 9 => 9 | 3 => 3 | 2 => 2 | 75 => 97 | 85 => 129 | 4 => 4 | 167 => 148 | 5 => 5 | 53 => 36 | 175 => 149 | 46 => 75 | 168 => 151 | 37 => 22 | 0 => 0 | 210 => 167 | 21 => 21 | 127 => 127 | 145 => 180 | 143 => 178 | 171 => 155 | 173 => 158 | 212 => 170 | 51 => 160 | 20 => 20 | 213 => 171 | 232 => 182 | 233 => 183 | 80 => 100 | n => n, fun | 15 => 1 | 16 => 2 | 17 => 3 | 18 => 6 | 19 => 7 | n => n⟩
theorem Tryz.laysC174 : Go.Proofs.LaysC.n174 Tryz.prog Tryz.laysC174_ren := {
  mixed := by kernel_rfl
  f129 := Tryz.func132.trans (congrArg some (by kernel_rfl))
  f171 := Tryz.func130.trans (congrArg some (by kernel_rfl))
  f174 := Tryz.func89.trans (congrArg some (by kernel_rfl))
  f205 := Tryz.func129.trans (congrArg some (by kernel_rfl))
  f243 := Tryz.func136.trans (congrArg some (by kernel_rfl))
  f245 := Tryz.func103.trans (congrArg some (by kernel_rfl))
  f246 := Tryz.func106.trans (congrArg some (by kernel_rfl))
  f247 := Tryz.func102.trans (congrArg some (by kernel_rfl))
  f279 := Tryz.func115.trans (congrArg some (by kernel_rfl))
  f280 := Tryz.func116.trans (congrArg some (by kernel_rfl))
  f281 := Tryz.func117.trans (congrArg some (by kernel_rfl))
  f282 := Tryz.func118.trans (congrArg some (by kernel_rfl))
  f283 := Tryz.func119.trans (congrArg some (by kernel_rfl))
  f284 := Tryz.func120.trans (congrArg some (by kernel_rfl))
  f285 := Tryz.func121.trans (congrArg some (by kernel_rfl))
  f286 := Tryz.func122.trans (congrArg some (by kernel_rfl))
  f287 := Tryz.func114.trans (congrArg some (by kernel_rfl))
  f316 := Tryz.func128.trans (congrArg some (by kernel_rfl))
  f317 := Tryz.func131.trans (congrArg some (by kernel_rfl))
  f318 := Tryz.func133.trans (congrArg some (by kernel_rfl))
  f319 := Tryz.func134.trans (congrArg some (by kernel_rfl))
  f320 := Tryz.func135.trans (congrArg some (by kernel_rfl))
  f321 := Tryz.func126.trans (congrArg some (by kernel_rfl))
  f322 := Tryz.func127.trans (congrArg some (by kernel_rfl))
  f337 := Tryz.func137.trans (congrArg some (by kernel_rfl))
  f338 := Tryz.func138.trans (congrArg some (by kernel_rfl))
  t0 := Tryz.underlying0
  a0 := Tryz.isAgg0
  z0 := Tryz.sizeOf0
  v0 := Tryz.zeroValue0
  t2 := Tryz.underlying2
  a2 := Tryz.isAgg2
  z2 := Tryz.sizeOf2
  v2 := Tryz.zeroValue2
  t3 := Tryz.underlying3
  a3 := Tryz.isAgg3
  z3 := Tryz.sizeOf3
  v3 := Tryz.zeroValue3
  t4 := Tryz.underlying4
  a4 := Tryz.isAgg4
  z4 := Tryz.sizeOf4
  v4 := Tryz.zeroValue4
  t5 := Tryz.underlying5
  a5 := Tryz.isAgg5
  z5 := Tryz.sizeOf5
  v5 := Tryz.zeroValue5
  t9 := Tryz.underlying9
  a9 := Tryz.isAgg9
  z9 := Tryz.sizeOf9
  v9 := Tryz.zeroValue9
  t20 := Tryz.underlying20
  a20 := Tryz.isAgg20
  z20 := Tryz.sizeOf20
  v20 := Tryz.zeroValue20
  t21 := Tryz.underlying21
  a21 := Tryz.isAgg21
  z21 := Tryz.sizeOf21
  v21 := Tryz.zeroValue21
  t37 := Tryz.underlying22
  a37 := Tryz.isAgg22
  z37 := Tryz.sizeOf22
  v37 := Tryz.zeroValue22
  t46 := Tryz.underlying75
  a46 := Tryz.isAgg75
  z46 := Tryz.sizeOf75
  v46 := Tryz.zeroValue75
  t51 := Tryz.underlying160
  a51 := Tryz.isAgg160
  z51 := Tryz.sizeOf160
  v51 := Tryz.zeroValue160
  t53 := Tryz.underlying36
  a53 := Tryz.isAgg36
  z53 := Tryz.sizeOf36
  v53 := Tryz.zeroValue36
  t75 := Tryz.underlying97
  a75 := Tryz.isAgg97
  z75 := Tryz.sizeOf97
  v75 := Tryz.zeroValue97
  t85 := Tryz.underlying129
  a85 := Tryz.isAgg129
  z85 := Tryz.sizeOf129
  v85 := Tryz.zeroValue129
  t127 := Tryz.underlying127
  a127 := Tryz.isAgg127
  z127 := Tryz.sizeOf127
  v127 := Tryz.zeroValue127
  t143 := Tryz.underlying178
  a143 := Tryz.isAgg178
  z143 := Tryz.sizeOf178
  v143 := Tryz.zeroValue178
  t145 := Tryz.underlying180
  a145 := Tryz.isAgg180
  z145 := Tryz.sizeOf180
  v145 := Tryz.zeroValue180
  t167 := Tryz.underlying148
  a167 := Tryz.isAgg148
  z167 := Tryz.sizeOf148
  v167 := Tryz.zeroValue148
  t168 := Tryz.underlying151
  a168 := Tryz.isAgg151
  z168 := Tryz.sizeOf151
  v168 := Tryz.zeroValue151
  t171 := Tryz.underlying155
  a171 := Tryz.isAgg155
  z171 := Tryz.sizeOf155
  v171 := Tryz.zeroValue155
  t173 := Tryz.underlying158
  a173 := Tryz.isAgg158
  z173 := Tryz.sizeOf158
  v173 := Tryz.zeroValue158
  t175 := Tryz.underlying149
  a175 := Tryz.isAgg149
  z175 := Tryz.sizeOf149
  v175 := Tryz.zeroValue149
  t210 := Tryz.underlying167
  a210 := Tryz.isAgg167
  z210 := Tryz.sizeOf167
  v210 := Tryz.zeroValue167
  t212 := Tryz.underlying170
  a212 := Tryz.isAgg170
  z212 := Tryz.sizeOf170
  v212 := Tryz.zeroValue170
  t213 := Tryz.underlying171
  a213 := Tryz.isAgg171
  z213 := Tryz.sizeOf171
  t232 := Tryz.underlying182
  a232 := Tryz.isAgg182
  z232 := Tryz.sizeOf182
  v232 := Tryz.zeroValue182
  t233 := Tryz.underlying183
  a233 := Tryz.isAgg183
  z233 := Tryz.sizeOf183
  v233 := Tryz.zeroValue183
  g15 := by kernel_rfl
  g16 := by kernel_rfl
  g17 := by kernel_rfl
  g18 := by kernel_rfl
  g19 := by kernel_rfl
  t80 := Tryz.underlying100
  a80 := Tryz.isAgg100
  z80 := Tryz.sizeOf100
  v80 := Tryz.zeroValue100
  i0 := by kernel_rfl
  i2 := by kernel_rfl
  i3 := by kernel_rfl
  i4 := by kernel_rfl
  i5 := by kernel_rfl
  i9 := by kernel_rfl
  i20 := by kernel_rfl
  i21 := by kernel_rfl
  i37 := by kernel_rfl
  i46 := by kernel_rfl
  i51 := by kernel_rfl
  i53 := by kernel_rfl
  i75 := by kernel_rfl
  i80 := by kernel_rfl
  i85 := by kernel_rfl
  i127 := by kernel_rfl
  i143 := by kernel_rfl
  i145 := by kernel_rfl
  i167 := by kernel_rfl
  i168 := by kernel_rfl
  i171 := by kernel_rfl
  i173 := by kernel_rfl
  i175 := by kernel_rfl
  i210 := by kernel_rfl
  i212 := by kernel_rfl
  i232 := by kernel_rfl
  i233 := by kernel_rfl
  m15 := by kernel_rfl
  m16 := by kernel_rfl
  m17 := by kernel_rfl
  m18 := by kernel_rfl
  m19 := by kernel_rfl
  c0 := by kernel_rfl
  c2 := by kernel_rfl
  c3 := by kernel_rfl
  c4 := by kernel_rfl
  c5 := by kernel_rfl
  c9 := by kernel_rfl
  c20 := by kernel_rfl
  c21 := by kernel_rfl
  c37 := by kernel_rfl
  c46 := by kernel_rfl
  c51 := by kernel_rfl
  c53 := by kernel_rfl
  c75 := by kernel_rfl
  c80 := by kernel_rfl
  c85 := by kernel_rfl
  c127 := by kernel_rfl
  c143 := by kernel_rfl
  c145 := by kernel_rfl
  c167 := by kernel_rfl
  c168 := by kernel_rfl
  c171 := by kernel_rfl
  c173 := by kernel_rfl
  c175 := by kernel_rfl
  c210 := by kernel_rfl
  c212 := by kernel_rfl
  c213 := by kernel_rfl
  c232 := by kernel_rfl
  c233 := by kernel_rfl }
open Go.RowKit in
/-- strconv.ParseInt(s, 10, 64), AT EVERY STRING THAT SPELLS AN int64 ('Lib.parseIntB 64 s.data.toList = .ok v'): v, AND NO ERROR. (LAID: no walk: one application.) -/
theorem Tryz.strconv_ParseInt_10_at64_ok (s : ByteArray) (hmax : s.size ≤ 9223372036854775806) (v : Int) (h : Lib.parseIntB 64 s.data.toList = .ok v) (w : World) :
    Calls Tryz.prog 89 #[.string s, .int .i64 10, .int .i64 64] w fun e w' => e = .returned (.tuple #[.int .i64 v, .nilIface]) ∧ (w' = w ∨ ∃ t, w' = Lib.bytesWorld w 5 t) := Any.strconv_ParseInt_10_at64_ok Tryz.laysC174 s hmax v h w
open Go.RowKit in
/-- strconv.ParseInt(s, 10, 64), AT EVERY STRING THAT IS NO DECIMAL NUMERAL: 0, AND AN ERROR THAT IS NOT nil: a *NumError in a new block N: {Func: "ParseInt", Num: s's bytes, Err: what the variable ErrSyntax holds}. Of what was there nothing has turned. (LAID: no walk: one application.) -/
theorem Tryz.strconv_ParseInt_10_at64_syntax (s : ByteArray) (hlim : s.size ≤ 281474976710656) (h : Lib.parseIntB 64 s.data.toList = .«syntax») (ev : Value) (w : World) (hv : w.cell? ⟨1, 0, none⟩ = some ev) (hev : ev = .nilIface ∨ ∃ te pe, ev = .iface te pe) :
    Calls Tryz.prog 89 #[.string s, .int .i64 10, .int .i64 64] w fun e w' => ∃ N, e = .returned (.tuple #[.int .i64 (0), .iface 151 (.pointer (some ⟨N, 0, none⟩))]) ∧ w.heap.size ≤ N ∧ w'.heap[N]? = some (.cells #[.string ⟨#[80, 97, 114, 115, 101, 73, 110, 116]⟩, .string s, ev] 167 (0, 0)) ∧ Below w.heap.size w w' := Any.strconv_ParseInt_10_at64_syntax Tryz.laysC174 s hlim h ev w hv hev
open Go.RowKit in
/-- strconv.ParseInt(s, 10, 64), AT EVERY NUMERAL THAT NO int64 HOLDS: THE GREATEST OR THE LEAST int64, BY THE SIGN ('Lib.intSat 64'), AND AN ERROR THAT IS NOT nil: a *NumError in a new block N: {Func: "ParseInt", Num: s's bytes, Err: what the variable ErrRange holds}. Of what was there nothing has turned. (LAID: no walk: one application.) -/
theorem Tryz.strconv_ParseInt_10_at64_range (s : ByteArray) (hlim : s.size ≤ 281474976710656) (h : Lib.parseIntB 64 s.data.toList = .range) (ev : Value) (w : World) (hv : w.cell? ⟨2, 0, none⟩ = some ev) (hev : ev = .nilIface ∨ ∃ te pe, ev = .iface te pe) :
    Calls Tryz.prog 89 #[.string s, .int .i64 10, .int .i64 64] w fun e w' => ∃ N, e = .returned (.tuple #[.int .i64 (Lib.intSat 64 s.data.toList), .iface 151 (.pointer (some ⟨N, 0, none⟩))]) ∧ w.heap.size ≤ N ∧ w'.heap[N]? = some (.cells #[.string ⟨#[80, 97, 114, 115, 101, 73, 110, 116]⟩, .string s, ev] 167 (0, 0)) ∧ Below w.heap.size w w' := Any.strconv_ParseInt_10_at64_range Tryz.laysC174 s hlim h ev w hv hev
def Tryz.lays145_ren : Go.Shelf.Ren := ⟨fun | 145 => 65 | 220 => 87 | 219 => 98 | 217 => 107 | 225 => 108 | 224 => 109 | 267 => 110 | 266 => 123 | 314 => 124 | n => n, fun | 9 => 9 | 4 => 4 | 59 => 102 | 3 => 3 | 5 => 5 | 46 => 75 | 146 => 161 | 51 => 160 | n => n, fun | 1 => 0 | n => n⟩
theorem Tryz.lays145 : Go.Proofs.Lays.n145 Tryz.prog Tryz.lays145_ren := {
  mixed := by kernel_rfl
  f145 := Tryz.func65.trans (congrArg some (by kernel_rfl))
  f217 := Tryz.func107.trans (congrArg some (by kernel_rfl))
  f219 := Tryz.func98.trans (congrArg some (by kernel_rfl))
  f220 := Tryz.func87.trans (congrArg some (by kernel_rfl))
  f224 := Tryz.func109.trans (congrArg some (by kernel_rfl))
  f225 := Tryz.func108.trans (congrArg some (by kernel_rfl))
  f266 := Tryz.func123.trans (congrArg some (by kernel_rfl))
  f267 := Tryz.func110.trans (congrArg some (by kernel_rfl))
  f314 := Tryz.func124.trans (congrArg some (by kernel_rfl))
  t3 := Tryz.underlying3
  a3 := Tryz.isAgg3
  z3 := Tryz.sizeOf3
  v3 := Tryz.zeroValue3
  t4 := Tryz.underlying4
  a4 := Tryz.isAgg4
  z4 := Tryz.sizeOf4
  v4 := Tryz.zeroValue4
  t5 := Tryz.underlying5
  a5 := Tryz.isAgg5
  z5 := Tryz.sizeOf5
  v5 := Tryz.zeroValue5
  t9 := Tryz.underlying9
  a9 := Tryz.isAgg9
  z9 := Tryz.sizeOf9
  v9 := Tryz.zeroValue9
  t46 := Tryz.underlying75
  a46 := Tryz.isAgg75
  z46 := Tryz.sizeOf75
  v46 := Tryz.zeroValue75
  t51 := Tryz.underlying160
  a51 := Tryz.isAgg160
  z51 := Tryz.sizeOf160
  v51 := Tryz.zeroValue160
  t59 := Tryz.underlying102
  a59 := Tryz.isAgg102
  z59 := Tryz.sizeOf102
  v59 := Tryz.zeroValue102
  t146 := Tryz.underlying161
  a146 := Tryz.isAgg161
  z146 := Tryz.sizeOf161
  v146 := Tryz.zeroValue161
  g1 := by kernel_rfl }
open Go.RowKit Go.Lib in
/-- strings.Cut: "Cut slices s around the first instance of sep, returning the text before and after sep. The found result reports whether sep appears in s. If sep does not appear in s, cut returns s, "", false.": IT RETURNS 'Lib.cut s sep'; the world is as it was but for the count of draws. (LAID: no walk: one application.) -/
theorem Tryz.strings_Cut (s sep : ByteArray) (m : Int) (w : World) (hs : s.size < 4294967281) (hm : w.cell? ⟨0, 0, none⟩ = some (.int .i64 m)) :
    Calls Tryz.prog 65 #[.string s, .string sep] w fun e w' => e = .returned (.tuple #[.string ⟨(Lib.cut s.data.toList sep.data.toList).1.toArray⟩, .string ⟨(Lib.cut s.data.toList sep.data.toList).2.1.toArray⟩, .bool (Lib.cut s.data.toList sep.data.toList).2.2]) ∧ ∃ n, w' = w.drewN n := Any.strings_Cut Tryz.lays145 s sep m w hs hm
def Tryz.lays146_ren : Go.Shelf.Ren := ⟨fun | 146 => 66 | 221 => 88 | 268 => 99 | 138 => 100 | 143 => 101 | 195 => 111 | 197 => 112 | 218 => 113 | 219 => 98 | 260 => 125 | 217 => 107 | 225 => 108 | 224 => 109 | 267 => 110 | 266 => 123 | 314 => 124 | n => n, fun | 9 => 9 | 31 => 104 | 3 => 3 | 4 => 4 | 0 => 0 | 105 => 146 | 21 => 21 | 5 => 5 | 46 => 75 | 119 => 174 | 139 => 177 | 138 => 176 | 146 => 161 | 51 => 160 | n => n, fun | 1 => 0 | 3 => 4 | 4 => 5 | n => n⟩
theorem Tryz.lays146 : Go.Proofs.Lays.n146 Tryz.prog Tryz.lays146_ren := {
  mixed := by kernel_rfl
  f138 := Tryz.func100.trans (congrArg some (by kernel_rfl))
  f143 := Tryz.func101.trans (congrArg some (by kernel_rfl))
  f146 := Tryz.func66.trans (congrArg some (by kernel_rfl))
  f195 := Tryz.func111.trans (congrArg some (by kernel_rfl))
  f197 := Tryz.func112.trans (congrArg some (by kernel_rfl))
  f217 := Tryz.func107.trans (congrArg some (by kernel_rfl))
  f218 := Tryz.func113.trans (congrArg some (by kernel_rfl))
  f219 := Tryz.func98.trans (congrArg some (by kernel_rfl))
  f221 := Tryz.func88.trans (congrArg some (by kernel_rfl))
  f224 := Tryz.func109.trans (congrArg some (by kernel_rfl))
  f225 := Tryz.func108.trans (congrArg some (by kernel_rfl))
  f260 := Tryz.func125.trans (congrArg some (by kernel_rfl))
  f266 := Tryz.func123.trans (congrArg some (by kernel_rfl))
  f267 := Tryz.func110.trans (congrArg some (by kernel_rfl))
  f268 := Tryz.func99.trans (congrArg some (by kernel_rfl))
  f314 := Tryz.func124.trans (congrArg some (by kernel_rfl))
  t0 := Tryz.underlying0
  a0 := Tryz.isAgg0
  z0 := Tryz.sizeOf0
  v0 := Tryz.zeroValue0
  t3 := Tryz.underlying3
  a3 := Tryz.isAgg3
  z3 := Tryz.sizeOf3
  v3 := Tryz.zeroValue3
  t4 := Tryz.underlying4
  a4 := Tryz.isAgg4
  z4 := Tryz.sizeOf4
  v4 := Tryz.zeroValue4
  t5 := Tryz.underlying5
  a5 := Tryz.isAgg5
  z5 := Tryz.sizeOf5
  v5 := Tryz.zeroValue5
  t9 := Tryz.underlying9
  a9 := Tryz.isAgg9
  z9 := Tryz.sizeOf9
  v9 := Tryz.zeroValue9
  t21 := Tryz.underlying21
  a21 := Tryz.isAgg21
  z21 := Tryz.sizeOf21
  v21 := Tryz.zeroValue21
  t31 := Tryz.underlying104
  a31 := Tryz.isAgg104
  z31 := Tryz.sizeOf104
  v31 := Tryz.zeroValue104
  t46 := Tryz.underlying75
  a46 := Tryz.isAgg75
  z46 := Tryz.sizeOf75
  v46 := Tryz.zeroValue75
  t51 := Tryz.underlying160
  a51 := Tryz.isAgg160
  z51 := Tryz.sizeOf160
  v51 := Tryz.zeroValue160
  t105 := Tryz.underlying146
  a105 := Tryz.isAgg146
  z105 := Tryz.sizeOf146
  v105 := Tryz.zeroValue146
  t119 := Tryz.underlying174
  a119 := Tryz.isAgg174
  z119 := Tryz.sizeOf174
  t138 := Tryz.underlying176
  a138 := Tryz.isAgg176
  z138 := Tryz.sizeOf176
  v138 := Tryz.zeroValue176
  t139 := Tryz.underlying177
  a139 := Tryz.isAgg177
  z139 := Tryz.sizeOf177
  v139 := Tryz.zeroValue177
  t146 := Tryz.underlying161
  a146 := Tryz.isAgg161
  z146 := Tryz.sizeOf161
  v146 := Tryz.zeroValue161
  g1 := by kernel_rfl
  g3 := by kernel_rfl
  g4 := by kernel_rfl }
open Go.RowKit Go.Lib in
/-- strings.Split. (LAID: no walk: one application.) -/
theorem Tryz.strings_Split (s sep : ByteArray) (m : Int) (w : World) (hs : s.size < 4294967281) (hm : w.cell? ⟨0, 0, none⟩ = some (.int .i64 m)) (h1 : 1 ≤ sep.size) :
    Calls Tryz.prog 66 #[.string s, .string sep] w fun e w' =>
      e = .returned (.slice (some ⟨w.heap.size, 0, none⟩) (Lib.countB s sep + 1) (Lib.countB s sep + 1)) ∧ w' = w.alloc (.cells ((Lib.splitB sep 0 (Lib.countB s sep) s).map Value.string).toArray 9) := Any.strings_Split Tryz.lays146 (by kernel_rfl) s sep m w hs hm h1
end Go.Proofs
end

section
namespace Go.Proofs.YtofakjlamoigcaaGreatDoor
set_option linter.unusedSimpArgs false
set_option linter.unusedVariables false
open Go

/-! ### Split at a byte -/
/-- The pieces of a text at a byte, p being the beginning of the first one. -/
def splP (c : UInt8) (p : List UInt8) : List UInt8 → List (List UInt8)
  | [] => [p]
  | x :: xs => if x = c then p :: splP c [] xs else splP c (p ++ [x]) xs
def spl (c : UInt8) (l : List UInt8) : List (List UInt8) := splP c [] l
theorem splP_no {c : UInt8} : ∀ {a : List UInt8} {p : List UInt8}, c ∉ a → splP c p a = [p ++ a]
  | [], p, _ => by simp [splP]
  | x :: a, p, h => by
    simp only [List.mem_cons, not_or] at h
    rw [splP, if_neg (fun e => h.1 e.symm), splP_no h.2, List.append_assoc]; rfl
theorem splP_at {c : UInt8} {b : List UInt8} : ∀ {a : List UInt8} {p : List UInt8}, c ∉ a → splP c p (a ++ c :: b) = (p ++ a) :: splP c [] b
  | [], p, _ => by simp [splP]
  | x :: a, p, h => by
    simp only [List.mem_cons, not_or] at h
    rw [List.cons_append, splP, if_neg (fun e => h.1 e.symm), splP_at h.2, List.append_assoc]; rfl
theorem spl_no {c : UInt8} {a : List UInt8} (h : c ∉ a) : spl c a = [a] := splP_no (p := []) h
theorem spl_at {c : UInt8} {a b : List UInt8} (h : c ∉ a) : spl c (a ++ c :: b) = a :: spl c b := splP_at (p := []) h
theorem splP_ne {c : UInt8} : ∀ {l p : List UInt8}, splP c p l ≠ []
  | [], p => by simp [splP]
  | x :: l, p => by
    rw [splP]
    split
    · simp
    · exact splP_ne
theorem spl_ne {c : UInt8} {l : List UInt8} : spl c l ≠ [] := splP_ne
/-- A text and its first c. -/
theorem first_byte (c : UInt8) : ∀ l : List UInt8, c ∉ l ∨ ∃ a b, l = a ++ c :: b ∧ c ∉ a
  | [] => .inl (by simp)
  | x :: l => by
    by_cases h : x = c
    · exact .inr ⟨[], l, by rw [h]; rfl, by simp⟩
    · rcases first_byte c l with h1 | ⟨a, b, rfl, h1⟩
      · exact .inl (by simp [Ne.symm h, h1])
      · exact .inr ⟨x :: a, b, rfl, by simp [Ne.symm h, h1]⟩
theorem index_no {c : UInt8} : ∀ {l : List UInt8}, c ∉ l → Lib.index l [c] = -1
  | [], _ => rfl
  | x :: l, h => by
    simp only [List.mem_cons, not_or] at h
    have := index_no (l := l) h.2
    have e : ([c].isPrefixOf (x :: l)) = false := by simp [List.isPrefixOf, h.1]
    simp [Lib.index, e, this]
theorem index_at {c : UInt8} {b : List UInt8} : ∀ {a : List UInt8}, c ∉ a → Lib.index (a ++ c :: b) [c] = a.length
  | [], _ => by simp [Lib.index, List.isPrefixOf]
  | x :: a, h => by
    simp only [List.mem_cons, not_or] at h
    have := index_at (b := b) (a := a) h.2
    have e : ([c].isPrefixOf (x :: (a ++ c :: b))) = false := by simp [List.isPrefixOf, h.1]
    have hn : ¬ ((a.length : Int) = -1) := by omega
    rw [List.cons_append, Lib.index, e, this]
    simp [hn]
theorem cut_no {c : UInt8} {l : List UInt8} (h : c ∉ l) : Lib.cut l [c] = (l, [], false) := by simp [Lib.cut, index_no h]
theorem cut_at {c : UInt8} {a b : List UInt8} (h : c ∉ a) : Lib.cut (a ++ c :: b) [c] = (a, b, true) := by
  have e : (a ++ c :: b).drop (a.length + 1) = b := by
    rw [← List.drop_drop]; simp
  simp [Lib.cut, index_at h, e]
theorem splitK_spl {c : UInt8} : ∀ (fuel : Nat) (l : List UInt8), l.length < fuel → Lib.splitK [c] 0 (Lib.countFrom [c] fuel l) l = spl c l
  | 0, l, h => by omega
  | fuel + 1, l, h => by
    rcases first_byte c l with h1 | ⟨a, b, rfl, h1⟩
    · simp [Lib.countFrom, index_no h1, Lib.splitK, spl_no h1]
    · have hn : ¬ ((a.length : Int) = -1) := by omega
      have e : (a ++ c :: b).drop (a.length + 1) = b := by
        rw [← List.drop_drop]; simp
      have ih := splitK_spl (c := c) fuel b (by simp only [List.length_append, List.length_cons] at h; omega)
      rw [spl_at h1, ← ih]
      simp [Lib.countFrom, index_at h1, hn, e, Nat.add_comm 1, Lib.splitK]
theorem split_spl (c : UInt8) (l : List UInt8) : Lib.split l [c] = spl c l := splitK_spl _ l (Nat.lt_succ_self _)
/-- The state of a loop that cuts a text: where the piece begins, the pieces so far. -/
def stS (c : UInt8) (l : List UInt8) : Nat → Nat × List (List UInt8)
  | 0 => (0, [])
  | i + 1 => if i = l.length ∨ l[i]? = some c then (i + 1, (stS c l i).2 ++ [(l.drop (stS c l i).1).take (i - (stS c l i).1)]) else stS c l i
theorem stS_le (c : UInt8) (l : List UInt8) : ∀ i, (stS c l i).1 ≤ i
  | 0 => Nat.le_refl _
  | i + 1 => by
    rw [stS]
    split
    · exact Nat.le_refl _
    · exact Nat.le_succ_of_le (stS_le c l i)
theorem stS_len (c : UInt8) (l : List UInt8) : ∀ i, (stS c l i).2.length ≤ i
  | 0 => Nat.le_refl _
  | i + 1 => by
    rw [stS]
    split
    · simpa using stS_len c l i
    · exact Nat.le_succ_of_le (stS_len c l i)
theorem stS_inv (c : UInt8) (l : List UInt8) : ∀ i, i ≤ l.length → (stS c l i).2 ++ splP c ((l.drop (stS c l i).1).take (i - (stS c l i).1)) (l.drop i) = spl c l
  | 0, _ => by simp [stS, spl]
  | i + 1, h => by
    have ih := stS_inv c l i (by omega)
    have hle := stS_le c l i
    rw [List.drop_eq_getElem_cons (by omega : i < l.length), splP] at ih
    rw [stS]
    by_cases hc : l[i] = c
    · rw [if_pos hc] at ih
      rw [if_pos (.inr (by rw [List.getElem?_eq_getElem (by omega), hc]))]
      simp only [Nat.sub_self, List.take_zero, List.append_assoc, List.singleton_append]
      exact ih
    · rw [if_neg hc] at ih
      rw [if_neg (by rw [List.getElem?_eq_getElem (by omega)]; simp [hc]; omega)]
      rw [← ih]
      congr 2
      rw [show i + 1 - (stS c l i).1 = (i - (stS c l i).1) + 1 by omega, List.take_add_one, List.getElem?_drop, show (stS c l i).1 + (i - (stS c l i).1) = i by omega, List.getElem?_eq_getElem (by omega)]
      rfl
theorem stS_end (c : UInt8) (l : List UInt8) : (stS c l (l.length + 1)).2 = spl c l := by
  have := stS_inv c l l.length (Nat.le_refl _)
  rw [List.drop_length, splP] at this
  rw [stS, if_pos (.inl rfl)]
  exact this

/-! ### Numerals -/
abbrev dec (n : Nat) : List UInt8 := Lib.decDigits n
theorem dec_small {n : Nat} (h : n < 10) : dec n = [UInt8.ofNat (48 + n)] := by rw [dec, Lib.decDigits, dif_pos h]
theorem dec_big {n : Nat} (h : ¬ n < 10) : dec n = dec (n / 10) ++ [UInt8.ofNat (48 + n % 10)] := by rw [dec, Lib.decDigits, dif_neg h]
theorem dg_toNat {d : Nat} (h : d < 10) : (UInt8.ofNat (48 + d)).toNat = 48 + d := by
  rw [UInt8.toNat_ofNat']; omega
theorem dec_ne (n : Nat) : dec n ≠ [] := by
  by_cases h : n < 10
  · rw [dec_small h]; simp
  · rw [dec_big h]; simp
/-- All bytes of a numeral are digits. -/
theorem dec_digits (n : Nat) : ∀ c ∈ dec n, 48 ≤ c.toNat ∧ c.toNat ≤ 57 := by
  induction n using Nat.strongRecOn with
  | ind n ih =>
    intro c hc
    by_cases h : n < 10
    · rw [dec_small h] at hc
      simp only [List.mem_singleton] at hc
      rw [hc, dg_toNat h]; omega
    · rw [dec_big h, List.mem_append] at hc
      rcases hc with hc | hc
      · exact ih (n / 10) (by omega) c hc
      · simp only [List.mem_singleton] at hc
        rw [hc, dg_toNat (by omega)]; omega
theorem dec_no {n : Nat} {c : UInt8} (h : c.toNat < 48 ∨ 57 < c.toNat) : c ∉ dec n := fun hc => by
  have := dec_digits n c hc; omega
theorem dec_len_le (k : Nat) : ∀ n, n < 10 ^ (k + 1) → (dec n).length ≤ k + 1 := by
  induction k with
  | zero => intro n h; rw [dec_small (by simpa using h)]; simp
  | succ k ih =>
    intro n h
    by_cases h1 : n < 10
    · rw [dec_small h1]; simp
    · rw [dec_big h1, List.length_append]
      have := ih (n / 10) (by rw [Nat.pow_succ] at h; omega)
      simp; omega
/-- What digits spell. -/
def dgA (l : List UInt8) : Nat := l.foldl (fun a c => 10 * a + (c.toNat - 48)) 0
theorem dgA_snoc (l : List UInt8) (c : UInt8) : dgA (l ++ [c]) = 10 * dgA l + (c.toNat - 48) := by simp [dgA]
theorem dgA_dec (n : Nat) : dgA (dec n) = n := by
  induction n using Nat.strongRecOn with
  | ind n ih =>
    by_cases h : n < 10
    · rw [dec_small h]; simp only [dgA, List.foldl_cons, List.foldl_nil]; rw [dg_toNat h]; omega
    · rw [dec_big h, dgA_snoc, ih (n / 10) (by omega), dg_toNat (by omega)]; omega
theorem dgA_lt_from : ∀ (l : List UInt8) (a k : Nat), (∀ c ∈ l, c.toNat ≤ 57) → a < 10 ^ k → l.foldl (fun a c => 10 * a + (c.toNat - 48)) a < 10 ^ (k + l.length)
  | [], _, _, _, ha => ha
  | c :: l, a, k, h, ha => by
    have h2 := h c (by simp)
    have := dgA_lt_from l (10 * a + (c.toNat - 48)) (k + 1) (fun c hc => h c (by simp [hc])) (by rw [Nat.pow_succ]; omega)
    rw [List.foldl_cons, List.length_cons, show k + (l.length + 1) = k + 1 + l.length by omega]
    exact this
theorem dgA_lt (l : List UInt8) (h : ∀ c ∈ l, c.toNat ≤ 57) : dgA l < 10 ^ l.length := by
  have := dgA_lt_from l 0 0 h (by decide)
  rwa [Nat.zero_add] at this
/-- A number of at most ten digits, as the reference reads it. -/
def digN (l : List UInt8) : Int × Bool :=
  if l.length < 1 ∨ 10 < l.length then (0, false) else if ∀ c ∈ l, 48 ≤ c.toNat ∧ c.toNat ≤ 57 then (dgA l, decide (dec (dgA l) = l)) else (0, false)
def sgN (l : List UInt8) : Int × Bool := if l.head? = some 45 then (-(digN l.tail).1, (digN l.tail).2 && decide (0 < (digN l.tail).1)) else digN l
theorem digN_dec {n : Nat} (h : n < 10000000000) : digN (dec n) = ((n : Int), true) := by
  have h1 := dec_len_le 9 n (by simpa using h)
  have h2 : (dec n).length ≠ 0 := fun e => dec_ne n (List.length_eq_zero_iff.1 e)
  rw [digN, if_neg (by omega), if_pos (dec_digits n), dgA_dec]; simp
theorem digN_some {l : List UInt8} (h : (digN l).2 = true) : ∃ n : Nat, n < 10000000000 ∧ l = dec n ∧ (digN l).1 = n := by
  unfold digN at h ⊢
  split at h
  · cases h
  · rename_i hl
    split at h
    · rename_i hd
      have h1 := dgA_lt l (fun c hc => (hd c hc).2)
      have h2 : 10 ^ l.length ≤ 10 ^ 10 := Nat.pow_le_pow_right (by decide) (by omega)
      exact ⟨dgA l, by omega, (of_decide_eq_true h).symm, by rw [if_neg hl, if_pos hd]⟩
    · cases h
theorem digN_nonneg (l : List UInt8) : 0 ≤ (digN l).1 := by
  unfold digN
  split
  · exact Int.le_refl _
  · split
    · exact Int.natCast_nonneg _
    · exact Int.le_refl _
theorem digN_lt (l : List UInt8) : (digN l).1 < 10000000000 := by
  unfold digN
  split
  · decide
  · rename_i hl
    split
    · rename_i hd
      have h1 := dgA_lt l (fun c hc => (hd c hc).2)
      have h2 : 10 ^ l.length ≤ 10 ^ 10 := Nat.pow_le_pow_right (by decide) (by omega)
      show ((dgA l : Nat) : Int) < _
      omega
    · decide
theorem dec_head (n : Nat) : (dec n).head? ≠ some 45 := fun h => by
  have h1 := dec_digits n 45 (List.mem_of_mem_head? h)
  simp at h1
theorem sgN_dec {n : Nat} (h : n < 10000000000) : sgN (dec n) = ((n : Int), true) := by rw [sgN, if_neg (dec_head n), digN_dec h]
theorem sgN_some {l : List UInt8} (h : (sgN l).2 = true) : (∃ n : Nat, n < 10000000000 ∧ l = dec n ∧ (sgN l).1 = n) ∨ (sgN l).1 < 0 := by
  unfold sgN at h ⊢
  split
  · rename_i h1
    rw [if_pos h1] at h
    simp only [Bool.and_eq_true, decide_eq_true_eq] at h
    right
    show -(digN l.tail).1 < 0
    omega
  · rename_i h1
    rw [if_neg h1] at h
    exact .inl (digN_some h)
/-! The library reads what it writes. -/
theorem parseUintM_append {M : Nat} : ∀ {l : List UInt8} {acc a : Nat} {r : List UInt8}, Lib.parseUintM M acc l = .ok a → Lib.parseUintM M acc (l ++ r) = Lib.parseUintM M a r
  | [], acc, a, r, h => by
    simp only [Lib.parseUintM] at h
    cases h; rfl
  | c :: l, acc, a, r, h => by
    rw [List.cons_append, Lib.parseUintM]
    rw [Lib.parseUintM] at h
    split at h
    · rename_i h1
      rw [if_pos h1]
      split at h
      · cases h
      · rename_i h2
        rw [if_neg h2]
        split at h
        · cases h
        · rename_i h3
          rw [if_neg h3]
          exact parseUintM_append h
    · cases h
theorem parseUintM_dec (n : Nat) (h : n ≤ 18446744073709551615) : Lib.parseUintM 18446744073709551615 0 (dec n) = .ok n := by
  induction n using Nat.strongRecOn with
  | ind n ih =>
    by_cases h1 : n < 10
    · have h2 := dg_toNat h1
      rw [dec_small h1, Lib.parseUintM, h2, if_pos (by omega), if_neg (by omega), if_neg (by omega), Lib.parseUintM]
      congr 1; omega
    · have h2 := dg_toNat (d := n % 10) (by omega)
      rw [dec_big h1, parseUintM_append (ih (n / 10) (by omega) (by omega)), Lib.parseUintM, h2, if_pos (by omega), if_neg (by omega), if_neg (by omega), Lib.parseUintM]
      congr 1; omega
theorem parse_dec {n : Nat} (h : n < 9223372036854775808) : Lib.parseIntB 64 (dec n) = .ok (n : Int) := by
  have h1 := parseUintM_dec n (by omega)
  have hne := dec_ne n
  have hd := dec_digits n
  generalize dec n = l at h1 hne hd
  match l, hne with
  | c :: r, _ =>
    have hc := hd c (by simp)
    have e1 : ¬ (c.toNat = 43 ∨ c.toNat = 45) := by omega
    have e2 : ¬ c.toNat = 45 := by omega
    have e3 : Lib.parseUintB 64 (c :: r) = .ok n := by
      simp only [Lib.parseUintB, if_neg (List.cons_ne_nil c r)]; exact h1
    simp only [Lib.parseIntB]
    rw [if_neg e1, e3]
    simp only [e2, not_false_eq_true, true_and, false_and, if_false]
    rw [if_neg (by simp; omega)]
/-- A number as the program reads it. -/
def rdN (l : List UInt8) : Int × Bool := match Lib.parseIntB 64 l with
  | .ok v => if Lib.itoa v = l then (v, true) else (0, false)
  | _ => (0, false)
theorem itoa_nat (n : Nat) : Lib.itoa n = dec n := by
  rw [Lib.itoa, if_neg (by omega)]; rfl
theorem rdN_dec {n : Nat} (h : n < 9223372036854775808) : rdN (dec n) = ((n : Int), true) := by rw [rdN, parse_dec h]; simp [itoa_nat]
end Go.Proofs.YtofakjlamoigcaaGreatDoor
end

section
namespace Go.Proofs.YtofakjlamoigcaaGreatDoor
set_option linter.unusedSimpArgs false
set_option linter.unusedVariables false
open Go Go.RowKit
attribute [local irreducible] AL AD AW OpOk Le AC thenQ blockQ EndQ

/-- The world at the beginning holds the library's table of powers. -/
class HasTab [Mode] : Prop where
  tab : ∀ w, Mode.good w → Lib.TabIs Tryz.prog w "internal/strconv.uint64pow10" .u64 Lib.pow10Tab
/-- It holds the library's two errors. -/
class HasErr [Mode] : Prop where
  err : ∀ w, Mode.good w → (∃ t p, w.var? Tryz.prog "strconv.ErrSyntax" = some #[.iface t p]) ∧ ∃ t p, w.var? Tryz.prog "strconv.ErrRange" = some #[.iface t p]
/-- It holds the length up to which the library searches by an instruction. -/
class HasLen [Mode] : Prop where
  len : ∀ w, Mode.good w → ∃ m, w.var? Tryz.prog "internal/bytealg.MaxLen" = some #[.int .i64 m]
theorem formatInt_ac [Mode] [HasTab] (n : Int) (h0 : -9223372036854775808 ≤ n) (h1 : n ≤ 9223372036854775807) : AC Tryz.prog 96 [I n, I 10] H0 (Str (Lib.itoa n)) H0 := AC.ofCalls fun ι F w vs hs hv => by
  have := hv.inv2; subst this
  obtain ⟨w0, hg, hc, hvv⟩ := hs.gl.held
  refine (Tryz.strconv_FormatInt_10 n h0 h1 w (hvv _ _ _ (HasTab.tab w0 hg))).mono ?_
  rintro e w' ⟨rfl, k, os, rfl⟩
  exact ⟨_, rfl, fun _ _ => .d (.v _), Lib.below_grow _ _ (Nat.le_refl _) _ _⟩
theorem cut_ac [Mode] [HasLen] (s sep : List UInt8) (hs : s.length < 4294967281) : AC Tryz.prog 65 [Str s, Str sep] H0 (.tup [Str (Lib.cut s sep).1, Str (Lib.cut s sep).2.1, Bo (Lib.cut s sep).2.2]) H0 := AC.ofCalls fun ι F w vs hsim hv => by
  have := hv.inv2; subst this
  obtain ⟨w0, hg, hc, hvv⟩ := hsim.gl.held
  obtain ⟨m, hm⟩ := HasLen.len w0 hg
  have hm' := hvv _ _ _ hm
  refine (Tryz.strings_Cut ⟨s.toArray⟩ ⟨sep.toArray⟩ m w (by rw [size_mk]; exact hs) (by refine (World.var?_cell ?h hm' 0).trans ?t; (· kernel_rfl); (· simp))).mono ?_
  rintro e w' ⟨rfl, n, rfl⟩
  exact ⟨_, rfl, fun _ _ => VRs.tup (.cons (.d (.v _)) (.cons (.d (.v _)) (.cons (.d (.v _)) .nil))), rfl, rfl, rfl, Nat.le_refl _, fun _ _ => rfl⟩
/-- Texts as rows. -/
def stR (ss : List (List UInt8)) : List (List D) := ss.map fun s => [StrD s]
theorem stR_len [Mode] (ss : List (List UInt8)) : (stR ss).length = ss.length := by simp [stR]
end Go.Proofs.YtofakjlamoigcaaGreatDoor
end
