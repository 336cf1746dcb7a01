/-
  Walks in the abstract reading, part 4.
-/
import Derived.Test.YtpgcmpbamlnkkaaKtU3
import Derived.Test.YtpgcmpbamlnkkaaKtA3
import Derived.Test.YtpgcmpbamlnkkaaKtR1
import Derived.Test.YtpgcmpbamlnkkaaKtU2
section
namespace Go.Proofs.Ytpgcmpbamlnkkaa
set_option linter.unusedSimpArgs false
set_option linter.unusedVariables false
open Go Go.RowKit
attribute [local irreducible] AL AD AW OpOk Le AC thenQ blockQ EndQ

theorem ownPl_row {xs : List Pl} {i : Nat} (hi : i < xs.length) : (dobj 4 (xs.map Pl.row)).rows[0 + ((i : Nat) : Int).toNat]? = some [I (plA xs i).f, I (plA xs i).t, I (plA xs i).d, I (plA xs i).k] := by
  simp [dobj, plA, hi, Pl.row]
theorem ownPl_set {xs : List Pl} {i : Nat} {p : Pl} : (dobj 4 (xs.map Pl.row)).rows.set (0 + ((i : Nat) : Int).toNat) [I p.f, I p.t, I p.d, I p.k] = ((xs.set i p).map Pl.row).map fun r => r.map .d := by
  simp [dobj, List.map_set, Pl.row]
end Go.Proofs.Ytpgcmpbamlnkkaa
end

section
namespace Go.Proofs.Ytpgcmpbamlnkkaa
set_option linter.unusedSimpArgs false
set_option linter.unusedVariables false
open Go Go.RowKit
attribute [local irreducible] AL AD AW OpOk Le AC thenQ blockQ EndQ

abbrev srcO (code : List Int) (s : Src) : AObj := dobj 3 (srcR code s)
abbrev PO (xs : List Pl) : AObj := dobj 4 (xs.map Pl.row)
theorem next_ex {code : List Int} (hc : CodeOk code) {s : Src} (hs : SrcOk code s) (n : Int) : ∃ a s', 0 ≤ a ∧ a ≤ max (n - 1) 0 ∧ SrcOk code s' ∧ nxt code s n = (a, s') ∧ AC Try.prog 131 [Bx 3 0, I n] (srcH code s) (I a) (srcH code s') :=
  ⟨(nxt code s n).1, (nxt code s n).2, (nxt_ok hc hs n).1, (nxt_ok hc hs n).2.1, (nxt_ok hc hs n).2.2, rfl, l01Next_ac code hc s hs n⟩
theorem pick_ex {code : List Int} (hc : CodeOk code) {s : Src} (hs : SrcOk code s) (xs : List Int) (n : Int) (hn : (xs.length : Int) = n) (h0 : 0 < xs.length := by simp) (hx : xs.length ≤ 100 := by simp) :
    ∃ v s', v ∈ xs ∧ SrcOk code s' ∧ pick code s xs = v ∧ (nxt code s n).2 = s' ∧ AC Try.prog 132 [Bx 3 0, .own 1 ⟨1, []⟩ 0 xs.length] (upd (upd H0 ⟨1, []⟩ (some (IO xs))) ⟨0, []⟩ (some (dobj 3 (srcR code s)))) (I v) (srcH code s') := by
  subst hn
  refine ⟨pick code s xs, (nxt code s xs.length).2, ?_, (nxt_ok hc hs _).2.2, rfl, rfl, l01Pick_ac code hc s hs xs h0 hx⟩
  obtain ⟨b1, b2, b3⟩ := nxt_ok hc hs xs.length
  unfold pick
  rw [List.getElem?_eq_getElem (by omega), Option.getD_some]
  exact List.getElem_mem _
def itr {S : Type} (f : S → S) : Nat → S → S
  | 0, s => s
  | n + 1, s => f (itr f n s)
theorem itr_ok {S : Type} {f : S → S} {p : Nat → S → Prop} {s : S} (h0 : p 0 s) (h : ∀ k x, p k x → p (k + 1) (f x)) : ∀ n, p n (itr f n s)
  | 0 => h0
  | n + 1 => h n _ (itr_ok h0 h n)
/-- A place drawn. -/
def drPl (code : List Int) (ev : Int) (s : Src) : Pl × Src :=
  let a := nxt code s ev
  let b := nxt code a.2 ev
  let d := nxt code b.2 12
  let q := nxt code d.2 4
  let t := if b.1 ≤ a.1 then d.2 else q.2
  let x := nxt code t 2
  let y := nxt code x.2 3
  let k : Int × Src := if b.1 ≤ a.1 ∨ q.1 = 0 then (1 + x.1 * y.1, y.2) else (0, t)
  let z := nxt code k.2 30
  (⟨a.1, b.1, d.1, if z.1 = 0 then 0 else k.1⟩, z.2)
abbrev RSt := Src × List Pl
def drF (code : List Int) (ev : Int) (q : RSt) : RSt := ((drPl code ev q.1).2, q.2 ++ [(drPl code ev q.1).1])
/-- Places one behind the other: at most 31. -/
def drMany (code : List Int) : Nat → Nat → RSt → RSt
  | 0, _, q => q
  | f + 1, k, q => if (k : Int) < 22 + (nxt code q.1 9).1 then drMany code f (k + 1) ((nxt code q.1 9).2, q.2 ++ [⟨0, 0, k, 1⟩]) else ((nxt code q.1 9).2, q.2)
structure DrG where
  ev : Int
  xs : List Pl
  s : Src
def drEnd (code : List Int) (ev : Int) (q : RSt) : DrG :=
  let z := nxt code q.1 60
  let a := nxt code z.2 3
  if z.1 = 0 then ⟨pick code z.2 [0, 10, 11], q.2, a.2⟩
  else if z.1 = 1 then ⟨ev, q.2 ++ [⟨pick code z.2 [-1, 0, ev], 0, pick code a.2 [-1, 1000, 1001], 1⟩], (nxt code a.2 3).2⟩
  else if z.1 = 2 then ⟨ev, q.2 ++ [⟨0, 0, 0, pick code z.2 [5, 6, -1]⟩], a.2⟩
  else if z.1 = 3 then ⟨ev, (drMany code 31 0 (z.2, q.2)).2, (drMany code 31 0 (z.2, q.2)).1⟩
  else ⟨ev, q.2, z.2⟩
def dr11 (code : List Int) (s : Src) : DrG :=
  let e := nxt code s 5
  let n := nxt code e.2 9
  drEnd code (1 + e.1) (itr (drF code (1 + e.1)) n.1.toNat (n.2, []))
/-! ### Their sizes -/
structure DrPl (p : Pl) : Prop where
  f : -1 ≤ p.f ∧ p.f ≤ 100
  t : -1 ≤ p.t ∧ p.t ≤ 100
  d : -1 ≤ p.d ∧ p.d ≤ 1001
  k : -1 ≤ p.k ∧ p.k ≤ 6
structure RStOk (code : List Int) (m : Nat) (q : RSt) : Prop where
  s : SrcOk code q.1
  xs : ∀ p ∈ q.2, DrPl p
  len : q.2.length ≤ m
theorem RStOk.app {code : List Int} {m : Nat} {q : RSt} {p : Pl} {s : Src} (h : RStOk code m q) (hp : DrPl p) (hs : SrcOk code s) : RStOk code (m + 1) (s, q.2 ++ [p]) :=
  ⟨hs, fun p' hp' => by
    rcases List.mem_append.1 hp' with h' | h'
    · exact h.xs p' h'
    · simp at h'; subst h'; exact hp, by have := h.len; simp; omega⟩
theorem drPl_ok {code : List Int} (hc : CodeOk code) {s : Src} (hs : SrcOk code s) {ev : Int} (he : ev ≤ 100) : DrPl (drPl code ev s).1 ∧ SrcOk code (drPl code ev s).2 := by
  obtain ⟨a1, a2, a3⟩ := nxt_ok hc hs ev
  obtain ⟨b1, b2, b3⟩ := nxt_ok hc a3 ev
  obtain ⟨d1, d2, d3⟩ := nxt_ok hc b3 12
  obtain ⟨q1, q2, q3⟩ := nxt_ok hc d3 4
  have ht : SrcOk code (if (nxt code (nxt code s ev).2 ev).1 ≤ (nxt code s ev).1 then (nxt code (nxt code (nxt code s ev).2 ev).2 12).2 else (nxt code (nxt code (nxt code (nxt code s ev).2 ev).2 12).2 4).2) := by split <;> assumption
  obtain ⟨x1, x2, x3⟩ := nxt_ok hc ht 2
  obtain ⟨y1, y2, y3⟩ := nxt_ok hc x3 3
  unfold drPl
  simp only
  generalize (nxt code (if (nxt code (nxt code s ev).2 ev).1 ≤ (nxt code s ev).1 then (nxt code (nxt code (nxt code s ev).2 ev).2 12).2 else (nxt code (nxt code (nxt code (nxt code s ev).2 ev).2 12).2 4).2) 2) = X at *
  generalize (nxt code X.2 3) = Y at *
  have hxy : 0 ≤ X.1 * Y.1 ∧ X.1 * Y.1 ≤ 2 := by
    have e1 : X.1 ≤ 1 := by omega
    have e2 : Y.1 ≤ 2 := by omega
    have := Int.mul_nonneg x1 y1
    have := Int.mul_le_mul_of_nonneg_right e1 y1
    omega
  generalize X.1 * Y.1 = m at *
  split
  · obtain ⟨z1, z2, z3⟩ := nxt_ok hc y3 30
    exact ⟨⟨by simp only; omega, by simp only; omega, by simp only; omega, by simp only; split <;> omega⟩, z3⟩
  · obtain ⟨z1, z2, z3⟩ := nxt_ok hc ht 30
    exact ⟨⟨by simp only; omega, by simp only; omega, by simp only; omega, by simp only; split <;> omega⟩, z3⟩
theorem drF_ok {code : List Int} (hc : CodeOk code) {ev : Int} (he : ev ≤ 100) {m : Nat} {q : RSt} (h : RStOk code m q) : RStOk code (m + 1) (drF code ev q) :=
  h.app (drPl_ok hc h.s he).1 (drPl_ok hc h.s he).2
theorem drMany_ok {code : List Int} (hc : CodeOk code) : ∀ (f k : Nat) (q : RSt) (m : Nat), f + k = 31 → RStOk code m q → RStOk code (m + f) (drMany code f k q)
  | 0, k, q, m, _, h => h
  | f + 1, k, q, m, hk, h => by
    obtain ⟨a1, a2, a3⟩ := nxt_ok hc h.s 9
    unfold drMany
    split
    · have := drMany_ok hc f (k + 1) ((nxt code q.1 9).2, q.2 ++ [⟨0, 0, k, 1⟩]) (m + 1) (by omega) (h.app ⟨by simp, by simp, by simp only; omega, by simp⟩ a3)
      rwa [show m + 1 + f = m + (f + 1) by omega] at this
    · exact ⟨a3, h.xs, by have := h.len; simp only; omega⟩
theorem pick_mem {code : List Int} (hc : CodeOk code) {s : Src} (hs : SrcOk code s) {xs : List Int} (h0 : 0 < xs.length) : pick code s xs ∈ xs := by
  obtain ⟨b1, b2, b3⟩ := nxt_ok hc hs xs.length
  unfold pick
  rw [List.getElem?_eq_getElem (by omega), Option.getD_some]
  exact List.getElem_mem _
structure DrOk (code : List Int) (g : DrG) : Prop where
  ev : 0 ≤ g.ev ∧ g.ev ≤ 11
  xs : ∀ p ∈ g.xs, DrPl p
  len : g.xs.length ≤ 40
  s : SrcOk code g.s
theorem drEnd_ok {code : List Int} (hc : CodeOk code) {ev : Int} (he : 0 ≤ ev ∧ ev ≤ 5) {q : RSt} (h : RStOk code 8 q) : DrOk code (drEnd code ev q) := by
  obtain ⟨z1, z2, z3⟩ := nxt_ok hc h.s 60
  obtain ⟨y1, y2, y3⟩ := nxt_ok hc z3 3
  obtain ⟨x1, x2, x3⟩ := nxt_ok hc y3 3
  have hl := h.len
  unfold drEnd
  simp only
  split
  · have := pick_mem hc z3 (xs := [0, 10, 11]) (by simp)
    simp at this
    exact ⟨by simp only; omega, h.xs, by simp only; omega, y3⟩
  · split
    · have h1 := pick_mem hc z3 (xs := [-1, 0, ev]) (by simp)
      have h2 := pick_mem hc y3 (xs := [-1, 1000, 1001]) (by simp)
      simp at h1 h2
      have := h.app (p := ⟨pick code (nxt code q.1 60).2 [-1, 0, ev], 0, pick code (nxt code (nxt code q.1 60).2 3).2 [-1, 1000, 1001], 1⟩) (s := (nxt code (nxt code (nxt code q.1 60).2 3).2 3).2) ⟨by simp only; omega, by simp, by simp only; omega, by simp⟩ x3
      exact ⟨by simp only; omega, this.xs, by have := this.len; simp only at this ⊢; omega, x3⟩
    · split
      · have h1 := pick_mem hc z3 (xs := [5, 6, -1]) (by simp)
        simp at h1
        have := h.app (p := ⟨0, 0, 0, pick code (nxt code q.1 60).2 [5, 6, -1]⟩) (s := (nxt code (nxt code q.1 60).2 3).2) ⟨by simp, by simp, by simp, by simp only; omega⟩ y3
        exact ⟨by simp only; omega, this.xs, by have := this.len; simp only at this ⊢; omega, y3⟩
      · split
        · have := drMany_ok hc 31 0 ((nxt code q.1 60).2, q.2) 8 rfl ⟨z3, h.xs, hl⟩
          exact ⟨by simp only; omega, this.xs, by have := this.len; simp only; omega, this.s⟩
        · exact ⟨by simp only; omega, h.xs, by simp only; omega, z3⟩
theorem drI_ok {code : List Int} (hc : CodeOk code) {ev : Int} (he : ev ≤ 100) {s : Src} (hs : SrcOk code s) (n : Nat) : RStOk code n (itr (drF code ev) n (s, [])) :=
  itr_ok (p := fun k q => RStOk code k q) ⟨hs, by simp, by simp⟩ (fun k x h => drF_ok hc he h) n
theorem dr11_ok {code : List Int} (hc : CodeOk code) {s : Src} (hs : SrcOk code s) : DrOk code (dr11 code s) := by
  obtain ⟨e1, e2, e3⟩ := nxt_ok hc hs 5
  obtain ⟨n1, n2, n3⟩ := nxt_ok hc e3 9
  have h := drI_ok hc (ev := 1 + (nxt code s 5).1) (by omega) n3 (nxt code (nxt code s 5).2 9).1.toNat
  exact drEnd_ok hc (by omega) ⟨h.s, h.xs, by have := h.len; omega⟩
end Go.Proofs.Ytpgcmpbamlnkkaa
end

section
namespace Go.Proofs.Ytpgcmpbamlnkkaa
set_option linter.unusedSimpArgs false
set_option linter.unusedVariables false
open Go Go.RowKit
attribute [local irreducible] AL AD AW OpOk Le AC thenQ blockQ EndQ

section
variable {P : Program} {o : Oper} {A : Operand → AV} {H : Heap} {new : Nat}
theorem Ok.bs3 {t e : TypeId} {k b : Nat} {z : Value} {x y w : Operand} {n1 n2 n3 : Int} (ho : o.op = .buildSlice t 3 #[(0, x), (1, y), (2, w)]) [h : TySlice P t e k b z] (hx : A x = I n1) (hy : A y = I n2) (hw : A w = I n3) (hk : k = 1) :
    OpOk P o A [] H new (.own k ⟨new, []⟩ 0 3) [.one ⟨new, []⟩ (some (IO [n1, n2, n3]))] := by
  subst hk
  have := OpOk.buildSlice (P := P) (H := H) (new := new) (A := A) [x, y, w] ho rfl rfl (by decide) (by intro p hp; simp at hp; rcases hp with rfl | rfl | rfl <;> simp only [hx, hy, hw] <;> rfl) (by intro p hp; simp at hp; rcases hp with rfl | rfl | rfl <;> simp only [hx, hy, hw] <;> rfl)
  simpa [hx, hy, hw, AV.cells, dobj] using this
/-- The draw of a number. -/
theorem Nx {fo x y : Operand} {ts : Array TypeId} {f : FuncId} {code : List Int} {s s' : Src} {n a : Int} (hc : AC P f [Bx 3 0, I n] (srcH code s) (I a) (srcH code s')) (ho : o.op = .call { callee := .value fo, args := #[x, y], argTypes := ts }) [FnBody P f] (hfo : A fo = .clo (.func f) [] [])
    (hx : A x = Bx 3 0) (hy : A y = I n) (hl : H ⟨0, []⟩ = some (srcO code s)) : OpOk P o A [⟨0, []⟩] H new (I a) [.one ⟨0, []⟩ (some (srcO code s'))] :=
  OpOk.callM (xs := [x, y]) ho hfo hc hl rfl (by
    show ARs _ _ _ _ _ [A x, A y]
    rw [hx, hy]; exact .cons (AR.ptr 3 ⟨0, []⟩ 0 0 rfl) (.cons (.dd _) .nil))
/-- One of some numbers. -/
theorem Kx {fo x y : Operand} {ts : Array TypeId} {f : FuncId} {code : List Int} {s s' : Src} {m : Nat} {xs : List Int} {a : Int} {l : Loc} (hc : AC P f [Bx 3 0, .own 1 ⟨1, []⟩ 0 m] (upd (upd H0 ⟨1, []⟩ (some (IO xs))) ⟨0, []⟩ (some (srcO code s))) (I a) (srcH code s')) (ho : o.op = .call { callee := .value fo, args := #[x, y], argTypes := ts }) [FnBody P f] (hfo : A fo = .clo (.func f) [] [])
    (hx : A x = Bx 3 0) (hy : A y = .own 1 l 0 m) (hl : H ⟨0, []⟩ = some (srcO code s)) (hl2 : H l = some (IO xs)) (hne : (⟨0, []⟩ : Loc) ≠ l) : OpOk P o A [⟨0, []⟩, l] H new (I a) [.one l none, .one ⟨0, []⟩ (some (srcO code s'))] :=
  OpOk.callM2 (xs := [x, y]) ho hfo hc hl hl2 hne rfl (by
    show ARs _ _ _ _ _ [A x, A y]
    rw [hx, hy]
    refine .cons ?_ (.cons ?_ .nil)
    · have := AR.ptr (H := H) (lent := fun _ => False) (τ := two ⟨0, []⟩ l) (L := (· ∈ [(⟨0, []⟩ : Loc), ⟨1, []⟩])) 3 ⟨0, []⟩ 0 0 (by simp)
      rwa [show two ⟨0, []⟩ l ⟨0, []⟩ = ⟨0, []⟩ from if_pos rfl] at this
    · have := AR.own (H := H) (lent := fun _ => False) (τ := two ⟨0, []⟩ l) (L := (· ∈ [(⟨0, []⟩ : Loc), ⟨1, []⟩])) 1 ⟨1, []⟩ 0 m (by simp)
      rwa [show two ⟨0, []⟩ l ⟨1, []⟩ = l from if_neg (by decide)] at this)
end
set_option maxHeartbeats 2000000 in
theorem l11Draw_ac (code : List Int) (hc : CodeOk code) (s : Src) (hs : SrcOk code s) : AC Try.prog 196 [Bx 3 0] (srcH code s) (.agg [I (dr11 code s).ev, .own 4 ⟨1, []⟩ 0 (dr11 code s).xs.length]) (heapL [(⟨0, []⟩, ⟨0, []⟩, srcO code (dr11 code s).s), (⟨1, []⟩, ⟨1, []⟩, PO (dr11 code s).xs)]) := by
  unfold dr11
  obtain ⟨e, s1, e1, e2, h1, q1, N1⟩ := next_ex hc hs 5
  rw [q1]; simp only
  obtain ⟨m, s2, m1, m2, h2, q2, N2⟩ := next_ex hc h1 9
  rw [q2]; simp only
  obtain ⟨n, rfl⟩ : ∃ n : Nat, m = n := ⟨m.toNat, by omega⟩
  rw [Int.toNat_natCast]
  have hF := drI_ok hc (ev := 1 + e) (by omega) h2 n
  generalize hqF : itr (drF code (1 + e)) n (s2, []) = qF at hF
  show AC _ _ _ (heapL [(⟨0, []⟩, ⟨0, []⟩, srcO code s)]) _ _
  refine AC.of_body 1 Try.func196 rfl (fun l h => by simp [heapL, upd] at h; simp [h]) (fun C hC => ?_)
  simp only [startFr, Try.ntmps196, List.length_cons, List.length_nil, Nat.reduceAdd, Nat.reduceSub, List.replicate_succ, List.replicate_zero, List.cons_append, List.nil_append]
  have hD : ∀ l, C.D0 l → l = ⟨0, []⟩ := fun l h => by have := (hC l).1 h; simp [heapL, upd] at this; exact this
  repeat' (first | ((first | apply Ba | (apply Bb; (· rfl); (· rfl)) | (apply Bc; (· exact nxE)) | (apply Bd; (· rfl); (· rfl); (· exact nxE))); (· first | exact Nx N1 rfl rfl rfl rfl rfl | exact Nx N2 rfl rfl rfl rfl rfl | exact Ok.pe)) | ((first | apply Ca | (apply Cb; (· exact nxE))); (· first | exact Nx N1 rfl rfl rfl rfl rfl | exact Nx N2 rfl rfl rfl rfl rfl | exact Ok.e0)) | refine Sx ?_ | (refine Sy (fun h => ?_) (fun h => ?_) <;> try (exfalso; omega; done)) | refine Sz (fun h => ?_) (fun h => ?_))
  refine AW.loop (X := {k : Nat // k ≤ n}) (fun k => ⟨[Bx 3 0, Oo, Bx 2 1, Bx 2 2, I ((n : Int) - (k.1 : Nat)), Oo, Oo, Oo, Oo, Oo, Oo, Oo, Oo, Oo, Oo, Oo, Oo, Oo, Oo, Oo, Oo, Oo, Oo, Oo, Oo, Oo, Oo, Oo, Oo, Oo, Oo, Oo, Oo, Oo, Oo, Oo, Oo, Oo, Oo, Oo, Oo, Oo, Oo, Oo, Oo, Oo, Oo, Oo, Oo, Oo, Oo, Oo, Oo, Oo, Oo, Oo, Oo, Oo, Oo, Oo, Oo, Oo, Oo, Oo, Oo, Oo, Oo, Oo, Oo, Oo, Oo, Oo, Oo, Oo, Oo, Oo, Oo, Oo, Oo, Oo, Oo, Oo, Oo, Oo, Oo, Oo, Oo, Oo, Oo, Oo, Oo, Oo, Oo, Oo, Oo, Oo, Oo, Oo, Oo, Oo, Oo, Oo, Oo, Oo, Oo, Oo, Oo, Oo], heapL [(⟨0, []⟩, ⟨0, []⟩, srcO code (itr (drF code (1 + e)) k.1 (s2, [])).1), (⟨1, []⟩, ⟨1, []⟩, ⟨2, [[I 0, nilS]]⟩), (⟨2, []⟩, ⟨2, []⟩, ⟨2, [[I (1 + e), .own 4 ⟨3, []⟩ 0 (itr (drF code (1 + e)) k.1 (s2, [])).2.length]]⟩), (⟨3, []⟩, ⟨3, []⟩, PO (itr (drF code (1 + e)) k.1 (s2, [])).2)], 900⟩) (fun k => n - k.1) ⟨0, Nat.zero_le _⟩ ?_ (fun k => ?_)
  ·
    (apply Le.headZ [_, _, _, _] rfl)
    all_goals (try dsimp only [srcs])
    (case' hfr | hob => (repeat' (first | refine La ?_ ?_ | exact Lc | refine Lo ?_ | refine ⟨⟨_, rfl, ?_⟩, ?_⟩ | refine Lx ?_)))
    all_goals (first | (rfl) | exact Ld)
  obtain ⟨k, hk⟩ := k
  simp only
  by_cases hlt : k < n
  · have hI := drI_ok hc (ev := 1 + e) (by omega) h2 k
    have hst : itr (drF code (1 + e)) (k + 1) (s2, []) = drF code (1 + e) (itr (drF code (1 + e)) k (s2, [])) := rfl
    generalize itr (drF code (1 + e)) k (s2, []) = q at hI hst ⊢
    obtain ⟨s3, ys⟩ := q
    obtain ⟨i1, i2, i3⟩ := hI
    simp only at i1 i2 i3 ⊢
    obtain ⟨a, s4, a1, a2, h4, q4, N4⟩ := next_ex hc i1 (1 + e)
    obtain ⟨b, s5, b1, b2, h5, q5, N5⟩ := next_ex hc h4 (1 + e)
    obtain ⟨d, s6, d1, d2, h6, q6, N6⟩ := next_ex hc h5 12
    obtain ⟨f, s7, f1, f2, h7, q7, N7⟩ := next_ex hc h6 4
    obtain ⟨t, ht⟩ : ∃ t, t = if b ≤ a then s6 else s7 := ⟨_, rfl⟩
    have h8 : SrcOk code t := by rw [ht]; split <;> assumption
    obtain ⟨x, s9, x1, x2, h9, q9, N9⟩ := next_ex hc h8 2
    obtain ⟨y, s10, y1, y2, h10, q10, N10⟩ := next_ex hc h9 3
    have hxy : 0 ≤ x * y ∧ x * y ≤ 2 := by
      have e1 : x ≤ 1 := by omega
      have := Int.mul_nonneg x1 y1
      have := Int.mul_le_mul_of_nonneg_right e1 y1
      omega
    obtain ⟨u, hu⟩ : ∃ u, u = if b ≤ a ∨ f = 0 then s10 else t := ⟨_, rfl⟩
    have h11 : SrcOk code u := by rw [hu]; split <;> assumption
    obtain ⟨z, s12, z1, z2, h12, q12, N12⟩ := next_ex hc h11 30
    have hp : drPl code (1 + e) s3 = (⟨a, b, d, if z = 0 then 0 else if b ≤ a ∨ f = 0 then 1 + x * y else 0⟩, s12) := by
      have h20 : (if b ≤ a ∨ f = 0 then ((1 + x * y, s10) : Int × Src) else (0, t)) = (if b ≤ a ∨ f = 0 then 1 + x * y else 0, u) := by rw [hu]; split <;> rfl
      unfold drPl
      simp only [q4, q5, q6, q7, ← ht, q9, q10, h20, q12]
    have hst2 : itr (drF code (1 + e)) (k + 1) (s2, []) = (s12, ys ++ [⟨a, b, d, if z = 0 then 0 else if b ≤ a ∨ f = 0 then 1 + x * y else 0⟩]) := by
      rw [hst]; unfold drF; rw [hp]
    clear hst hp
    have hyl : (ys.map Pl.row).length = ys.length := List.length_map _
    have hcs : (t = s6 ∧ b ≤ a) ∨ (t = s7 ∧ ¬ b ≤ a) := by rw [ht]; by_cases hb : b ≤ a <;> simp [hb]
    have hcu : (u = s10 ∧ (b ≤ a ∨ f = 0)) ∨ (u = t ∧ ¬ (b ≤ a ∨ f = 0)) := by rw [hu]; by_cases hb : b ≤ a ∨ f = 0 <;> simp [hb]
    clear ht hu
    rcases hcs with ⟨rfl, hb1⟩ | ⟨rfl, hb1⟩ <;> rcases hcu with ⟨rfl, hb2⟩ | ⟨rfl, hb2⟩ <;> try (exfalso; omega; done)
    all_goals
      repeat' (first | ((first | apply Ba | (apply Bb; (· rfl); (· rfl)) | (apply Bc; (· exact nxE)) | (apply Bd; (· rfl); (· rfl); (· exact nxE))); (· first | exact Nx N4 rfl rfl rfl rfl rfl | exact Nx N5 rfl rfl rfl rfl rfl | exact Nx N6 rfl rfl rfl rfl rfl | exact Nx N7 rfl rfl rfl rfl rfl | exact Nx N9 rfl rfl rfl rfl rfl | exact Nx N10 rfl rfl rfl rfl rfl | exact Nx N12 rfl rfl rfl rfl rfl | exact Ok.append1 (row := [DI a, DI b, DI d, DI _]) rfl rfl (by decide) rfl rfl hyl rfl rfl rfl (by rfl) (by omega) (by omega) | exact Ok.pe)) | ((first | apply Ca | (apply Cb; (· exact nxE))); (· first | exact Nx N4 rfl rfl rfl rfl rfl | exact Nx N5 rfl rfl rfl rfl rfl | exact Nx N6 rfl rfl rfl rfl rfl | exact Nx N7 rfl rfl rfl rfl rfl | exact Nx N9 rfl rfl rfl rfl rfl | exact Nx N10 rfl rfl rfl rfl rfl | exact Nx N12 rfl rfl rfl rfl rfl | exact Ok.append1 (row := [DI a, DI b, DI d, DI _]) rfl rfl (by decide) rfl rfl hyl rfl rfl rfl (by rfl) (by omega) (by omega) | exact Ok.e0)) | refine Sx ?_ | (refine Sy (fun h => ?_) (fun h => ?_) <;> try (exfalso; omega; done)) | refine Sz (fun h => ?_) (fun h => ?_))
    all_goals
      refine ⟨⟨k + 1, by omega⟩, ?_, by simp only; omega⟩
      simp only [hst2]
      (apply Le.headZ [_, _, _, _] rfl)
      all_goals (try dsimp only [srcs])
      (case' hfr | hob => (repeat' (first | refine La ?_ ?_ | exact Lc | refine Lo ?_ | refine ⟨⟨_, rfl, ?_⟩, ?_⟩ | refine Lx ?_)))
      all_goals (first | ((simp [Pl.row, *]; done)) | exact Ld)
  · obtain rfl : k = n := by omega
    rw [hqF]
    obtain ⟨s3, ys⟩ := qF
    obtain ⟨i1, i2, i3⟩ := hF
    simp only at i1 i2 i3 ⊢
    have hyl : (ys.map Pl.row).length = ys.length := List.length_map _
    obtain ⟨z, s4, z1, z2, h4, q4, N4⟩ := next_ex hc i1 60
    obtain ⟨a1, s5, _, h5, p1, q5, K1⟩ := pick_ex hc h4 [0, 10, 11] 3 rfl
    obtain ⟨a2, s6, _, h6, p2, q6, K2⟩ := pick_ex hc h4 [-1, 0, 1 + e] 3 rfl
    obtain ⟨a4, s8, _, h8, p4, q8, K4⟩ := pick_ex hc h4 [5, 6, -1] 3 rfl
    obtain rfl : s5 = s6 := q5.symm.trans q6
    obtain rfl : s5 = s8 := q5.symm.trans q8
    obtain ⟨a3, s7, _, h7, p3, q7, K3⟩ := pick_ex hc h5 [-1, 1000, 1001] 3 rfl
    unfold drEnd
    simp only [q4, q5, q7, p1, p2, p3, p4]
    have hm := drMany_ok hc 31 0 (s4, ys) k (by omega) ⟨h4, i2, i3⟩
    obtain ⟨R, hR⟩ : ∃ R, R = drMany code 31 0 (s4, ys) := ⟨_, rfl⟩
    rw [← hR] at hm ⊢
    repeat' (first | ((first | apply Ba | (apply Bb; (· rfl); (· rfl)) | (apply Bc; (· exact nxE)) | (apply Bd; (· rfl); (· rfl); (· exact nxE))); (· first | exact Nx N4 rfl rfl rfl rfl rfl | exact Kx K1 rfl rfl rfl rfl rfl rfl (by decide) | exact Kx K2 rfl rfl rfl rfl rfl rfl (by decide) | exact Kx K3 rfl rfl rfl rfl rfl rfl (by decide) | exact Kx K4 rfl rfl rfl rfl rfl rfl (by decide) | exact Ok.bs3 rfl rfl rfl rfl rfl | exact Ok.append1 (row := [DI _, DI _, DI _, DI _]) rfl rfl (by decide) rfl rfl hyl rfl rfl rfl (by rfl) (by omega) (by omega) | exact Ok.pe)) | ((first | apply Ca | (apply Cb; (· exact nxE))); (· first | exact Nx N4 rfl rfl rfl rfl rfl | exact Kx K1 rfl rfl rfl rfl rfl rfl (by decide) | exact Kx K2 rfl rfl rfl rfl rfl rfl (by decide) | exact Kx K3 rfl rfl rfl rfl rfl rfl (by decide) | exact Kx K4 rfl rfl rfl rfl rfl rfl (by decide) | exact Ok.bs3 rfl rfl rfl rfl rfl | exact Ok.append1 (row := [DI _, DI _, DI _, DI _]) rfl rfl (by decide) rfl rfl hyl rfl rfl rfl (by rfl) (by omega) (by omega) | exact Ok.e0)) | refine Sx ?_ | (refine Sy (fun h => ?_) (fun h => ?_) <;> try (exfalso; omega; done)) | refine Sz (fun h => ?_) (fun h => ?_))
    rotate_left 3
    · rw [if_neg (by assumption), if_neg (by assumption), if_neg (by assumption), if_pos (by assumption)]
      refine AW.loop (X := {p : Nat × RSt // p.1 ≤ 30 ∧ drMany code (31 - p.1) p.1 p.2 = R ∧ RStOk code (k + p.1) p.2}) (fun p => ⟨[Bx 3 0, Oo, Bx 2 1, Bx 2 2, Oo, Oo, I p.1.1, Oo, Oo, Oo, Oo, Oo, Oo, Oo, Oo, Oo, Oo, Oo, Oo, Oo, Oo, Oo, Oo, Oo, Oo, Oo, Oo, Oo, Oo, Oo, Oo, Oo, Oo, Oo, Oo, Oo, Oo, Oo, Oo, Oo, Oo, Oo, Oo, Oo, Oo, Oo, Oo, Oo, Oo, Oo, Oo, Oo, Oo, Oo, Oo, Oo, Oo, Oo, Oo, Oo, Oo, Oo, Oo, Oo, Oo, Oo, Oo, Oo, Oo, Oo, Oo, Oo, Oo, Oo, Oo, Oo, Oo, Oo, Oo, Oo, Oo, Oo, Oo, Oo, Oo, Oo, Oo, Oo, Oo, Oo, Oo, Oo, Oo, Oo, Oo, Oo, Oo, Oo, Oo, Oo, Oo, Oo, Oo, Oo, Oo, Oo, Oo, Oo], heapL [(⟨0, []⟩, ⟨0, []⟩, srcO code p.1.2.1), (⟨1, []⟩, ⟨1, []⟩, ⟨2, [[I 0, nilS]]⟩), (⟨2, []⟩, ⟨2, []⟩, ⟨2, [[I (1 + e), .own 4 ⟨3, []⟩ 0 p.1.2.2.length]]⟩), (⟨3, []⟩, ⟨3, []⟩, PO p.1.2.2)], 900⟩) (fun p => 31 - p.1.1) ⟨(0, s4, ys), by simp, hR.symm, h4, i2, i3⟩ ?_ (fun p => ?_)
      ·
        (apply Le.headZ [_, _, _, _] rfl)
        all_goals (try dsimp only [srcs])
        (case' hfr | hob => (repeat' (first | refine La ?_ ?_ | exact Lc | refine Lo ?_ | refine ⟨⟨_, rfl, ?_⟩, ?_⟩ | refine Lx ?_)))
        all_goals (first | (rfl) | exact Ld)
      obtain ⟨⟨j, s10, us⟩, j1, j2, ⟨g1, g2, g3⟩⟩ := p
      simp only at j1 j2 g1 g2 g3 ⊢
      obtain ⟨y, s11, y1, y2, h11, q11, N11⟩ := next_ex hc g1 9
      have hul : (us.map Pl.row).length = us.length := List.length_map _
      by_cases hlt2 : (j : Int) < 22 + y
      · have hst : drMany code (31 - j) j (s10, us) = drMany code (31 - (j + 1)) (j + 1) (s11, us ++ [⟨0, 0, j, 1⟩]) := by
          rw [show 31 - j = (31 - (j + 1)) + 1 by omega, drMany]
          simp only [q11]
          rw [if_pos hlt2]
        rw [hst] at j2
        repeat' (first | ((first | apply Ba | (apply Bb; (· rfl); (· rfl)) | (apply Bc; (· exact nxE)) | (apply Bd; (· rfl); (· rfl); (· exact nxE))); (· first | exact Nx N11 rfl rfl rfl rfl rfl | exact Ok.append1 (row := [DI 0, DI 0, DI j, DI 1]) rfl rfl (by decide) rfl rfl hul rfl rfl rfl (by rfl) (by omega) (by omega) | exact Ok.pe)) | ((first | apply Ca | (apply Cb; (· exact nxE))); (· first | exact Nx N11 rfl rfl rfl rfl rfl | exact Ok.append1 (row := [DI 0, DI 0, DI j, DI 1]) rfl rfl (by decide) rfl rfl hul rfl rfl rfl (by rfl) (by omega) (by omega) | exact Ok.e0)) | refine Sx ?_ | (refine Sy (fun h => ?_) (fun h => ?_) <;> try (exfalso; omega; done)) | refine Sz (fun h => ?_) (fun h => ?_))
        refine ⟨⟨(j + 1, s11, us ++ [⟨0, 0, j, 1⟩]), by simp only; omega, j2, h11, fun p hp => ?_, by simp; omega⟩, ?_, by simp only; omega⟩
        · rcases List.mem_append.1 hp with h | h
          · exact g2 p h
          · simp at h; subst h; exact ⟨by simp, by simp, by simp only; omega, by simp⟩
        (apply Le.headZ [_, _, _, _] rfl)
        all_goals (try dsimp only [srcs])
        (case' hfr | hob => (repeat' (first | refine La ?_ ?_ | exact Lc | refine Lo ?_ | refine ⟨⟨_, rfl, ?_⟩, ?_⟩ | refine Lx ?_)))
        all_goals (first | ((simp [Pl.row, *]; done)) | exact Ld)
      · have hst : R = (s11, us) := by
          rw [← j2]
          rw [show 31 - j = (31 - (j + 1)) + 1 by omega, drMany]
          simp only [q11]
          rw [if_neg hlt2]
        rw [hst]
        repeat' (first | ((first | apply Ba | (apply Bb; (· rfl); (· rfl)) | (apply Bc; (· exact nxE)) | (apply Bd; (· rfl); (· rfl); (· exact nxE))); (· first | exact Nx N11 rfl rfl rfl rfl rfl | exact Ok.pe)) | ((first | apply Ca | (apply Cb; (· exact nxE))); (· first | exact Nx N11 rfl rfl rfl rfl rfl | exact Ok.e0)) | refine Sx ?_ | (refine Sy (fun h => ?_) (fun h => ?_) <;> try (exfalso; omega; done)) | refine Sz (fun h => ?_) (fun h => ?_))
        refine Ya ?_
        (apply Le.head [(⟨0, []⟩, ⟨0, []⟩, srcO code s11), (⟨1, []⟩, ⟨3, []⟩, PO us)])
        (case' hfr | hob => (repeat' (first | refine La ?_ ?_ | exact Lc | refine Lo ?_ | refine ⟨⟨_, rfl, ?_⟩, ?_⟩ | refine Lx ?_)))
        all_goals (first | exact Ld | ((simp [Pl.row, *]; done)))
    rotate_left 1
    all_goals (first | rw [if_pos (by assumption)] | rw [if_neg (by assumption), if_pos (by assumption)] | rw [if_neg (by assumption), if_neg (by assumption), if_pos (by assumption)] | rw [if_neg (by assumption), if_neg (by assumption), if_neg (by assumption), if_neg (by assumption)])
    (·
      refine Ya ?_
      (apply Le.head [(⟨0, []⟩, ⟨0, []⟩, srcO code s5), (⟨1, []⟩, ⟨3, []⟩, PO ys)])
      (case' hfr | hob => (repeat' (first | refine La ?_ ?_ | exact Lc | refine Lo ?_ | refine ⟨⟨_, rfl, ?_⟩, ?_⟩ | refine Lx ?_)))
      all_goals (first | exact Ld | ((simp [Pl.row, *]; done))))
    (·
      refine Ya ?_
      (apply Le.head [(⟨0, []⟩, ⟨0, []⟩, srcO code s7), (⟨1, []⟩, ⟨920, []⟩, PO _)])
      (case' hfr | hob => (repeat' (first | refine La ?_ ?_ | exact Lc | refine Lo ?_ | refine ⟨⟨_, rfl, ?_⟩, ?_⟩ | refine Lx ?_)))
      all_goals (first | exact Ld | ((simp [Pl.row, *]; done))))
    (·
      refine Ya ?_
      (apply Le.head [(⟨0, []⟩, ⟨0, []⟩, srcO code s5), (⟨1, []⟩, ⟨917, []⟩, PO _)])
      (case' hfr | hob => (repeat' (first | refine La ?_ ?_ | exact Lc | refine Lo ?_ | refine ⟨⟨_, rfl, ?_⟩, ?_⟩ | refine Lx ?_)))
      all_goals (first | exact Ld | ((simp [Pl.row, *]; done))))
    (·
      refine Ya ?_
      (apply Le.head [(⟨0, []⟩, ⟨0, []⟩, srcO code s4), (⟨1, []⟩, ⟨3, []⟩, PO ys)])
      (case' hfr | hob => (repeat' (first | refine La ?_ ?_ | exact Lc | refine Lo ?_ | refine ⟨⟨_, rfl, ?_⟩, ?_⟩ | refine Lx ?_)))
      all_goals (first | exact Ld | ((simp [Pl.row, *]; done))))
end Go.Proofs.Ytpgcmpbamlnkkaa
end

section
namespace Go.Proofs.Ytpgcmpbamlnkkaa
set_option linter.unusedSimpArgs false
set_option linter.unusedVariables false
open Go Go.RowKit
attribute [local irreducible] AL AD AW OpOk Le AC thenQ blockQ EndQ

section
variable {P : Program} {o : Oper} {A : Operand → AV} {H : Heap} {new : Nat}
theorem Ok.bs4 {t e : TypeId} {k b : Nat} {z : Value} {x y w v : Operand} {n1 n2 n3 n4 : Int} (ho : o.op = .buildSlice t 4 #[(0, x), (1, y), (2, w), (3, v)]) [h : TySlice P t e k b z] (hx : A x = I n1) (hy : A y = I n2) (hw : A w = I n3) (hv : A v = I n4) (hk : k = 1) :
    OpOk P o A [] H new (.own k ⟨new, []⟩ 0 4) [.one ⟨new, []⟩ (some (IO [n1, n2, n3, n4]))] := by
  subst hk
  have := OpOk.buildSlice (P := P) (H := H) (new := new) (A := A) [x, y, w, v] ho rfl rfl (by decide) (by intro p hp; simp at hp; rcases hp with rfl | rfl | rfl | rfl <;> simp only [hx, hy, hw, hv] <;> rfl) (by intro p hp; simp at hp; rcases hp with rfl | rfl | rfl | rfl <;> simp only [hx, hy, hw, hv] <;> rfl)
  simpa [hx, hy, hw, hv, AV.cells, dobj] using this
/-- A draw that hands back data. -/
theorem Zx {fo x : Operand} {xs : List Operand} {ts : Array TypeId} {f : FuncId} {code : List Int} {s s' : Src} {args : List AV} {res : AV} (hc : AC P f (Bx 3 0 :: args) (srcH code s) res (srcH code s')) (ho : o.op = .call { callee := .value fo, args := (x :: xs).toArray, argTypes := ts }) [FnBody P f] (hfo : A fo = .clo (.func f) [] [])
    (hx : A x = Bx 3 0) (hl : H ⟨0, []⟩ = some (srcO code s)) (hy : ARs H (fun _ => False) (fun _ => ⟨0, []⟩) (· = ⟨0, []⟩) args (xs.map A)) (hres : ∀ g, rn g res = res) : OpOk P o A [⟨0, []⟩] H new res [.one ⟨0, []⟩ (some (srcO code s'))] :=
  OpOk.callMg ho hfo hc hl hres (by
    rw [List.append_nil]
    show ARs _ _ _ _ _ (A x :: xs.map A)
    rw [hx]; exact .cons (AR.ptr 3 ⟨0, []⟩ 0 0 rfl) hy)
/-- A draw that hands back a graph of its own. -/
theorem Gx {fo x : Operand} {ts : Array TypeId} {f : FuncId} {code : List Int} {s s' : Src} {ev : Int} {n : Nat} {ys : List Pl} (hc : AC P f [Bx 3 0] (srcH code s) (.agg [I ev, .own 4 ⟨1, []⟩ 0 n]) (heapL [(⟨0, []⟩, ⟨0, []⟩, srcO code s'), (⟨1, []⟩, ⟨1, []⟩, PO ys)])) (ho : o.op = .call { callee := .value fo, args := #[x], argTypes := ts }) [FnBody P f] (hfo : A fo = .clo (.func f) [] [])
    (hx : A x = Bx 3 0) (hl : H ⟨0, []⟩ = some (srcO code s)) : OpOk P o A [⟨0, []⟩] H new (.agg [I ev, .own 4 ⟨new, [1]⟩ 0 n]) [.all new (fun sub => heapX [(⟨new, [1]⟩, ⟨new, [1]⟩, PO ys)] [] ⟨new, sub⟩), .one ⟨0, []⟩ (some (srcO code s'))] :=
  OpOk.callMX (xs := [x]) [(⟨1, []⟩, ⟨1, []⟩, PO ys)] [] ho hfo hc hl (by
    show ARs _ _ _ _ _ [A x]
    rw [hx]; exact .cons (AR.ptr 3 ⟨0, []⟩ 0 0 rfl) .nil) ⟨⟨fun g => rnO_dobj _ _ _, by simp⟩, trivial⟩ trivial (by
    simp only [rn, List.map_cons, List.map_nil]
    rw [emb_one (by decide)]; rfl)
end
/-! ### A graph, sometimes with a dead cycle -/
def zeroK (xs : List Pl) (i : Nat) : List Pl := xs.set i ⟨(plA xs i).f, (plA xs i).t, (plA xs i).d, 0⟩
def d12 (code : List Int) (q : RSt) : Nat → RSt
  | 0 => q
  | k + 1 => ((nxt code (d12 code q k).1 12).2, if (nxt code (d12 code q k).1 12).1 = 0 then zeroK (d12 code q k).2 k else (d12 code q k).2)
theorem plA_mem {xs : List Pl} {i : Nat} (h : i < xs.length) : plA xs i ∈ xs := by
  rw [plA_get (List.getElem?_eq_getElem h)]; exact List.getElem_mem _
theorem d12_ok {code : List Int} (hc : CodeOk code) {q : RSt} {m : Nat} (h : RStOk code m q) : ∀ k, RStOk code m (d12 code q k) ∧ (d12 code q k).2.length = q.2.length
  | 0 => ⟨h, rfl⟩
  | k + 1 => by
    obtain ⟨⟨h1, h2, h3⟩, h4⟩ := d12_ok hc h k
    obtain ⟨z1, z2, z3⟩ := nxt_ok hc h1 12
    refine ⟨⟨z3, fun p hp => ?_, ?_⟩, ?_⟩
    · simp only [d12] at hp
      split at hp
      · by_cases hk : k < (d12 code q k).2.length
        · rcases List.mem_or_eq_of_mem_set hp with hp | rfl
          · exact h2 p hp
          · have := h2 _ (plA_mem hk)
            exact ⟨this.f, this.t, this.d, by simp⟩
        · rw [zeroK, List.set_eq_of_length_le (by omega)] at hp; exact h2 p hp
      · exact h2 p hp
    · simp only [d12]; split
      · rw [zeroK, List.length_set]; exact h3
      · exact h3
    · simp only [d12]; split
      · rw [zeroK, List.length_set]; exact h4
      · exact h4
def dr12 (code : List Int) (s : Src) : DrG :=
  let g := dr11 code s
  ⟨g.ev, (d12 code (g.s, g.xs) (min g.xs.length 9)).2, (d12 code (g.s, g.xs) (min g.xs.length 9)).1⟩
theorem DrOk.st {code : List Int} {g : DrG} (h : DrOk code g) : RStOk code 40 (g.s, g.xs) := ⟨h.s, h.xs, h.len⟩
theorem dr12_ok {code : List Int} (hc : CodeOk code) {s : Src} (hs : SrcOk code s) : DrOk code (dr12 code s) := by
  have h := dr11_ok hc hs
  have h2 := (d12_ok hc h.st (min (dr11 code s).xs.length 9)).1
  exact ⟨h.ev, h2.xs, h2.len, h2.s⟩
set_option maxHeartbeats 2000000 in
theorem l12Draw_ac (code : List Int) (hc : CodeOk code) (s : Src) (hs : SrcOk code s) : AC Try.prog 89 [Bx 3 0] (srcH code s) (.agg [I (dr12 code s).ev, .own 4 ⟨1, []⟩ 0 (dr12 code s).xs.length]) (heapL [(⟨0, []⟩, ⟨0, []⟩, srcO code (dr12 code s).s), (⟨1, []⟩, ⟨1, []⟩, PO (dr12 code s).xs)]) := by
  have hG := l11Draw_ac code hc s hs
  have hok := dr11_ok hc hs
  unfold dr12
  generalize dr11 code s = g at *
  obtain ⟨ev, xs, s1⟩ := g
  have hst := hok.st
  obtain ⟨_, _, hl, _⟩ := hok
  simp only at *
  show AC _ _ _ (heapL [(⟨0, []⟩, ⟨0, []⟩, srcO code s)]) _ _
  refine AC.of_body 1 Try.func89 rfl (fun l h => by simp [heapL, upd] at h; simp [h]) (fun C hC => ?_)
  simp only [startFr, Try.ntmps89, List.length_cons, List.length_nil, Nat.reduceAdd, Nat.reduceSub, List.replicate_succ, List.replicate_zero, List.cons_append, List.nil_append]
  have hD : ∀ l, C.D0 l → l = ⟨0, []⟩ := fun l h => by have := (hC l).1 h; simp [heapL, upd] at this; exact this
  repeat' (first | ((first | apply Ba | (apply Bb; (· rfl); (· rfl)) | (apply Bc; (· exact nxE)) | (apply Bd; (· rfl); (· rfl); (· exact nxE))); (· first | exact Gx hG rfl rfl rfl rfl | exact Ok.pe)) | ((first | apply Ca | (apply Cb; (· exact nxE))); (· first | exact Gx hG rfl rfl rfl rfl | exact Ok.e0)) | refine Sx ?_ | (refine Sy (fun h => ?_) (fun h => ?_) <;> try (exfalso; omega; done)) | refine Sz (fun h => ?_) (fun h => ?_))
  refine AW.loop (X := {k : Nat // k ≤ min xs.length 9}) (fun k => ⟨[Bx 3 0, Oo, Bx 2 1, Bx 2 2, I (k.1 : Nat), Oo, Oo, Oo, Oo, Oo, Oo, Oo, Oo, Oo, Oo, Oo, Oo, Oo, Oo, Oo, Oo, Oo, Oo, Oo, Oo, Oo, Oo], heapL [(⟨0, []⟩, ⟨0, []⟩, srcO code (d12 code (s1, xs) k.1).1), (⟨1, []⟩, ⟨1, []⟩, ⟨2, [[I 0, nilS]]⟩), (⟨2, []⟩, ⟨2, []⟩, ⟨2, [[I ev, .own 4 ⟨3, []⟩ 0 xs.length]]⟩), (⟨3, []⟩, ⟨3, []⟩, PO (d12 code (s1, xs) k.1).2)], 900⟩) (fun k => min xs.length 9 - k.1) ⟨0, Nat.zero_le _⟩ ?_ (fun k => ?_)
  ·
    (apply Le.headZ [_, _, _, _] rfl)
    all_goals (try dsimp only [srcs])
    (case' hfr | hob => (repeat' (first | refine La ?_ ?_ | exact Lc | refine Lo ?_ | refine ⟨⟨_, rfl, ?_⟩, ?_⟩ | refine Lx ?_)))
    all_goals (first | (rfl) | exact Ld)
  obtain ⟨k, hk⟩ := k
  simp only
  have hI := d12_ok hc hst k
  by_cases hlt : k < min xs.length 9
  · have hstep : d12 code (s1, xs) (k + 1) = ((nxt code (d12 code (s1, xs) k).1 12).2, if (nxt code (d12 code (s1, xs) k).1 12).1 = 0 then zeroK (d12 code (s1, xs) k).2 k else (d12 code (s1, xs) k).2) := rfl
    generalize d12 code (s1, xs) k = q at *
    obtain ⟨s3, ys⟩ := q
    obtain ⟨⟨i1, i2, i3⟩, i4⟩ := hI
    simp only at *
    obtain ⟨z, s4, z1, z2, h4, q4, N4⟩ := next_ex hc i1 12
    rw [q4] at hstep
    simp only at hstep
    have hkk : k < ys.length := by omega
    have hr := ownPl_row hkk
    have hsP := ownPl_set (xs := ys) (i := k) (p := ⟨(plA ys k).f, (plA ys k).t, (plA ys k).d, 0⟩)
    have hzk : zeroK ys k = ys.set k ⟨(plA ys k).f, (plA ys k).t, (plA ys k).d, 0⟩ := rfl
    generalize plA ys k = p at *
    obtain ⟨pf, pt, pd, pk⟩ := p
    simp only at hr hsP hzk
    have hyl : (ys.map Pl.row).length = xs.length := by rw [List.length_map]; exact i4
    have hyl2 : (PO ys).rows.length = xs.length := by simp [dobj, i4]
    repeat' (first | ((first | apply Ba | (apply Bb; (· rfl); (· rfl)) | (apply Bc; (· exact nxE)) | (apply Bd; (· rfl); (· rfl); (· exact nxE))); (· first | exact Nx N4 rfl rfl rfl rfl rfl | exact Ok.storeC rfl rfl rfl rfl hr (by simp only [List.length_cons, List.length_nil, Nat.reduceAdd, Nat.reduceLT]) (by conv => lhs; whnf) (by rfl) (by rfl) hsP | exact Ok.pe)) | ((first | apply Ca | (apply Cb; (· exact nxE))); (· first | exact Nx N4 rfl rfl rfl rfl rfl | exact Ok.storeC rfl rfl rfl rfl hr (by simp only [List.length_cons, List.length_nil, Nat.reduceAdd, Nat.reduceLT]) (by conv => lhs; whnf) (by rfl) (by rfl) hsP | exact Ok.e0)) | refine Sx ?_ | (refine Sy (fun h => ?_) (fun h => ?_) <;> try (exfalso; omega; done)) | refine Sz (fun h => ?_) (fun h => ?_))
    all_goals
      refine ⟨⟨k + 1, by omega⟩, ?_, by simp only; omega⟩
      simp only [hstep]
      (apply Le.headZ [_, _, _, _] rfl)
      all_goals (try dsimp only [srcs])
      (case' hfr | hob => (repeat' (first | refine La ?_ ?_ | exact Lc | refine Lo ?_ | refine ⟨⟨_, rfl, ?_⟩, ?_⟩ | refine Lx ?_)))
      all_goals (first | (first | (rw [if_pos (by assumption), hzk]; rfl) | (rw [if_neg (by assumption)]; done) | (simp [*]; done)) | exact Ld)
  · obtain rfl : k = min xs.length 9 := by omega
    generalize d12 code (s1, xs) (min xs.length 9) = q at *
    obtain ⟨s3, ys⟩ := q
    obtain ⟨⟨i1, i2, i3⟩, i4⟩ := hI
    simp only at *
    repeat' (first | ((first | apply Ba | (apply Bb; (· rfl); (· rfl)) | (apply Bc; (· exact nxE)) | (apply Bd; (· rfl); (· rfl); (· exact nxE))); (· first | exact Ok.pe)) | ((first | apply Ca | (apply Cb; (· exact nxE))); (· first | exact Ok.e0)) | refine Sx ?_ | (refine Sy (fun h => ?_) (fun h => ?_) <;> try (exfalso; omega; done)) | refine Sz (fun h => ?_) (fun h => ?_))
    all_goals
      refine Ya ?_
      (apply Le.head [(⟨0, []⟩, ⟨0, []⟩, srcO code s3), (⟨1, []⟩, ⟨3, []⟩, PO ys)])
      (case' hfr | hob => (repeat' (first | refine La ?_ ?_ | exact Lc | refine Lo ?_ | refine ⟨⟨_, rfl, ?_⟩, ?_⟩ | refine Lx ?_)))
      all_goals (first | exact Ld | (first | exact i4 | (simp [*]; done)))
theorem l12DrawZ_ac (code : List Int) (hc : CodeOk code) (s : Src) (hs : SrcOk code s) : AC Try.prog 89 [Bx 3 0] (srcH code s) (grD (dr12 code s).ev (dr12 code s).xs) (srcH code (dr12 code s).s) :=
  (l12Draw_ac code hc s hs).frzS rfl (ARs.agg (.cons (.dd _) (.cons (AR.whole rfl (by simp) (List.length_map _)) .nil)))
end Go.Proofs.Ytpgcmpbamlnkkaa
end

section
namespace Go.Proofs.Ytpgcmpbamlnkkaa
set_option linter.unusedSimpArgs false
set_option linter.unusedVariables false
open Go Go.RowKit
attribute [local irreducible] AL AD AW OpOk Le AC thenQ blockQ EndQ

end Go.Proofs.Ytpgcmpbamlnkkaa
end

section
namespace Go.Proofs.Ytpgcmpbamlnkkaa
set_option linter.unusedSimpArgs false
set_option linter.unusedVariables false
open Go Go.RowKit
attribute [local irreducible] AL AD AW OpOk Le AC thenQ blockQ EndQ

set_option maxHeartbeats 1000000 in
theorem l02Own_ac (t : List (List Int)) (hn : t.length ≤ 10000000) (hr : ∀ r ∈ t, r.length ≤ 100000000) : AC Try.prog 227 [TL t] H0 (own1 1 t.length) (hpM 1 (TR t)) := by
  refine AC.of_body 0 Try.func227 rfl (fun l h => absurd rfl h) (fun C hC => ?_)
  have hD : ∀ l, ¬ C.D0 l := fun l h => (hC l).1 h rfl
  simp only [startFr, Try.ntmps227, List.length_cons, List.length_nil, Nat.reduceAdd, Nat.reduceSub, List.replicate_succ, List.replicate_zero, List.cons_append, List.nil_append]
  repeat' (first | ((first | apply Ba | (apply Bb; (· rfl); (· rfl)) | (apply Bc; (· exact nxE)) | (apply Bd; (· rfl); (· rfl); (· exact nxE))); (· first | exact Ok.pe)) | ((first | apply Ca | (apply Cb; (· exact nxE))); (· first | exact Ok.e0)) | refine Sx ?_ | (refine Sy (fun h => ?_) (fun h => ?_) <;> try (exfalso; omega; done)) | refine Sz (fun h => ?_) (fun h => ?_))
  refine AW.loop (X := {k : Nat // k ≤ t.length}) (fun k => ⟨[TL t, Oo, Oo, .own 1 ⟨1, []⟩ 0 (k.1 : Nat), I (k.1 : Nat), Oo, Oo, Oo, Oo, Oo, Oo, Oo, Oo, Oo, Oo, Oo, Oo, Oo, Oo, Oo, Oo], heapX [] [mi1 ⟨1, []⟩ (TR (t.take k.1))], 900⟩) (fun k => t.length - k.1) ⟨0, Nat.zero_le _⟩ ?_ (fun k => ?_)
  ·
    (apply Le.headG [] [{ l := ⟨1, []⟩, k := 1, R := [], src := ⟨1, []⟩, base := ⟨1, []⟩ }] (fun _ => False))
    (case' hlen => rfl)
    (case' hms => rfl)
    all_goals (try dsimp only [srcs])
    (case' hfr | hob => (repeat' (first | refine La ?_ ?_ | exact Lc | refine Lo ?_ | refine ⟨⟨_, rfl, ?_⟩, ?_⟩ | refine Lx ?_)))
    (case' hok => first | exact ⟨MI.ok_same rfl (fun i x hx => by simp at hx), trivial⟩ | exact trivial)
    (case' hN => rfl)
    (case' hS => rfl)
    all_goals (first | exact Ld | (rfl))
  obtain ⟨k, hk⟩ := k
  simp only
  by_cases hlt : k < t.length
  · obtain ⟨r, hr1⟩ : ∃ r, t[k]? = some r := ⟨t[k], by simp⟩
    have hrow := TR_get hr1
    have htk : (TR (t.take k)).length = k := by simp; omega
    repeat' (first | ((first | apply Ba | (apply Bb; (· rfl); (· rfl)) | (apply Bc; (· exact nxE)) | (apply Bd; (· rfl); (· rfl); (· exact nxE))); (· first | exact Eo rfl rfl (l01Own_ac r (hr r (List.mem_of_getElem? hr1))) (Sd Sn) | exact Ok.appendT rfl rfl (by decide) rfl rfl rfl (by rw [outer_len, htk]; rfl) rfl rfl (by rfl) (by omega) (by omega) rfl | exact Ok.pe)) | ((first | apply Ca | (apply Cb; (· exact nxE))); (· first | exact Eo rfl rfl (l01Own_ac r (hr r (List.mem_of_getElem? hr1))) (Sd Sn) | exact Ok.appendT rfl rfl (by decide) rfl rfl rfl (by rw [outer_len, htk]; rfl) rfl rfl (by rfl) (by omega) (by omega) rfl | exact Ok.e0)) | refine Sx ?_ | (refine Sy (fun h => ?_) (fun h => ?_) <;> try (exfalso; omega; done)) | refine Sz (fun h => ?_) (fun h => ?_))
    refine ⟨⟨k + 1, by omega⟩, ?_, by simp only; omega⟩
    (apply Le.headG [] [{ l := ⟨1, []⟩, k := 1, R := TR (t.take (k + 1)), src := ⟨911, []⟩, base := ⟨1, []⟩, cut := k, ext := some ⟨909, [0]⟩ }] (fun _ => False))
    (case' hlen => rfl)
    (case' hms => rfl)
    all_goals (try dsimp only [srcs])
    (case' hfr | hob => (repeat' (first | refine La ?_ ?_ | exact Lc | refine Lo ?_ | refine ⟨⟨_, rfl, ?_⟩, ?_⟩ | refine Lx ?_)))
    (case' hok => first | exact ⟨MI.ok_app (TR_take hr1) htk IR_len rfl (Cg) rfl, trivial⟩ | exact trivial)
    (case' hN => rfl)
    (case' hS => rfl)
    all_goals (first | exact Ld | ((simp [AllP]; omega)))
  ·
    have hkn : k = t.length := by omega
    subst hkn
    rw [List.take_length]
    repeat' (first | ((first | apply Ba | (apply Bb; (· rfl); (· rfl)) | (apply Bc; (· exact nxE)) | (apply Bd; (· rfl); (· rfl); (· exact nxE))); (· first | exact Ok.pe)) | ((first | apply Ca | (apply Cb; (· exact nxE))); (· first | exact Ok.e0)) | refine Sx ?_ | (refine Sy (fun h => ?_) (fun h => ?_) <;> try (exfalso; omega; done)) | refine Sz (fun h => ?_) (fun h => ?_))
    refine Ya ?_
    (apply Le.headG [] [{ l := ⟨0, []⟩, k := 1, R := TR t, src := ⟨1, []⟩, base := ⟨1, []⟩ }] (fun _ => False))
    (case' hlen => rfl)
    (case' hms => rfl)
    all_goals (try dsimp only [srcs])
    (case' hfr | hob => (repeat' (first | refine La ?_ ?_ | exact Lc | refine Lo ?_ | refine ⟨⟨_, rfl, ?_⟩, ?_⟩ | refine Lx ?_)))
    (case' hok => first | exact ⟨MI.ok_same rfl (Cg), trivial⟩ | exact trivial)
    (case' hN => rfl)
    (case' hS => rfl)
    all_goals (first | exact Ld | (rfl))
end Go.Proofs.Ytpgcmpbamlnkkaa
end

section
namespace Go.Proofs.Ytpgcmpbamlnkkaa
set_option linter.unusedSimpArgs false
set_option linter.unusedVariables false
open Go Go.RowKit
attribute [local irreducible] AL AD AW OpOk Le AC thenQ blockQ EndQ

section
variable {P : Program} {o : Oper} {A : Operand → AV} {H : Heap} {new : Nat}
end
/-! ### Repairs -/
theorem cN_get {ord : List Nat} {J e : Nat} (h : ord[J]? = some e) : (IR (cN ord))[((J : Nat) : Int).toNat]? = some [DI (e : Int)] := IR_get (by simp [h])
end Go.Proofs.Ytpgcmpbamlnkkaa
end

section
namespace Go.Proofs.Ytpgcmpbamlnkkaa
set_option linter.unusedSimpArgs false
set_option linter.unusedVariables false
open Go Go.RowKit
attribute [local irreducible] AL AD AW OpOk Le AC thenQ blockQ EndQ

/-- The first K of a row told anew. -/
def fillF (x : Int) (K : Nat) : Nat → Int := fun v => if v < K then x else 0
theorem fillF_0 {n : Nat} {x : Int} : dobj 1 (List.replicate n [DI 0]) = IO (rowF n (fillF x 0)) := by
  show dobj 1 _ = dobj 1 (IR (rowF n (fillF x 0)))
  congr 1
  apply List.ext_getElem?
  intro i
  by_cases hi : i < n
  · rw [IRF_get hi, List.getElem?_replicate, if_pos hi]; simp [fillF]
  · rw [List.getElem?_eq_none (by simp; omega), List.getElem?_eq_none (by rw [IR_len, rowF_len]; omega)]
theorem rowI_at {n j : Nat} {g : Nat → Int} (h : j < n) : (IR (rowF n g))[j]? = some [DI (g j)] := IRF_get h
end Go.Proofs.Ytpgcmpbamlnkkaa
end

section
namespace Go.Proofs.Ytpgcmpbamlnkkaa
set_option linter.unusedSimpArgs false
set_option linter.unusedVariables false
/-! ### Walks along arcs -/
/-- From node u to node v by the nodes of c between them: a walk of at least one arc. W v u: the weight of the arc from u to v. -/
def WM (W : Nat → Nat → Int) : Nat → List Nat → Nat → Prop
  | u, [], v => W v u ≠ BOT
  | u, m :: c, v => W m u ≠ BOT ∧ WM W m c v
def wM (W : Nat → Nat → Int) : Nat → List Nat → Nat → Int
  | u, [], v => W v u
  | u, m :: c, v => W m u + wM W m c v
theorem WM.app {W : Nat → Nat → Int} : ∀ {a b : List Nat} {u k v : Nat}, WM W u (a ++ k :: b) v ↔ WM W u a k ∧ WM W k b v
  | [], b, u, k, v => by simp [WM]
  | x :: a, b, u, k, v => by simp only [List.cons_append, WM, WM.app (a := a)]; exact and_assoc.symm
theorem wM_app {W : Nat → Nat → Int} : ∀ (a b : List Nat) (u k v : Nat), wM W u (a ++ k :: b) v = wM W u a k + wM W k b v
  | [], b, u, k, v => by simp [wM]
  | x :: a, b, u, k, v => by simp only [List.cons_append, wM, wM_app a b]; omega
/-- No closed walk weighs more than nothing. -/
def NoPos (W : Nat → Nat → Int) (n : Nat) : Prop := ∀ (u : Nat) (c : List Nat), u < n → (∀ x ∈ c, x < n) → WM W u c u → wM W u c u ≤ 0
/-- A walk without a node twice, and not less heavy. -/
theorem walk_short {W : Nat → Nat → Int} {n : Nat} (hn : NoPos W n) : ∀ (m : Nat) (c : List Nat) (u v : Nat), c.length ≤ m → u < n → (∀ x ∈ c, x < n) → WM W u c v → ∃ c', WM W u c' v ∧ c'.length + 1 ≤ n ∧ (∀ x ∈ c', x < n) ∧ wM W u c v ≤ wM W u c' v
  | m, c, u, v, hm, hu, hc, h => by
    by_cases hnd : ((u :: c).map id).Nodup
    · exact ⟨c, h, by simpa using nodup_le n (u :: c) (by simpa using hnd) (fun x hx => by
        rcases List.mem_cons.1 hx with rfl | hx
        · exact hu
        · exact hc x hx), hc, Int.le_refl _⟩
    · by_cases huc : u ∈ c
      · obtain ⟨a, e, rfl⟩ := List.append_of_mem huc
        rw [WM.app] at h
        cases m with
        | zero => simp at hm
        | succ m =>
          have hp := hn u a hu (fun x hx => hc x (by simp [hx])) h.1
          obtain ⟨c', g1, g2, g3, g4⟩ := walk_short hn m e u v (by simp at hm ⊢; omega) hu (fun x hx => hc x (by simp [hx])) h.2
          exact ⟨c', g1, g2, g3, by rw [wM_app]; omega⟩
      · have hnd2 : ¬ (c.map id).Nodup := fun h2 => hnd (by simp at h2 ⊢; exact ⟨huc, h2⟩)
        obtain ⟨a, i, b, j, e, rfl, hij⟩ := not_nodup_split hnd2
        simp only [id] at hij
        subst hij
        rw [WM.app] at h
        obtain ⟨h1, h2⟩ := h
        rw [WM.app] at h1
        obtain ⟨h3, h4⟩ := h1
        cases m with
        | zero => simp at hm
        | succ m =>
          have hp := hn i b (hc i (by simp)) (fun x hx => hc x (by simp [hx])) h4
          obtain ⟨c', g1, g2, g3, g4⟩ := walk_short hn m (a ++ i :: e) u v (by simp at hm ⊢; omega) hu (fun x hx => hc x (by
            simp only [List.mem_append, List.mem_cons] at hx ⊢
            rcases hx with hx | hx | hx
            · exact .inl (.inl hx)
            · exact .inr (.inl hx)
            · exact .inr (.inr hx))) (by rw [WM.app]; exact ⟨h3, h2⟩)
          refine ⟨c', g1, g2, g3, ?_⟩
          rw [wM_app] at g4
          rw [wM_app, wM_app]
          omega
theorem wM_le {W : Nat → Nat → Int} {M : Int} (hW : ∀ u v, W v u ≠ BOT → -M ≤ W v u ∧ W v u ≤ M) : ∀ {c : List Nat} {u v : Nat}, WM W u c v → -M * (c.length + 1) ≤ wM W u c v ∧ wM W u c v ≤ M * (c.length + 1)
  | [], u, v, h => by
    have := hW u v h
    simp only [wM, List.length_nil]
    constructor <;> simp <;> omega
  | m :: c, u, v, h => by
    have h1 := hW u m h.1
    have h2 := wM_le hW h.2
    simp only [wM, List.length_cons, Int.natCast_add, Int.mul_add] at h2 ⊢
    have e : -M * ((c.length : Int)) = -(M * c.length) := Int.neg_mul _ _
    rw [e] at h2 ⊢
    simp at h2 ⊢
    omega
/-- The star: what is told, node by node. -/
structure StarOk (W : Nat → Nat → Int) (n : Nat) (s : Nat → Nat → Int) : Prop where
  some : ∀ u v, u < n → v < n → s v u = BOT ∨ (u = v ∧ s v u = 0) ∨ ∃ c, WM W u c v ∧ (∀ x ∈ c, x < n) ∧ s v u = wM W u c v
  dia : ∀ u, u < n → s u u ≠ BOT ∧ 0 ≤ s u u
  all : ∀ u v c, u < n → v < n → (∀ x ∈ c, x < n) → WM W u c v → s v u ≠ BOT ∧ wM W u c v ≤ s v u
theorem StarOk.uniq {W : Nat → Nat → Int} {n : Nat} {s s' : Nat → Nat → Int} (h : StarOk W n s) (h' : StarOk W n s') {u v : Nat} (hu : u < n) (hv : v < n) : s v u = s' v u := by
  rcases h.some u v hu hv with e | ⟨e1, e2⟩ | ⟨c, c1, c2, c3⟩
  · rcases h'.some u v hu hv with e' | ⟨e1', e2'⟩ | ⟨c', c1', c2', c3'⟩
    · rw [e, e']
    · subst e1'; exact absurd e (h.dia u hu).1
    · exact absurd e (h.all u v c' hu hv c2' c1').1
  · subst e1
    have := h'.dia u hu
    rcases h'.some u u hu hu with e' | ⟨_, e2'⟩ | ⟨c', c1', c2', c3'⟩
    · exact absurd e' this.1
    · omega
    · have := h.all u u c' hu hu c2' c1'; omega
  · have h1 := h'.all u v c hu hv c2 c1
    rcases h'.some u v hu hv with e' | ⟨e1', e2'⟩ | ⟨c', c1', c2', c3'⟩
    · exact absurd e' h1.1
    · subst e1'; have := (h.dia u hu).2; omega
    · have := h.all u v c' hu hv c2' c1'; omega
/-! ### The star by tripling nodes (Floyd, Warshall), in place -/
def timesB (a b : Int) : Int := if a = BOT ∨ b = BOT then BOT else a + b
structure FW (W : Nat → Nat → Int) (n : Nat) (M : Int) (k : Nat) (s : Nat → Nat → Int) : Prop where
  some : ∀ u v, u < n → v < n → s v u = BOT ∨ (u = v ∧ s v u = 0) ∨ ∃ c, WM W u c v ∧ (∀ x ∈ c, x < n) ∧ s v u = wM W u c v
  dia : ∀ u, u < n → s u u ≠ BOT ∧ 0 ≤ s u u
  all : ∀ u v c, u < n → v < n → (∀ x ∈ c, x < k) → WM W u c v → s v u ≠ BOT ∧ wM W u c v ≤ s v u
  low : ∀ u v, u < n → v < n → s v u ≠ BOT → -(M * 2 ^ k) ≤ s v u
theorem star_hi {W : Nat → Nat → Int} {n : Nat} {M : Int} (hn : NoPos W n) (hM : 0 ≤ M) (hW : ∀ u v, W v u ≠ BOT → -M ≤ W v u ∧ W v u ≤ M) {s : Nat → Nat → Int} (h : ∀ u v, u < n → v < n → s v u = BOT ∨ (u = v ∧ s v u = 0) ∨ ∃ c, WM W u c v ∧ (∀ x ∈ c, x < n) ∧ s v u = wM W u c v) {u v : Nat} (hu : u < n) (hv : v < n) : s v u ≤ M * n := by
  have h0 : 0 ≤ M * n := Int.mul_nonneg hM (by omega)
  rcases h u v hu hv with e | ⟨_, e⟩ | ⟨c, h1, h2, e⟩
  · rw [e]; simp only [BOT]; omega
  · omega
  · obtain ⟨c', g1, g2, g3, g4⟩ := walk_short hn c.length c u v (Nat.le_refl _) hu h2 h1
    have h5 := (wM_le hW g1).2
    have h6 : M * ((c'.length : Int) + 1) ≤ M * n := Int.mul_le_mul_of_nonneg_left (by omega) hM
    omega
theorem star_dia0 {W : Nat → Nat → Int} {n : Nat} (hn : NoPos W n) {s : Nat → Nat → Int} (h : ∀ u v, u < n → v < n → s v u = BOT ∨ (u = v ∧ s v u = 0) ∨ ∃ c, WM W u c v ∧ (∀ x ∈ c, x < n) ∧ s v u = wM W u c v) (hd : ∀ u, u < n → s u u ≠ BOT ∧ 0 ≤ s u u) {k : Nat} (hk : k < n) : s k k = 0 := by
  have h1 := hd k hk
  rcases h k k hk hk with e | ⟨_, e⟩ | ⟨c, h2, h3, e⟩
  · exact absurd e h1.1
  · exact e
  · have := hn k c hk h3 h2; omega
def fwS (s : Nat → Nat → Int) (k : Nat) : Nat → Nat → Int := fun i j => max (s i j) (timesB (s i k) (s k j))
theorem timesB_ne {a b : Int} (ha : a ≠ BOT) (hb : b ≠ BOT) : timesB a b = a + b := by simp [timesB, ha, hb]
theorem zero_ne_bot : (0 : Int) ≠ BOT := by decide
theorem timesB_0 {a : Int} : timesB a 0 = a := by
  by_cases h : a = BOT
  · rw [timesB, if_pos (.inl h), h]
  · rw [timesB_ne h zero_ne_bot]; omega
theorem timesB_0' {a : Int} : timesB 0 a = a := by
  by_cases h : a = BOT
  · rw [timesB, if_pos (.inr h), h]
  · rw [timesB_ne zero_ne_bot h]; omega
theorem FW.step {W : Nat → Nat → Int} {n k : Nat} {M : Int} {s : Nat → Nat → Int} (hn : NoPos W n) (hM : 0 ≤ M) (hMb : M * 2 ^ (k + 1) < 1000000000000000) (hk : k < n) (h : FW W n M k s) : FW W n M (k + 1) (fwS s k) ∧ (∀ i, i < n → fwS s k i k = s i k) ∧ ∀ j, j < n → fwS s k k j = s k j := by
  have hkk := star_dia0 hn h.some h.dia hk
  have hpow : M * 2 ^ (k + 1) = M * 2 ^ k * 2 := by rw [Int.pow_succ, Int.mul_assoc]
  have hp0 : 0 ≤ M * 2 ^ k := Int.mul_nonneg hM (Int.pow_nonneg (by omega))
  have hge : ∀ v u, s v u ≤ fwS s k v u := fun v u => by simp only [fwS]; omega
  have hbot : ∀ v u, u < n → v < n → BOT ≤ s v u := fun v u hu hv => by
    by_cases e : s v u = BOT
    · omega
    · have := h.low u v hu hv e; simp only [BOT]; omega
  have hmono : ∀ v u, u < n → v < n → s v u ≠ BOT → fwS s k v u ≠ BOT := fun v u hu hv hne => by
    have h1 := hge v u
    have h2 := hbot v u hu hv
    omega
  refine ⟨⟨fun u v hu hv => ?_, fun u hu => ⟨hmono u u hu hu (h.dia u hu).1, by have := hge u u; have := (h.dia u hu).2; omega⟩, fun u v c hu hv hc hw => ?_, fun u v hu hv hne => ?_⟩, fun i hi => ?_, fun j hj => ?_⟩
  · by_cases hb : timesB (s v k) (s k u) ≤ s v u
    · have e : fwS s k v u = s v u := by simp only [fwS]; omega
      rw [e]; exact h.some u v hu hv
    · have e : fwS s k v u = timesB (s v k) (s k u) := by simp only [fwS]; omega
      rw [e]
      have h1 : s v k ≠ BOT := fun e1 => hb (by rw [timesB, if_pos (.inl e1)]; exact hbot v u hu hv)
      have h2 : s k u ≠ BOT := fun e1 => hb (by rw [timesB, if_pos (.inr e1)]; exact hbot v u hu hv)
      rw [timesB_ne h1 h2]
      right
      rcases h.some k v hk hv with e1 | ⟨e1, e2⟩ | ⟨c2, g1, g2, g3⟩
      · exact absurd e1 h1
      · rw [e2, Int.zero_add, ← e1]
        rcases h.some u k hu hk with e3 | e3 | e3
        · exact absurd e3 h2
        · exact .inl e3
        · exact .inr e3
      · rcases h.some u k hu hk with e3 | ⟨e3, e4⟩ | ⟨c1, g4, g5, g6⟩
        · exact absurd e3 h2
        · rw [e4, Int.add_zero, e3]
          exact .inr ⟨c2, g1, g2, g3⟩
        · refine .inr ⟨c1 ++ k :: c2, by rw [WM.app]; exact ⟨g4, g1⟩, fun x hx => ?_, by rw [wM_app, g3, g6]; omega⟩
          simp only [List.mem_append, List.mem_cons] at hx
          rcases hx with hx | hx | hx
          · exact g5 x hx
          · omega
          · exact g2 x hx
  · have key : ∀ (m : Nat) (c : List Nat), c.length ≤ m → (∀ x ∈ c, x < k + 1) → WM W u c v → fwS s k v u ≠ BOT ∧ wM W u c v ≤ fwS s k v u := by
      intro m
      induction m with
      | zero =>
        intro c hm hc hw
        obtain rfl : c = [] := List.length_eq_zero_iff.1 (by omega)
        have := h.all u v [] hu hv (by simp) hw
        exact ⟨hmono v u hu hv this.1, Int.le_trans this.2 (hge v u)⟩
      | succ m ih =>
        intro c hm hc hw
        by_cases hkc : k ∈ c
        · obtain ⟨a, e, he, hka⟩ := List.eq_append_cons_of_mem hkc
          subst he
          by_cases hke : k ∈ e
          · obtain ⟨b, e', rfl⟩ := List.append_of_mem hke
            rw [WM.app, WM.app] at hw
            have hp := hn k b hk (fun x hx => by have := hc x (by simp [hx]); omega) hw.2.1
            have := ih (a ++ k :: e') (by simp at hm ⊢; omega) (fun x hx => hc x (by
              simp only [List.mem_append, List.mem_cons] at hx ⊢
              rcases hx with hx | hx | hx
              · exact .inl hx
              · exact .inr (.inl hx)
              · exact .inr (.inr (.inr (.inr hx))))) (by rw [WM.app]; exact ⟨hw.1, hw.2.2⟩)
            refine ⟨this.1, ?_⟩
            rw [wM_app, wM_app]
            have h2 := this.2
            rw [wM_app] at h2
            omega
          · rw [WM.app] at hw
            have hlt : ∀ x, x < k + 1 → x ≠ k → x < k := fun x h1 h2 => by omega
            have h1 := h.all u k a hu hk (fun x hx => hlt x (hc x (by simp [hx])) (fun e2 => hka (e2 ▸ hx))) hw.1
            have h2 := h.all k v e hk hv (fun x hx => hlt x (hc x (by simp [hx])) (fun e2 => hke (e2 ▸ hx))) hw.2
            have h3 : timesB (s v k) (s k u) ≤ fwS s k v u := by simp only [fwS]; omega
            rw [timesB_ne h2.1 h1.1] at h3
            have h4 := h.low u k hu hk h1.1
            have h5 := h.low k v hk hv h2.1
            rw [wM_app]
            refine ⟨fun e2 => ?_, by omega⟩
            simp only [BOT] at e2
            omega
        · have := h.all u v c hu hv (fun x hx => by have := hc x hx; have : x ≠ k := fun e2 => hkc (e2 ▸ hx); omega) hw
          exact ⟨hmono v u hu hv this.1, Int.le_trans this.2 (hge v u)⟩
    exact key c.length c (Nat.le_refl _) hc hw
  · rw [hpow]
    by_cases hb : timesB (s v k) (s k u) ≤ s v u
    · have e : fwS s k v u = s v u := by simp only [fwS]; omega
      rw [e] at hne ⊢
      have := h.low u v hu hv hne
      omega
    · have e : fwS s k v u = timesB (s v k) (s k u) := by simp only [fwS]; omega
      rw [e] at hne ⊢
      have h1 : s v k ≠ BOT := fun e1 => hne (by rw [timesB, if_pos (.inl e1)])
      have h2 : s k u ≠ BOT := fun e1 => hne (by rw [timesB, if_pos (.inr e1)])
      rw [timesB_ne h1 h2]
      have h3 := h.low k v hk hv h1
      have h4 := h.low u k hu hk h2
      omega
  · simp only [fwS, hkk, timesB_0]; omega
  · simp only [fwS, hkk, timesB_0']; omega
theorem FW.start {W : Nat → Nat → Int} {n : Nat} {M : Int} (hM : 0 ≤ M) (hMb : M < 1000000000000000) (hW : ∀ u v, W v u ≠ BOT → -M ≤ W v u ∧ W v u ≤ M) : FW W n M 0 (fun i j => max (W i j) (if i = j then 0 else BOT)) := by
  have hWb : ∀ u v, BOT ≤ W v u := fun u v => by
    by_cases e : W v u = BOT
    · omega
    · have := (hW u v e).1; simp only [BOT]; omega
  refine ⟨fun u v hu hv => ?_, fun u hu => ?_, fun u v c hu hv hc hw => ?_, fun u v hu hv hne => ?_⟩
  · have h1 := hWb u v
    by_cases e : v = u
    · subst e
      simp only [if_true]
      by_cases h2 : W v v ≤ 0
      · right; left; exact ⟨by trivial, by omega⟩
      · right; right; exact ⟨[], by simp only [WM, BOT]; omega, by simp, by simp only [wM]; omega⟩
    · simp only [if_neg e]
      by_cases h2 : W v u = BOT
      · left; omega
      · right; right; exact ⟨[], h2, by simp, by simp only [wM]; omega⟩
  · simp only [if_true, BOT]; constructor <;> omega
  · obtain rfl : c = [] := by cases c with
      | nil => rfl
      | cons x c => exact absurd (hc x (by simp)) (by omega)
    have h1 : W v u ≠ BOT := hw
    have h2 := hWb u v
    simp only [wM]
    constructor
    · intro e; apply h1; split at e <;> omega
    · omega
  · by_cases h2 : W v u = BOT
    · rw [h2] at hne ⊢
      by_cases e : v = u
      · rw [if_pos e]; simp only [BOT, Int.pow_zero, Int.mul_one]; omega
      · rw [if_neg e] at hne; exact absurd (by omega) hne
    · have := (hW u v h2).1
      simp only [Int.pow_zero, Int.mul_one]
      omega
theorem FW.star {W : Nat → Nat → Int} {n : Nat} {M : Int} {s : Nat → Nat → Int} (h : FW W n M n s) : StarOk W n s := ⟨h.some, h.dia, h.all⟩
/-! ### The star by powers -/
def unitF (i j : Nat) : Int := if i = j then 0 else BOT
def maxN (f : Nat → Int) : Nat → Int
  | 0 => BOT
  | k + 1 => max (maxN f k) (f k)
theorem maxN_ge {f : Nat → Int} : ∀ {n k : Nat}, k < n → f k ≤ maxN f n
  | 0, k, h => by omega
  | n + 1, k, h => by
    simp only [maxN]
    by_cases e : k = n
    · subst e; omega
    · have := maxN_ge (f := f) (show k < n by omega); omega
theorem maxN_at {f : Nat → Int} : ∀ {n : Nat}, maxN f n = BOT ∨ ∃ k, k < n ∧ maxN f n = f k
  | 0 => .inl rfl
  | n + 1 => by
    simp only [maxN]
    rcases maxN_at (f := f) (n := n) with e | ⟨k, hk, e⟩
    · by_cases h : f n ≤ maxN f n
      · left; omega
      · right; exact ⟨n, by omega, by omega⟩
    · by_cases h : f n ≤ maxN f n
      · right; exact ⟨k, by omega, by omega⟩
      · right; exact ⟨n, by omega, by omega⟩
def powS (W : Nat → Nat → Int) (n : Nat) (s : Nat → Nat → Int) : Nat → Nat → Int := fun i j => max (unitF i j) (maxN (fun k => timesB (W i k) (s k j)) n)
def powN (W : Nat → Nat → Int) (n : Nat) : Nat → Nat → Nat → Int
  | 0 => unitF
  | m + 1 => powS W n (powN W n m)
structure PX (W : Nat → Nat → Int) (n : Nat) (M : Int) (m : Nat) (s : Nat → Nat → Int) : Prop where
  some : ∀ u v, u < n → v < n → s v u = BOT ∨ (u = v ∧ s v u = 0) ∨ ∃ c, WM W u c v ∧ (∀ x ∈ c, x < n) ∧ s v u = wM W u c v
  dia : ∀ u, u < n → s u u ≠ BOT ∧ 0 ≤ s u u
  all : ∀ u v c, u < n → v < n → c.length + 1 ≤ m → (∀ x ∈ c, x < n) → WM W u c v → s v u ≠ BOT ∧ wM W u c v ≤ s v u
  bnd : ∀ u v, u < n → v < n → s v u ≠ BOT → -(M * m) ≤ s v u ∧ s v u ≤ M * m
theorem PX.start {W : Nat → Nat → Int} {n : Nat} {M : Int} : PX W n M 0 unitF := by
  refine ⟨fun u v hu hv => ?_, fun u hu => ⟨by simp only [unitF, if_true]; exact zero_ne_bot, by simp [unitF]⟩, fun u v c hu hv hc => by omega, fun u v hu hv hne => ?_⟩
  · unfold unitF
    by_cases e : v = u
    · subst e; exact .inr (.inl ⟨rfl, by simp⟩)
    · exact .inl (by simp [e])
  · unfold unitF at hne ⊢
    split at hne <;> simp_all
/-- The last node of a walk ahead of its end. -/
theorem WM.lastArc {W : Nat → Nat → Int} : ∀ {c : List Nat} {u v : Nat}, WM W u c v → (c = [] ∧ W v u ≠ BOT) ∨ ∃ c' k, c = c' ++ [k] ∧ WM W u c' k ∧ W v k ≠ BOT ∧ wM W u c v = wM W u c' k + W v k
  | [], u, v, h => .inl ⟨rfl, h⟩
  | m :: c, u, v, h => by
    right
    rcases h.2.lastArc with ⟨e, h1⟩ | ⟨c', k, e, h1, h2, h3⟩
    · subst e; exact ⟨[], m, rfl, h.1, h1, by simp [wM]⟩
    · subst e
      refine ⟨m :: c', k, rfl, ⟨h.1, h1⟩, h2, ?_⟩
      simp only [List.cons_append, wM] at h3 ⊢
      omega
theorem PX.step {W : Nat → Nat → Int} {n m : Nat} {M : Int} {s : Nat → Nat → Int} (hM : 0 ≤ M) (hMb : M * (m + 1) < 1000000000000000) (hW : ∀ u v, W v u ≠ BOT → -M ≤ W v u ∧ W v u ≤ M) (h : PX W n M m s) : PX W n M (m + 1) (powS W n s) := by
  have e1 : M * ((m : Int) + 1) = M * m + M := by rw [Int.mul_add, Int.mul_one]
  have hm0 : 0 ≤ M * (m : Int) := Int.mul_nonneg hM (by omega)
  have hub : ∀ i j, BOT ≤ unitF i j := fun i j => by unfold unitF; split <;> simp only [BOT] <;> omega
  refine ⟨fun u v hu hv => ?_, fun u hu => ?_, fun u v c hu hv hl hc hw => ?_, fun u v hu hv hne => ?_⟩
  · unfold powS
    by_cases hb : maxN (fun k => timesB (W v k) (s k u)) n ≤ unitF v u
    · have e : max (unitF v u) (maxN (fun k => timesB (W v k) (s k u)) n) = unitF v u := by omega
      rw [e]
      unfold unitF
      by_cases e2 : v = u
      · subst e2; exact .inr (.inl ⟨rfl, by simp⟩)
      · exact .inl (by simp [e2])
    · have e : max (unitF v u) (maxN (fun k => timesB (W v k) (s k u)) n) = maxN (fun k => timesB (W v k) (s k u)) n := by omega
      rw [e]
      rcases maxN_at (f := fun k => timesB (W v k) (s k u)) (n := n) with e2 | ⟨k, hk, e2⟩
      · exact .inl e2
      · rw [e2]
        by_cases h1 : W v k = BOT
        · left; simp [timesB, h1]
        · by_cases h2 : s k u = BOT
          · left; simp [timesB, h2]
          · simp only [timesB_ne h1 h2]
            right; right
            rcases h.some u k hu hk with e3 | ⟨e3, e4⟩ | ⟨c, g1, g2, g3⟩
            · exact absurd e3 h2
            · subst e3; exact ⟨[], h1, by simp, by simp [wM, e4]⟩
            · refine ⟨c ++ [k], by rw [WM.app]; exact ⟨g1, h1⟩, fun x hx => ?_, by rw [wM_app, g3]; simp [wM]; omega⟩
              simp only [List.mem_append, List.mem_singleton] at hx
              rcases hx with hx | hx
              · exact g2 x hx
              · omega
  · unfold powS unitF; simp only [if_true, BOT]; constructor <;> omega
  · rcases hw.lastArc with ⟨e, h1⟩ | ⟨c', k, e, h1, h2, h3⟩
    · subst e
      have h4 := maxN_ge (f := fun k => timesB (W v k) (s k u)) hu
      have h5 := h.dia u hu
      simp only [timesB_ne h1 h5.1] at h4
      have h6 := hW u v h1
      unfold powS
      simp only [wM]
      refine ⟨fun e => ?_, by omega⟩
      simp only [BOT] at e; omega
    · subst e
      have hk : k < n := hc k (by simp)
      have h5 := h.all u k c' hu hk (by simp at hl; omega) (fun x hx => hc x (by simp [hx])) h1
      have h4 := maxN_ge (f := fun k => timesB (W v k) (s k u)) hk
      simp only [timesB_ne h2 h5.1] at h4
      have h6 := hW k v h2
      have h7 := h.bnd u k hu hk h5.1
      unfold powS
      rw [h3]
      refine ⟨fun e => ?_, by omega⟩
      simp only [BOT] at e; omega
  · unfold powS at hne ⊢
    simp only [Int.natCast_add, Int.natCast_one, e1]
    by_cases hb : maxN (fun k => timesB (W v k) (s k u)) n ≤ unitF v u
    · have e : max (unitF v u) (maxN (fun k => timesB (W v k) (s k u)) n) = unitF v u := by omega
      rw [e] at hne ⊢
      unfold unitF at hne ⊢
      split at hne
      · rename_i e2; rw [if_pos e2]; omega
      · exact absurd rfl hne
    · have e : max (unitF v u) (maxN (fun k => timesB (W v k) (s k u)) n) = maxN (fun k => timesB (W v k) (s k u)) n := by omega
      rw [e] at hne ⊢
      rcases maxN_at (f := fun k => timesB (W v k) (s k u)) (n := n) with e2 | ⟨k, hk, e2⟩
      · exact absurd e2 hne
      · rw [e2] at hne ⊢
        by_cases h1 : W v k = BOT
        · exact absurd (by simp [timesB, h1]) hne
        · by_cases h2 : s k u = BOT
          · exact absurd (by simp [timesB, h2]) hne
          · simp only [timesB_ne h1 h2]
            have h6 := hW k v h1
            have h7 := h.bnd u k hu hk h2
            omega
theorem PX.star {W : Nat → Nat → Int} {n m : Nat} {M : Int} {s : Nat → Nat → Int} (hn : NoPos W n) (hm : n ≤ m) (h : PX W n M m s) : StarOk W n s := by
  refine ⟨h.some, h.dia, fun u v c hu hv hc hw => ?_⟩
  obtain ⟨c', g1, g2, g3, g4⟩ := walk_short hn c.length c u v (Nat.le_refl _) hu hc hw
  have := h.all u v c' hu hv (by omega) g3 g1
  exact ⟨this.1, by omega⟩
theorem powN_px {W : Nat → Nat → Int} {n : Nat} {M : Int} (hM : 0 ≤ M) (hW : ∀ u v, W v u ≠ BOT → -M ≤ W v u ∧ W v u ≤ M) : ∀ m : Nat, M * (m + 1) < 1000000000000000 → PX W n M m (powN W n m)
  | 0, _ => PX.start
  | m + 1, h => by
    have e1 : M * (((m + 1 : Nat) : Int) + 1) = M * ((m : Int) + 1) + M := by rw [Int.natCast_add, Int.mul_add]; simp
    exact PX.step hM (by omega) hW (powN_px hM hW m (by omega))
noncomputable def starF (W : Nat → Nat → Int) (n : Nat) : Nat → Nat → Int := open Classical in if h : ∃ s, StarOk W n s then Classical.choose h else fun _ _ => 0
theorem starF_eq {W : Nat → Nat → Int} {n : Nat} {s : Nat → Nat → Int} (h : StarOk W n s) {u v : Nat} (hu : u < n) (hv : v < n) : starF W n v u = s v u := by
  have he : ∃ s, StarOk W n s := ⟨s, h⟩
  unfold starF
  rw [dif_pos he]
  exact (Classical.choose_spec he).uniq h hu hv
end Go.Proofs.Ytpgcmpbamlnkkaa
end
