/-
  Walks in the abstract reading, part 2.
-/
import Derived.Test.YtofakjlamoigcaaGreatDoorKsU1
import Derived.Test.YtofakjlamoigcaaGreatDoorKsA2
import Derived.Test.YtofakjlamoigcaaGreatDoorKsA3
import Derived.ChangeMaps5
section
namespace Go.Proofs.YtofakjlamoigcaaGreatDoor
set_option linter.unusedSimpArgs false
set_option linter.unusedVariables false
open Go Go.RowKit
attribute [local irreducible] AL AD AW OpOk Le AC thenQ blockQ EndQ

theorem u8w [Mode] {a : Int} (h0 : 0 ≤ a) (h1 : a < 256) : IntKind.u8.wrap a = ((UInt8.ofNat a.toNat).toNat : Int) := by
  rw [UInt8.toNat_ofNat']
  unfold IntKind.wrap
  simp [IntKind.signed, IntKind.bits]
  omega
section
variable {P : Program} {o : Oper} {A : Operand → AV} {H : Heap} {new : Nat} {t t' : TypeId} {x : Operand}
theorem Ok.toByt [Mode] {a : Int} {k : IntKind} (ho : o.op = .convert t t' x) (hx : A x = .d (.v (.int k a))) (hu : P.underlying t' = some (.int .u8)) (hs : (P.underlying t).isSome = true) (h0 : 0 ≤ a) (h1 : a < 256) : OpOk P o A [] H new (Byt (UInt8.ofNat a.toNat)) [] :=
  Ok.convII ho hx hu hs (u8w h0 h1)
theorem Ok.strOf1 [Mode] {src e : TypeId} {l : Loc} {c : UInt8} (ho : o.op = .convert src t x) (hx : A x = .own 1 l 0 1) (hl : H l = some ⟨1, [[Byt c]]⟩) {b : Nat} {z : Value} [hs : TySlice P src e 1 b z] [hd : TyString P t] (he : P.underlying e = some (.int .u8)) : OpOk P o A [l] H new (Str [c]) [] :=
  Ok.strOf (a := [c]) ho hx hl rfl he
end
theorem tdiv_nat [Mode] (n : Nat) : (n : Int).tdiv 10 = ((n / 10 : Nat) : Int) := by
  rw [Int.tdiv_eq_ediv_of_nonneg (by omega)]; omega
theorem tmod_nat [Mode] (n : Nat) : (n : Int).tmod 10 = ((n % 10 : Nat) : Int) := by
  rw [Int.tmod_eq_emod_of_nonneg (by omega)]; omega
theorem dec_len [Mode] (n : Nat) (h : n ≤ 9223372036854775807) : (dec n).length ≤ 19 := dec_len_le 18 n (by omega)
set_option maxHeartbeats 1000000 in
theorem l01Dec_ac [Mode] (n : Nat) (hn : n ≤ 9223372036854775807) : AC Tryz.prog 64 [I n] H0 (Str (dec n)) H0 := by
  induction n using Nat.strongRecOn with
  | ind n ih =>
  by_cases hs : n < 10
  ·
    refine AC.of_body 0 Tryz.func64 rfl (fun l h => absurd rfl h) (fun C hC => ?_)
    have hD : ∀ l, ¬ C.D0 l := fun l h => (hC l).1 h rfl
    simp only [startFr, Tryz.ntmps64, List.length_cons, List.length_nil, Nat.reduceAdd, Nat.reduceSub, List.replicate_succ, List.replicate_zero, List.cons_append, List.nil_append]
    repeat' (first | ((first | apply Ba | (apply Bb; (· rfl); (· rfl)) | (apply Bc; (· exact nxE)) | (apply Bd; (· rfl); (· rfl); (· exact nxE))); (· first | exact Ok.strOf1 rfl rfl rfl Tryz.underlying5 | exact Ok.toByt rfl rfl Tryz.underlying5 (by rw [Tryz.underlying2]; rfl) (by omega) (by omega) | exact Ok.seqS rfl rfl rfl | exact Ok.sneS rfl rfl rfl | exact Ok.slen rfl rfl | exact Ok.sjoin rfl rfl rfl (by simp only [List.length_append, List.length_cons, List.length_nil]; omega) | exact Ok.pe)) | ((first | apply Ca | (apply Cb; (· exact nxE))); (· first | exact Ok.e0)) | refine Sx ?_ | (refine Sy (fun h => ?_) (fun h => ?_) <;> try (exfalso; omega; done)) | refine Sz (fun h => ?_) (fun h => ?_))
    refine Ya ?_
    (apply Le.headZ (hs := []) [] rfl)
    all_goals (try dsimp only [srcs])
    (case' hfr => (repeat' (first | refine La ?_ ?_ | exact Lc | refine Lo ?_ | refine ⟨⟨_, rfl, ?_⟩, ?_⟩ | refine Lx ?_)))
    all_goals (first | exact Ld | exact trivial | ((rw [dec_small hs]; rfl)))
  · have h2 : (dec (n / 10)).length ≤ 19 := dec_len _ (by omega)
    have h3 := ih (n / 10) (by omega) (by omega)
    rw [← tdiv_nat] at h3
    have h5 := tmod_nat n
    have h6 : n % 10 < 10 := Nat.mod_lt _ (by decide)
    refine AC.of_body 0 Tryz.func64 rfl (fun l h => absurd rfl h) (fun C hC => ?_)
    have hD : ∀ l, ¬ C.D0 l := fun l h => (hC l).1 h rfl
    simp only [startFr, Tryz.ntmps64, List.length_cons, List.length_nil, Nat.reduceAdd, Nat.reduceSub, List.replicate_succ, List.replicate_zero, List.cons_append, List.nil_append]
    repeat' (first | ((first | apply Ba | (apply Bb; (· rfl); (· rfl)) | (apply Bc; (· exact nxE)) | (apply Bd; (· rfl); (· rfl); (· exact nxE))); (· first | exact Kz rfl rfl (h3) (Ad An) | exact Ok.quo rfl rfl rfl (by decide) (by omega) (by omega) | exact Ok.rem rfl rfl rfl (by decide) | exact Ok.strOf1 rfl rfl rfl Tryz.underlying5 | exact Ok.toByt rfl rfl Tryz.underlying5 (by rw [Tryz.underlying2]; rfl) (by omega) (by omega) | exact Ok.seqS rfl rfl rfl | exact Ok.sneS rfl rfl rfl | exact Ok.slen rfl rfl | exact Ok.sjoin rfl rfl rfl (by simp only [List.length_append, List.length_cons, List.length_nil]; omega) | exact Ok.pe)) | ((first | apply Ca | (apply Cb; (· exact nxE))); (· first | exact Ok.e0)) | refine Sx ?_ | (refine Sy (fun h => ?_) (fun h => ?_) <;> try (exfalso; omega; done)) | refine Sz (fun h => ?_) (fun h => ?_))
    refine Ya ?_
    (apply Le.headZ (hs := []) [] rfl)
    all_goals (try dsimp only [srcs])
    (case' hfr => (repeat' (first | refine La ?_ ?_ | exact Lc | refine Lo ?_ | refine ⟨⟨_, rfl, ?_⟩, ?_⟩ | refine Lx ?_)))
    all_goals (first | exact Ld | exact trivial | ((rw [dec_big hs, h5]; rfl)))
end Go.Proofs.YtofakjlamoigcaaGreatDoor
end

section
namespace Go.Proofs.YtofakjlamoigcaaGreatDoor
set_option linter.unusedSimpArgs false
set_option linter.unusedVariables false
open Go Go.RowKit
attribute [local irreducible] AL AD AW OpOk Le AC thenQ blockQ EndQ

theorem l01DecI_ac [Mode] (n : Int) (h0 : 0 ≤ n) (h1 : n ≤ 9223372036854775807) : AC Tryz.prog 64 [I n] H0 (Str (dec n.toNat)) H0 := by
  have := l01Dec_ac n.toNat (by omega)
  rwa [Int.toNat_of_nonneg h0] at this
theorem decimal_ac [Mode] [HasTab] (n : Int) (h0 : -9223372036854775808 ≤ n) (h1 : n ≤ 9223372036854775807) : AC Tryz.prog 85 [I n] H0 (Str (Lib.itoa n)) H0 := by
  refine AC.of_body 0 Tryz.func85 rfl (fun l h => absurd rfl h) (fun C hC => ?_)
  have hD : ∀ l, ¬ C.D0 l := fun l h => (hC l).1 h rfl
  simp only [startFr, Tryz.ntmps85, List.length_cons, List.length_nil, Nat.reduceAdd, Nat.reduceSub, List.replicate_succ, List.replicate_zero, List.cons_append, List.nil_append]
  repeat' (first | ((first | apply Ba | (apply Bb; (· rfl); (· rfl)) | (apply Bc; (· exact nxE)) | (apply Bd; (· rfl); (· rfl); (· exact nxE))); (· first | exact Kz rfl rfl (formatInt_ac n h0 h1) (Ad (Ad An)) | exact Ok.seqS rfl rfl rfl | exact Ok.sneS rfl rfl rfl | exact Ok.slen rfl rfl | exact Ok.sjoin rfl rfl rfl (by simp only [List.length_append, List.length_cons, List.length_nil]; omega) | exact Ok.pe)) | ((first | apply Ca | (apply Cb; (· exact nxE))); (· first | exact Ok.e0)) | refine Sx ?_ | (refine Sy (fun h => ?_) (fun h => ?_) <;> try (exfalso; omega; done)) | refine Sz (fun h => ?_) (fun h => ?_))
  refine Ya ?_
  (apply Le.headZ (hs := []) [] rfl)
  all_goals (try dsimp only [srcs])
  (case' hfr => (repeat' (first | refine La ?_ ?_ | exact Lc | refine Lo ?_ | refine ⟨⟨_, rfl, ?_⟩, ?_⟩ | refine Lx ?_)))
  all_goals (first | exact Ld | exact trivial | (rfl))
theorem itoa_pos [Mode] {n : Int} (h : 0 ≤ n) : Lib.itoa n = dec n.toNat := by rw [Lib.itoa, if_neg (by omega)]
theorem decimalP_ac [Mode] [HasTab] (n : Int) (h0 : 0 ≤ n) (h1 : n ≤ 9223372036854775807) : AC Tryz.prog 85 [I n] H0 (Str (dec n.toNat)) H0 := by
  have := decimal_ac n (by omega) h1
  rwa [itoa_pos h0] at this
end Go.Proofs.YtofakjlamoigcaaGreatDoor
end

section
namespace Go.Proofs.YtofakjlamoigcaaGreatDoor
open Go Go.RowKit
set_option linter.unusedSimpArgs false
set_option linter.unusedVariables false
attribute [local irreducible] AL AD AW OpOk Le AC thenQ blockQ EndQ

abbrev own1 (k n : Nat) : AV := .own k ⟨0, []⟩ 0 n
abbrev hp1 (o : AObj) : Heap := upd H0 ⟨0, []⟩ (some o)
end Go.Proofs.YtofakjlamoigcaaGreatDoor
end

section
namespace Go.Proofs.YtofakjlamoigcaaGreatDoor
set_option linter.unusedSimpArgs false
set_option linter.unusedVariables false

abbrev BOT : Int := -1000000000000000
def hdN (p : List Nat) : Nat := p.headD 0
def lsN (p : List Nat) : Nat := p.getLastD 0
/-- Each node has an arc to the next one. -/
def pathP (a : Nat → Nat → Int) (c : List Nat) : Prop := ∀ i, i + 1 < c.length → a (c.getD (i + 1) 0) (c.getD i 0) ≠ BOT
structure Cyc (a : Nat → Nat → Int) (n : Nat) (c : List Nat) : Prop where
  ne : c ≠ []
  lt : ∀ v ∈ c, v < n
  path : pathP a c
  close : a (hdN c) (lsN c) ≠ BOT
theorem hdN_app {p q : List Nat} (h : p ≠ []) : hdN (p ++ q) = hdN p := by cases p with | nil => exact absurd rfl h | cons => rfl
end Go.Proofs.YtofakjlamoigcaaGreatDoor
end

section
namespace Go.Proofs.YtofakjlamoigcaaGreatDoor
set_option linter.unusedSimpArgs false
set_option linter.unusedVariables false

theorem nodup_le : ∀ (n : Nat) (l : List Nat), l.Nodup → (∀ x ∈ l, x < n) → l.length ≤ n
  | 0, l, _, h => by
    cases l with
    | nil => simp
    | cons x r => have := h x (by simp); omega
  | n + 1, l, hn, h => by
    by_cases hm : n ∈ l
    · have h1 := nodup_le n (l.erase n) (hn.erase n) (fun x hx => by
        have h2 := (hn.mem_erase_iff).1 hx
        have := h x h2.2
        omega)
      have := List.length_erase_of_mem hm
      omega
    · have := nodup_le n l hn (fun x hx => by
        have h1 := h x hx
        have : x ≠ n := fun e => hm (e ▸ hx)
        omega)
      omega
def iter (f : Nat → Nat) : Nat → Nat → Nat
  | 0, x => x
  | k + 1, x => f (iter f k x)
theorem iter_add (f : Nat → Nat) : ∀ (i j x : Nat), iter f (i + j) x = iter f i (iter f j x)
  | 0, j, x => by simp [iter]
  | i + 1, j, x => by rw [show i + 1 + j = (i + j) + 1 by omega]; simp only [iter]; rw [iter_add f i j x]
theorem exists_min (p : Nat → Prop) : ∀ (m : Nat), p m → ∃ k, p k ∧ ∀ j, p j → k ≤ j := by
  intro m
  induction m using Nat.strongRecOn with
  | _ m ih =>
    intro hm
    by_cases h : ∃ j, j < m ∧ p j
    · obtain ⟨j, hj, hp⟩ := h; exact ih j hj hp
    · exact ⟨m, hm, fun j hp => by
        apply Classical.byContradiction
        intro hlt
        exact h ⟨j, by omega, hp⟩⟩
/-! ### Firing orders -/
/-- The least node that is not yet there and waits for none that is not there. -/
def nextE (w : Nat → Nat → Bool) (n : Nat) (ord : List Nat) : Option Nat := (List.range n).find? fun e => !ord.contains e && (List.range n).all fun u => !w e u || ord.contains u
structure OrdOk (w : Nat → Nat → Bool) (n : Nat) (ord : List Nat) : Prop where
  nd : ord.Nodup
  lt : ∀ x ∈ ord, x < n
  wait : ∀ i, i < ord.length → ∀ u, u < n → w (ord.getD i 0) u = true → u ∈ ord.take i
theorem OrdOk.nil {w : Nat → Nat → Bool} {n : Nat} : OrdOk w n [] := ⟨List.nodup_nil, fun x h => (by cases h), fun i h => (by simp at h)⟩
theorem nextE_some {w : Nat → Nat → Bool} {n : Nat} {ord : List Nat} {e : Nat} (h : nextE w n ord = some e) : e < n ∧ e ∉ ord ∧ ∀ u, u < n → w e u = true → u ∈ ord := by
  have h1 := List.mem_of_find?_eq_some h
  have h2 := List.find?_some h
  simp at h1 h2
  refine ⟨h1, h2.1, fun u hu hw => ?_⟩
  rcases h2.2 u hu with h3 | h3
  · rw [h3] at hw; cases hw
  · exact h3
theorem OrdOk.snoc {w : Nat → Nat → Bool} {n : Nat} {ord : List Nat} {e : Nat} (h : OrdOk w n ord) (hx : nextE w n ord = some e) : OrdOk w n (ord ++ [e]) := by
  obtain ⟨h1, h2, h3⟩ := nextE_some hx
  refine ⟨?_, fun x hx => ?_, fun i hi u hu hw => ?_⟩
  · rw [List.nodup_append]
    exact ⟨h.nd, by simp, fun a ha b hb => by simp at hb; subst hb; intro e2; subst e2; exact h2 ha⟩
  · rcases List.mem_append.1 hx with hx | hx
    · exact h.lt x hx
    · simp at hx; omega
  · by_cases hil : i < ord.length
    · have := h.wait i hil u hu (by simpa [List.getD_eq_getElem?_getD, List.getElem?_append_left hil] using hw)
      rwa [List.take_append_of_le_length (by omega)]
    · simp at hi
      have hie : i = ord.length := by omega
      subst hie
      have hw' : w e u = true := by simpa [List.getD_eq_getElem?_getD] using hw
      rw [List.take_append_of_le_length (Nat.le_refl _), List.take_length]
      exact h3 u hu hw'
end Go.Proofs.YtofakjlamoigcaaGreatDoor
end

section
namespace Go.Proofs.YtofakjlamoigcaaGreatDoor
set_option linter.unusedSimpArgs false
set_option linter.unusedVariables false
open Go Go.RowKit
attribute [local irreducible] AL AD AW OpOk Le AC thenQ blockQ EndQ

abbrev IR (xs : List Int) : List (List D) := xs.map fun n => [DI n]
theorem IR_len [Mode] {xs : List Int} : (IR xs).length = xs.length := by simp [IR]
theorem IR_get [Mode] {xs : List Int} {k : Nat} {x : Int} (h : xs[k]? = some x) : (IR xs)[((k : Nat) : Int).toNat]? = some [DI x] := by simp [IR, h]
theorem IR_app [Mode] {xs ys : List Int} : IR (xs ++ ys) = IR xs ++ IR ys := by simp [IR]
abbrev IL (xs : List Int) : AV := .d (.sl 1 (IR xs))
abbrev IO (xs : List Int) : AObj := dobj 1 (IR xs)
abbrev TR (t : List (List Int)) : List (List (List D)) := t.map IR
abbrev TD (t : List (List Int)) : D := .sl 1 (mRows 1 (TR t))
abbrev TL (t : List (List Int)) : AV := .d (TD t)
theorem TR_len [Mode] {t : List (List Int)} : (TR t).length = t.length := by simp [TR]
theorem TR_get [Mode] {t : List (List Int)} {k : Nat} {r : List Int} (h : t[k]? = some r) : (mRows 1 (TR t))[((k : Nat) : Int).toNat]? = some [.sl 1 (IR r)] := by simp [TR, mRows, h]
end Go.Proofs.YtofakjlamoigcaaGreatDoor
end

section
namespace Go.Proofs.YtofakjlamoigcaaGreatDoor
set_option linter.unusedSimpArgs false
set_option linter.unusedVariables false
open Go Go.RowKit
attribute [local irreducible] AL AD AW OpOk Le AC thenQ blockQ EndQ

/-- A firing. -/
structure Fi where
  e : Int
  n : Int
  t : Int
  deriving DecidableEq
def Fi.row (f : Fi) : List D := [DI f.e, DI f.n, DI f.t]
abbrev Fi.av (f : Fi) : AV := .agg [I f.e, I f.n, I f.t]
abbrev fiZ : Fi := ⟨0, 0, 0⟩
abbrev FL (fs : List Fi) : AV := .d (.sl 3 (fs.map Fi.row))
abbrev FO (fs : List Fi) : AObj := dobj 3 (fs.map Fi.row)
theorem FL_len [Mode] {fs : List Fi} : (fs.map Fi.row).length = fs.length := by simp
/-- A firing that can be written. -/
def wrF (f : Fi) : Bool := wi f.e 0 9 && wi f.t 0 1000000
theorem wrF_iff [Mode] {f : Fi} : wrF f = true ↔ (0 ≤ f.e ∧ f.e ≤ 9) ∧ (0 ≤ f.t ∧ f.t ≤ 1000000) := by simp [wrF, wi]
def wrA (fs : List Fi) : Bool := fs.all wrF && decide (fs.length ≤ 500)
theorem l28Writable_ac [Mode] (f : Fi) : AC Tryz.prog 55 [f.av] H0 (Bo (wrF f)) H0 := by
  obtain ⟨e, n, t⟩ := f
  refine AC.of_body 0 Tryz.func55 rfl (fun l h => absurd rfl h) (fun C hC => ?_)
  have hD : ∀ l, ¬ C.D0 l := fun l h => (hC l).1 h rfl
  simp only [startFr, Tryz.ntmps55, List.length_cons, List.length_nil, Nat.reduceAdd, Nat.reduceSub, List.replicate_succ, List.replicate_zero, List.cons_append, List.nil_append]
  repeat' (first | ((first | apply Ba | (apply Bb; (· rfl); (· rfl)) | (apply Bc; (· exact nxE)) | (apply Bd; (· rfl); (· rfl); (· exact nxE))); (· first | exact Kz rfl rfl (l01In_ac _ _ _) (Ad (Ad (Ad An))) | exact Ok.seqS rfl rfl rfl | exact Ok.sneS rfl rfl rfl | exact Ok.slen rfl rfl | exact Ok.sjoin rfl rfl rfl (by simp only [List.length_append, List.length_cons, List.length_nil]; omega) | exact Ok.pe)) | ((first | apply Ca | (apply Cb; (· exact nxE))); (· first | exact Ok.e0)) | refine Sx ?_ | (refine Sy (fun h => ?_) (fun h => ?_) <;> try (exfalso; omega; done)) | refine Sz (fun h => ?_) (fun h => ?_))
  all_goals
    refine Ya ?_
    (apply Le.headZ (hs := []) [] rfl)
    all_goals (try dsimp only [srcs])
    (case' hfr => (repeat' (first | refine La ?_ ?_ | exact Lc | refine Lo ?_ | refine ⟨⟨_, rfl, ?_⟩, ?_⟩ | refine Lx ?_)))
    all_goals (first | exact Ld | exact trivial | ((simp [wrF, *]; done)))
theorem fi_all_no [Mode] {fs : List Fi} {p : Fi → Bool} {k : Nat} {f : Fi} (h : fs[k]? = some f) (hf : p f = false) : fs.all p = false := by
  rw [Bool.eq_false_iff]
  intro ha
  have := List.all_eq_true.1 ha f (List.mem_of_getElem? h)
  rw [hf] at this; cases this
theorem fi_all_step [Mode] {fs : List Fi} {p : Fi → Bool} {k : Nat} {f : Fi} (h : fs[k]? = some f) (hf : p f = true) (ha : fs.all p = (fs.drop k).all p) : fs.all p = (fs.drop (k + 1)).all p := by
  obtain ⟨h1, rfl⟩ := List.getElem?_eq_some_iff.1 h
  rw [ha, List.drop_eq_getElem_cons h1, List.all_cons, hf, Bool.true_and]
theorem l28All_ac [Mode] (fs : List Fi) (hn : fs.length ≤ 100000000) : AC Tryz.prog 39 [FL fs] H0 (Bo (wrA fs)) H0 := by
  refine AC.of_body 0 Tryz.func39 rfl (fun l h => absurd rfl h) (fun C hC => ?_)
  have hD : ∀ l, ¬ C.D0 l := fun l h => (hC l).1 h rfl
  simp only [startFr, Tryz.ntmps39, List.length_cons, List.length_nil, Nat.reduceAdd, Nat.reduceSub, List.replicate_succ, List.replicate_zero, List.cons_append, List.nil_append]
  repeat' (first | ((first | apply Ba | (apply Bb; (· rfl); (· rfl)) | (apply Bc; (· exact nxE)) | (apply Bd; (· rfl); (· rfl); (· exact nxE))); (· first | exact Ok.seqS rfl rfl rfl | exact Ok.sneS rfl rfl rfl | exact Ok.slen rfl rfl | exact Ok.sjoin rfl rfl rfl (by simp only [List.length_append, List.length_cons, List.length_nil]; omega) | exact Ok.pe)) | ((first | apply Ca | (apply Cb; (· exact nxE))); (· first | exact Ok.e0)) | refine Sx ?_ | (refine Sy (fun h => ?_) (fun h => ?_) <;> try (exfalso; omega; done)) | refine Sz (fun h => ?_) (fun h => ?_))
  refine AW.loop (X := {k : Nat // k ≤ fs.length ∧ fs.all wrF = (fs.drop k).all wrF}) (fun k => ⟨[FL fs, Oo, Oo, I (k.1 : Nat), Oo, Oo, Oo, Oo, Oo, Oo, Oo, Oo, Oo, Oo, Oo, Oo, Oo, Oo, Oo], heapL [], 900⟩) (fun k => fs.length - k.1) ⟨0, Nat.zero_le _, by simp⟩ ?_ (fun k => ?_)
  ·
    (apply Le.headZ [] rfl)
    all_goals (try dsimp only [srcs])
    (case' hfr | hob => (repeat' (first | refine La ?_ ?_ | exact Lc | refine Lo ?_ | refine ⟨⟨_, rfl, ?_⟩, ?_⟩ | refine Lx ?_)))
    all_goals (first | (rfl) | exact Ld)
  obtain ⟨k, hk, hall⟩ := k
  simp only
  by_cases hlt : k < fs.length
  · obtain ⟨f, hf⟩ : ∃ f, fs[k]? = some f := ⟨fs[k], List.getElem?_eq_getElem hlt⟩
    have hrow : (fs.map Fi.row)[((k : Nat) : Int).toNat]? = some [DI f.e, DI f.n, DI f.t] := row_get hf
    have hW := l28Writable_ac f
    cases hb : wrF f with
    | true =>
      rw [hb] at hW
      repeat' (first | ((first | apply Ba | (apply Bb; (· rfl); (· rfl)) | (apply Bc; (· exact nxE)) | (apply Bd; (· rfl); (· rfl); (· exact nxE))); (· first | exact Kz rfl rfl (hW) (Aa (Ad (Ad (Ad An))) An) | exact Ok.seqS rfl rfl rfl | exact Ok.sneS rfl rfl rfl | exact Ok.slen rfl rfl | exact Ok.sjoin rfl rfl rfl (by simp only [List.length_append, List.length_cons, List.length_nil]; omega) | exact Ok.pe)) | ((first | apply Ca | (apply Cb; (· exact nxE))); (· first | exact Ok.e0)) | refine Sx ?_ | (refine Sy (fun h => ?_) (fun h => ?_) <;> try (exfalso; omega; done)) | refine Sz (fun h => ?_) (fun h => ?_))
      refine ⟨⟨k + 1, by omega, fi_all_step hf hb hall⟩, ?_, by simp only; omega⟩
      (apply Le.headZ [] rfl)
      all_goals (try dsimp only [srcs])
      (case' hfr | hob => (repeat' (first | refine La ?_ ?_ | exact Lc | refine Lo ?_ | refine ⟨⟨_, rfl, ?_⟩, ?_⟩ | refine Lx ?_)))
      all_goals (first | (rfl) | exact Ld)
    | false =>
      rw [hb] at hW
      have hA : wrA fs = false := by unfold wrA; rw [fi_all_no hf hb, Bool.false_and]
      rw [hA]
      repeat' (first | ((first | apply Ba | (apply Bb; (· rfl); (· rfl)) | (apply Bc; (· exact nxE)) | (apply Bd; (· rfl); (· rfl); (· exact nxE))); (· first | exact Kz rfl rfl (hW) (Aa (Ad (Ad (Ad An))) An) | exact Ok.seqS rfl rfl rfl | exact Ok.sneS rfl rfl rfl | exact Ok.slen rfl rfl | exact Ok.sjoin rfl rfl rfl (by simp only [List.length_append, List.length_cons, List.length_nil]; omega) | exact Ok.pe)) | ((first | apply Ca | (apply Cb; (· exact nxE))); (· first | exact Ok.e0)) | refine Sx ?_ | (refine Sy (fun h => ?_) (fun h => ?_) <;> try (exfalso; omega; done)) | refine Sz (fun h => ?_) (fun h => ?_))
      refine Ya ?_
      (apply Le.headZ (hs := []) [] rfl)
      all_goals (try dsimp only [srcs])
      (case' hfr => (repeat' (first | refine La ?_ ?_ | exact Lc | refine Lo ?_ | refine ⟨⟨_, rfl, ?_⟩, ?_⟩ | refine Lx ?_)))
      all_goals (first | exact Ld | exact trivial | (rfl))
  ·
    have hA : wrA fs = decide (fs.length ≤ 500) := by unfold wrA; rw [hall, List.drop_of_length_le (by omega)]; simp
    rw [hA]
    repeat' (first | ((first | apply Ba | (apply Bb; (· rfl); (· rfl)) | (apply Bc; (· exact nxE)) | (apply Bd; (· rfl); (· rfl); (· exact nxE))); (· first | exact Ok.seqS rfl rfl rfl | exact Ok.sneS rfl rfl rfl | exact Ok.slen rfl rfl | exact Ok.sjoin rfl rfl rfl (by simp only [List.length_append, List.length_cons, List.length_nil]; omega) | exact Ok.pe)) | ((first | apply Ca | (apply Cb; (· exact nxE))); (· first | exact Ok.e0)) | refine Sx ?_ | (refine Sy (fun h => ?_) (fun h => ?_) <;> try (exfalso; omega; done)) | refine Sz (fun h => ?_) (fun h => ?_))
    refine Ya ?_
    (apply Le.headZ (hs := []) [] rfl)
    all_goals (try dsimp only [srcs])
    (case' hfr => (repeat' (first | refine La ?_ ?_ | exact Lc | refine Lo ?_ | refine ⟨⟨_, rfl, ?_⟩, ?_⟩ | refine Lx ?_)))
    all_goals (first | exact Ld | exact trivial | ((apply decide_eq_decide.2; omega)))
/-! The program's test. -/
theorem isWrFn_ac [Mode] (f : Fi) : AC Tryz.prog 59 [f.av] H0 (Bo (!wrF f)) H0 := by
  obtain ⟨e, n, t⟩ := f
  refine AC.of_body 0 Tryz.func59 rfl (fun l h => absurd rfl h) (fun C hC => ?_)
  have hD : ∀ l, ¬ C.D0 l := fun l h => (hC l).1 h rfl
  simp only [startFr, Tryz.ntmps59, List.length_cons, List.length_nil, Nat.reduceAdd, Nat.reduceSub, List.replicate_succ, List.replicate_zero, List.cons_append, List.nil_append]
  repeat' (first | ((first | apply Ba | (apply Bb; (· rfl); (· rfl)) | (apply Bc; (· exact nxE)) | (apply Bd; (· rfl); (· rfl); (· exact nxE))); (· first | exact Kz rfl rfl (within_ac _ _ _) (Ad (Ad (Ad An))) | exact Ok.seqS rfl rfl rfl | exact Ok.sneS rfl rfl rfl | exact Ok.slen rfl rfl | exact Ok.sjoin rfl rfl rfl (by simp only [List.length_append, List.length_cons, List.length_nil]; omega) | exact Ok.pe)) | ((first | apply Ca | (apply Cb; (· exact nxE))); (· first | exact Ok.e0)) | refine Sx ?_ | (refine Sy (fun h => ?_) (fun h => ?_) <;> try (exfalso; omega; done)) | refine Sz (fun h => ?_) (fun h => ?_))
  all_goals
    refine Ya ?_
    (apply Le.headZ (hs := []) [] rfl)
    all_goals (try dsimp only [srcs])
    (case' hfr => (repeat' (first | refine La ?_ ?_ | exact Lc | refine Lo ?_ | refine ⟨⟨_, rfl, ?_⟩, ?_⟩ | refine Lx ?_)))
    all_goals (first | exact Ld | exact trivial | ((simp [wrF, *]; done)))
set_option maxHeartbeats 1000000 in
theorem indexFuncFi_ac [Mode] (fs : List Fi) (hn : fs.length ≤ 100000000) : AC Tryz.prog 84 [FL fs, .clo (.func 59) [] []] H0 (I (idxOf (fun f => !wrF f) fs 0)) H0 := by
  refine AC.of_body 0 Tryz.func84 rfl (fun l h => absurd rfl h) (fun C hC => ?_)
  have hD : ∀ l, ¬ C.D0 l := fun l h => (hC l).1 h rfl
  simp only [startFr, Tryz.ntmps84, List.length_cons, List.length_nil, Nat.reduceAdd, Nat.reduceSub, List.replicate_succ, List.replicate_zero, List.cons_append, List.nil_append]
  repeat' (first | ((first | apply Ba | (apply Bb; (· rfl); (· rfl)) | (apply Bc; (· exact nxE)) | (apply Bd; (· rfl); (· rfl); (· exact nxE))); (· first | exact Ok.seqS rfl rfl rfl | exact Ok.sneS rfl rfl rfl | exact Ok.slen rfl rfl | exact Ok.sjoin rfl rfl rfl (by simp only [List.length_append, List.length_cons, List.length_nil]; omega) | exact Ok.pe)) | ((first | apply Ca | (apply Cb; (· exact nxE))); (· first | exact Ok.e0)) | refine Sx ?_ | (refine Sy (fun h => ?_) (fun h => ?_) <;> try (exfalso; omega; done)) | refine Sz (fun h => ?_) (fun h => ?_))
  refine AW.loop (X := {k : Nat // k ≤ fs.length ∧ idxOf (fun f => !wrF f) fs 0 = idxOf (fun f => !wrF f) (fs.drop k) k}) (fun k => ⟨[FL fs, .clo (.func 59) [] [], Oo, Oo, Oo, Oo, Oo, I fs.length, I (k.1 : Nat), Oo, Oo, Oo, Oo, Oo, Oo, Oo, Oo, Oo, Oo], heapL [], 900⟩) (fun k => fs.length - k.1) ⟨0, Nat.zero_le _, by simp⟩ ?_ (fun k => ?_)
  ·
    (apply Le.headZ [] rfl)
    all_goals (try dsimp only [srcs])
    (case' hfr | hob => (repeat' (first | refine La ?_ ?_ | exact Lc | refine Lo ?_ | refine ⟨⟨_, rfl, ?_⟩, ?_⟩ | refine Lx ?_)))
    all_goals (first | (rfl) | exact Ld)
  obtain ⟨k, hk, hall⟩ := k
  simp only
  by_cases hlt : k < fs.length
  · obtain ⟨f, hf⟩ : ∃ f, fs[k]? = some f := ⟨fs[k], List.getElem?_eq_getElem hlt⟩
    have hrow : (fs.map Fi.row)[((k : Nat) : Int).toNat]? = some [DI f.e, DI f.n, DI f.t] := row_get hf
    have hst := idxOf_at (f := fun f => !wrF f) hf k
    rw [← hall] at hst
    have hW := isWrFn_ac f
    cases hb : wrF f with
    | true =>
      rw [hb] at hW hst
      repeat' (first | ((first | apply Ba | (apply Bb; (· rfl); (· rfl)) | (apply Bc; (· exact nxE)) | (apply Bd; (· rfl); (· rfl); (· exact nxE))); (· first | exact Kz rfl rfl (hW) (Aa (Ad (Ad (Ad An))) An) | exact Ok.seqS rfl rfl rfl | exact Ok.sneS rfl rfl rfl | exact Ok.slen rfl rfl | exact Ok.sjoin rfl rfl rfl (by simp only [List.length_append, List.length_cons, List.length_nil]; omega) | exact Ok.pe)) | ((first | apply Ca | (apply Cb; (· exact nxE))); (· first | exact Ok.e0)) | refine Sx ?_ | (refine Sy (fun h => ?_) (fun h => ?_) <;> try (exfalso; omega; done)) | refine Sz (fun h => ?_) (fun h => ?_))
      refine ⟨⟨k + 1, by omega, hst⟩, ?_, by simp only; omega⟩
      (apply Le.headZ [] rfl)
      all_goals (try dsimp only [srcs])
      (case' hfr | hob => (repeat' (first | refine La ?_ ?_ | exact Lc | refine Lo ?_ | refine ⟨⟨_, rfl, ?_⟩, ?_⟩ | refine Lx ?_)))
      all_goals (first | (rfl) | exact Ld)
    | false =>
      rw [hb] at hW hst
      rw [hst]
      repeat' (first | ((first | apply Ba | (apply Bb; (· rfl); (· rfl)) | (apply Bc; (· exact nxE)) | (apply Bd; (· rfl); (· rfl); (· exact nxE))); (· first | exact Kz rfl rfl (hW) (Aa (Ad (Ad (Ad An))) An) | exact Ok.seqS rfl rfl rfl | exact Ok.sneS rfl rfl rfl | exact Ok.slen rfl rfl | exact Ok.sjoin rfl rfl rfl (by simp only [List.length_append, List.length_cons, List.length_nil]; omega) | exact Ok.pe)) | ((first | apply Ca | (apply Cb; (· exact nxE))); (· first | exact Ok.e0)) | refine Sx ?_ | (refine Sy (fun h => ?_) (fun h => ?_) <;> try (exfalso; omega; done)) | refine Sz (fun h => ?_) (fun h => ?_))
      refine Ya ?_
      (apply Le.headZ (hs := []) [] rfl)
      all_goals (try dsimp only [srcs])
      (case' hfr => (repeat' (first | refine La ?_ ?_ | exact Lc | refine Lo ?_ | refine ⟨⟨_, rfl, ?_⟩, ?_⟩ | refine Lx ?_)))
      all_goals (first | exact Ld | exact trivial | (rfl))
  ·
    rw [hall, List.drop_of_length_le (by omega)]
    repeat' (first | ((first | apply Ba | (apply Bb; (· rfl); (· rfl)) | (apply Bc; (· exact nxE)) | (apply Bd; (· rfl); (· rfl); (· exact nxE))); (· first | exact Ok.seqS rfl rfl rfl | exact Ok.sneS rfl rfl rfl | exact Ok.slen rfl rfl | exact Ok.sjoin rfl rfl rfl (by simp only [List.length_append, List.length_cons, List.length_nil]; omega) | exact Ok.pe)) | ((first | apply Ca | (apply Cb; (· exact nxE))); (· first | exact Ok.e0)) | refine Sx ?_ | (refine Sy (fun h => ?_) (fun h => ?_) <;> try (exfalso; omega; done)) | refine Sz (fun h => ?_) (fun h => ?_))
    refine Ya ?_
    (apply Le.headZ (hs := []) [] rfl)
    all_goals (try dsimp only [srcs])
    (case' hfr => (repeat' (first | refine La ?_ ?_ | exact Lc | refine Lo ?_ | refine ⟨⟨_, rfl, ?_⟩, ?_⟩ | refine Lx ?_)))
    all_goals (first | exact Ld | exact trivial | (rfl))
theorem containsFuncFi_ac [Mode] (fs : List Fi) (hn : fs.length ≤ 100000000) : AC Tryz.prog 58 [FL fs, .clo (.func 59) [] []] H0 (Bo (fs.any fun f => !wrF f)) H0 := by
  have hI := indexFuncFi_ac fs hn
  have hA := idxOf_any (f := fun f => !wrF f) fs 0
  rw [← hA]
  refine AC.of_body 0 Tryz.func58 rfl (fun l h => absurd rfl h) (fun C hC => ?_)
  have hD : ∀ l, ¬ C.D0 l := fun l h => (hC l).1 h rfl
  simp only [startFr, Tryz.ntmps58, List.length_cons, List.length_nil, Nat.reduceAdd, Nat.reduceSub, List.replicate_succ, List.replicate_zero, List.cons_append, List.nil_append]
  repeat' (first | ((first | apply Ba | (apply Bb; (· rfl); (· rfl)) | (apply Bc; (· exact nxE)) | (apply Bd; (· rfl); (· rfl); (· exact nxE))); (· first | exact OpOk.call0 [] rfl rfl hI (.inl rfl) (fun _ => by simp [rn]) (ARs.cons (AR.dd _) (ARs.cons (AR.clo' .nil .nil) ARs.nil)) | exact Ok.seqS rfl rfl rfl | exact Ok.sneS rfl rfl rfl | exact Ok.slen rfl rfl | exact Ok.sjoin rfl rfl rfl (by simp only [List.length_append, List.length_cons, List.length_nil]; omega) | exact Ok.pe)) | ((first | apply Ca | (apply Cb; (· exact nxE))); (· first | exact Ok.e0)) | refine Sx ?_ | (refine Sy (fun h => ?_) (fun h => ?_) <;> try (exfalso; omega; done)) | refine Sz (fun h => ?_) (fun h => ?_))
  refine Ya ?_
  (apply Le.headZ (hs := []) [] rfl)
  all_goals (try dsimp only [srcs])
  (case' hfr => (repeat' (first | refine La ?_ ?_ | exact Lc | refine Lo ?_ | refine ⟨⟨_, rfl, ?_⟩, ?_⟩ | refine Lx ?_)))
  all_goals (first | exact Ld | exact trivial | (rfl))
theorem isWritable_ac [Mode] (fs : List Fi) (hn : fs.length ≤ 100000000) : AC Tryz.prog 37 [FL fs] H0 (Bo (wrA fs)) H0 := by
  have hA : (!fs.any fun f => !wrF f) = fs.all wrF := by rw [List.all_eq_not_any_not]
  have hI := containsFuncFi_ac fs hn
  by_cases hl : fs.length ≤ 500
  · have e : wrA fs = !fs.any fun f => !wrF f := by unfold wrA; rw [hA, decide_eq_true hl, Bool.and_true]
    rw [e]
    refine AC.of_body 0 Tryz.func37 rfl (fun l h => absurd rfl h) (fun C hC => ?_)
    have hD : ∀ l, ¬ C.D0 l := fun l h => (hC l).1 h rfl
    simp only [startFr, Tryz.ntmps37, List.length_cons, List.length_nil, Nat.reduceAdd, Nat.reduceSub, List.replicate_succ, List.replicate_zero, List.cons_append, List.nil_append]
    repeat' (first | ((first | apply Ba | (apply Bb; (· rfl); (· rfl)) | (apply Bc; (· exact nxE)) | (apply Bd; (· rfl); (· rfl); (· exact nxE))); (· first | exact OpOk.call0 [] rfl rfl hI (.inl rfl) (fun _ => by simp [rn]) (ARs.cons (AR.dd _) (ARs.cons (AR.clo' .nil .nil) ARs.nil)) | exact Ok.seqS rfl rfl rfl | exact Ok.sneS rfl rfl rfl | exact Ok.slen rfl rfl | exact Ok.sjoin rfl rfl rfl (by simp only [List.length_append, List.length_cons, List.length_nil]; omega) | exact Ok.pe)) | ((first | apply Ca | (apply Cb; (· exact nxE))); (· first | exact Ok.e0)) | refine Sx ?_ | (refine Sy (fun h => ?_) (fun h => ?_) <;> try (exfalso; omega; done)) | refine Sz (fun h => ?_) (fun h => ?_))
    refine Ya ?_
    (apply Le.headZ (hs := []) [] rfl)
    all_goals (try dsimp only [srcs])
    (case' hfr => (repeat' (first | refine La ?_ ?_ | exact Lc | refine Lo ?_ | refine ⟨⟨_, rfl, ?_⟩, ?_⟩ | refine Lx ?_)))
    all_goals (first | exact Ld | exact trivial | (rfl))
  · have e : wrA fs = false := by unfold wrA; rw [decide_eq_false hl, Bool.and_false]
    rw [e]
    refine AC.of_body 0 Tryz.func37 rfl (fun l h => absurd rfl h) (fun C hC => ?_)
    have hD : ∀ l, ¬ C.D0 l := fun l h => (hC l).1 h rfl
    simp only [startFr, Tryz.ntmps37, List.length_cons, List.length_nil, Nat.reduceAdd, Nat.reduceSub, List.replicate_succ, List.replicate_zero, List.cons_append, List.nil_append]
    repeat' (first | ((first | apply Ba | (apply Bb; (· rfl); (· rfl)) | (apply Bc; (· exact nxE)) | (apply Bd; (· rfl); (· rfl); (· exact nxE))); (· first | exact OpOk.call0 [] rfl rfl hI (.inl rfl) (fun _ => by simp [rn]) (ARs.cons (AR.dd _) (ARs.cons (AR.clo' .nil .nil) ARs.nil)) | exact Ok.seqS rfl rfl rfl | exact Ok.sneS rfl rfl rfl | exact Ok.slen rfl rfl | exact Ok.sjoin rfl rfl rfl (by simp only [List.length_append, List.length_cons, List.length_nil]; omega) | exact Ok.pe)) | ((first | apply Ca | (apply Cb; (· exact nxE))); (· first | exact Ok.e0)) | refine Sx ?_ | (refine Sy (fun h => ?_) (fun h => ?_) <;> try (exfalso; omega; done)) | refine Sz (fun h => ?_) (fun h => ?_))
    refine Ya ?_
    (apply Le.headZ (hs := []) [] rfl)
    all_goals (try dsimp only [srcs])
    (case' hfr => (repeat' (first | refine La ?_ ?_ | exact Lc | refine Lo ?_ | refine ⟨⟨_, rfl, ?_⟩, ?_⟩ | refine Lx ?_)))
    all_goals (first | exact Ld | exact trivial | (rfl))
/-! Lines. -/
/-- The chain after a firing. -/
def nxI (c : Int) (f : Fi) : Int := (31 * c + 7 * f.e + f.t).tmod 9973
theorem nxI_bd [Mode] {c : Int} {f : Fi} (h0 : 0 ≤ c) (hf : wrF f = true) : 0 ≤ nxI c f ∧ nxI c f < 9973 := by
  obtain ⟨⟨h1, _⟩, h2, _⟩ := wrF_iff.1 hf
  unfold nxI
  rw [Int.tmod_eq_emod_of_nonneg (by omega)]
  omega
/-- The line of a firing. -/
def trL (c : Int) (f : Fi) : List UInt8 := dec f.e.toNat ++ [32] ++ dec f.t.toNat ++ [32] ++ dec (nxI c f).toNat
def trN (c : Int) (f : Fi) : List UInt8 := trL c f ++ [10]
theorem trN_len [Mode] {c : Int} {f : Fi} (h0 : 0 ≤ c) (hf : wrF f = true) : (trN c f).length ≤ 60 := by
  obtain ⟨⟨h1, h2⟩, h3, h4⟩ := wrF_iff.1 hf
  have hb := nxI_bd h0 hf
  have l1 := dec_len f.e.toNat (by omega)
  have l2 := dec_len f.t.toNat (by omega)
  have l3 := dec_len (nxI c f).toNat (by omega)
  simp only [trN, trL, List.length_append, List.length_cons, List.length_nil]
  omega
theorem l28Next_ac [Mode] (c : Int) (f : Fi) (h0 : 0 ≤ c) (h1 : c < 9973) (hf : wrF f = true) : AC Tryz.prog 40 [I c, f.av] H0 (I (nxI c f)) H0 := by
  obtain ⟨⟨h2, h3⟩, h4, h5⟩ := wrF_iff.1 hf
  obtain ⟨e, n, t⟩ := f
  simp only at h2 h3 h4 h5
  refine AC.of_body 0 Tryz.func40 rfl (fun l h => absurd rfl h) (fun C hC => ?_)
  have hD : ∀ l, ¬ C.D0 l := fun l h => (hC l).1 h rfl
  simp only [startFr, Tryz.ntmps40, List.length_cons, List.length_nil, Nat.reduceAdd, Nat.reduceSub, List.replicate_succ, List.replicate_zero, List.cons_append, List.nil_append]
  repeat' (first | ((first | apply Ba | (apply Bb; (· rfl); (· rfl)) | (apply Bc; (· exact nxE)) | (apply Bd; (· rfl); (· rfl); (· exact nxE))); (· first | exact Ok.rem rfl rfl rfl (by decide) | exact Ok.seqS rfl rfl rfl | exact Ok.sneS rfl rfl rfl | exact Ok.slen rfl rfl | exact Ok.sjoin rfl rfl rfl (by simp only [List.length_append, List.length_cons, List.length_nil]; omega) | exact Ok.pe)) | ((first | apply Ca | (apply Cb; (· exact nxE))); (· first | exact Ok.e0)) | refine Sx ?_ | (refine Sy (fun h => ?_) (fun h => ?_) <;> try (exfalso; omega; done)) | refine Sz (fun h => ?_) (fun h => ?_))
  refine Ya ?_
  (apply Le.headZ (hs := []) [] rfl)
  all_goals (try dsimp only [srcs])
  (case' hfr => (repeat' (first | refine La ?_ ?_ | exact Lc | refine Lo ?_ | refine ⟨⟨_, rfl, ?_⟩, ?_⟩ | refine Lx ?_)))
  all_goals (first | exact Ld | exact trivial | (rfl))
set_option maxHeartbeats 1000000 in
theorem l28Line_ac [Mode] (c : Int) (f : Fi) (h0 : 0 ≤ c) (h1 : c < 9973) (hf : wrF f = true) : AC Tryz.prog 41 [f.av, I (nxI c f)] H0 (Str (trL c f)) H0 := by
  obtain ⟨⟨h2, h3⟩, h4, h5⟩ := wrF_iff.1 hf
  obtain ⟨h6, h7⟩ := nxI_bd h0 hf
  have l1 := dec_len f.e.toNat (by omega)
  have l2 := dec_len f.t.toNat (by omega)
  have l3 := dec_len (nxI c f).toNat (by omega)
  have k1 := l01DecI_ac f.e h2 (by omega)
  have k2 := l01DecI_ac f.t h4 (by omega)
  have k3 := l01DecI_ac (nxI c f) h6 (by omega)
  unfold trL
  generalize nxI c f = q at *
  obtain ⟨e, n, t⟩ := f
  simp only at *
  refine AC.of_body 0 Tryz.func41 rfl (fun l h => absurd rfl h) (fun C hC => ?_)
  have hD : ∀ l, ¬ C.D0 l := fun l h => (hC l).1 h rfl
  simp only [startFr, Tryz.ntmps41, List.length_cons, List.length_nil, Nat.reduceAdd, Nat.reduceSub, List.replicate_succ, List.replicate_zero, List.cons_append, List.nil_append]
  repeat' (first | ((first | apply Ba | (apply Bb; (· rfl); (· rfl)) | (apply Bc; (· exact nxE)) | (apply Bd; (· rfl); (· rfl); (· exact nxE))); (· first | exact Kz rfl rfl (k1) (Ad An) | exact Kz rfl rfl (k2) (Ad An) | exact Kz rfl rfl (k3) (Ad An) | exact Ok.seqS rfl rfl rfl | exact Ok.sneS rfl rfl rfl | exact Ok.slen rfl rfl | exact Ok.sjoin rfl rfl rfl (by simp only [List.length_append, List.length_cons, List.length_nil]; omega) | exact Ok.pe)) | ((first | apply Ca | (apply Cb; (· exact nxE))); (· first | exact Ok.e0)) | refine Sx ?_ | (refine Sy (fun h => ?_) (fun h => ?_) <;> try (exfalso; omega; done)) | refine Sz (fun h => ?_) (fun h => ?_))
  refine Ya ?_
  (apply Le.headZ (hs := []) [] rfl)
  all_goals (try dsimp only [srcs])
  (case' hfr => (repeat' (first | refine La ?_ ?_ | exact Lc | refine Lo ?_ | refine ⟨⟨_, rfl, ?_⟩, ?_⟩ | refine Lx ?_)))
  all_goals (first | exact Ld | exact trivial | (rfl))
set_option maxHeartbeats 1000000 in
theorem traceLine_ac [Mode] [HasTab] (c : Int) (f : Fi) (h0 : 0 ≤ c) (h1 : c < 9973) (hf : wrF f = true) : AC Tryz.prog 61 [f.av, I c] H0 (.tup [Str (trN c f), I (nxI c f)]) H0 := by
  obtain ⟨⟨h2, h3⟩, h4, h5⟩ := wrF_iff.1 hf
  obtain ⟨h6, h7⟩ := nxI_bd h0 hf
  have l1 := dec_len f.e.toNat (by omega)
  have l2 := dec_len f.t.toNat (by omega)
  have l3 := dec_len (nxI c f).toNat (by omega)
  have k1 := decimalP_ac f.e h2 (by omega)
  have k2 := decimalP_ac f.t h4 (by omega)
  have k3 := decimalP_ac (nxI c f) h6 (by omega)
  unfold trN trL
  unfold nxI at *
  obtain ⟨e, n, t⟩ := f
  simp only at *
  refine AC.of_body 0 Tryz.func61 rfl (fun l h => absurd rfl h) (fun C hC => ?_)
  have hD : ∀ l, ¬ C.D0 l := fun l h => (hC l).1 h rfl
  simp only [startFr, Tryz.ntmps61, List.length_cons, List.length_nil, Nat.reduceAdd, Nat.reduceSub, List.replicate_succ, List.replicate_zero, List.cons_append, List.nil_append]
  repeat' (first | ((first | apply Ba | (apply Bb; (· rfl); (· rfl)) | (apply Bc; (· exact nxE)) | (apply Bd; (· rfl); (· rfl); (· exact nxE))); (· first | exact Kz rfl rfl (k1) (Ad An) | exact Kz rfl rfl (k2) (Ad An) | exact Kz rfl rfl (k3) (Ad An) | exact Ok.rem rfl rfl rfl (by decide) | exact Ok.seqS rfl rfl rfl | exact Ok.sneS rfl rfl rfl | exact Ok.slen rfl rfl | exact Ok.sjoin rfl rfl rfl (by simp only [List.length_append, List.length_cons, List.length_nil]; omega) | exact Ok.pe)) | ((first | apply Ca | (apply Cb; (· exact nxE))); (· first | exact Ok.e0)) | refine Sx ?_ | (refine Sy (fun h => ?_) (fun h => ?_) <;> try (exfalso; omega; done)) | refine Sz (fun h => ?_) (fun h => ?_))
  refine Yb ?_
  (apply Le.headZ (hs := []) [] rfl)
  all_goals (try dsimp only [srcs])
  (case' hfr => (repeat' (first | refine La ?_ ?_ | exact Lc | refine Lo ?_ | refine ⟨⟨_, rfl, ?_⟩, ?_⟩ | refine Lx ?_)))
  all_goals (first | exact Ld | exact trivial | (rfl))
/-- The chain after all firings, and their text. -/
def chA : Int → List Fi → Int
  | c, [] => c
  | c, f :: fs => chA (nxI c f) fs
def trT : Int → List Fi → List UInt8
  | _, [] => []
  | c, f :: fs => trN c f ++ trT (nxI c f) fs
theorem chA_snoc [Mode] {f : Fi} : ∀ {c : Int} {fs : List Fi}, chA c (fs ++ [f]) = nxI (chA c fs) f
  | c, [] => rfl
  | c, g :: fs => by rw [List.cons_append, chA, chA, chA_snoc]
theorem trT_snoc [Mode] {f : Fi} : ∀ {c : Int} {fs : List Fi}, trT c (fs ++ [f]) = trT c fs ++ trN (chA c fs) f
  | c, [] => by simp [trT, chA]
  | c, g :: fs => by rw [List.cons_append, trT, trT, trT_snoc, chA, List.append_assoc]
theorem chA_bd [Mode] : ∀ {c : Int} {fs : List Fi}, 0 ≤ c → c < 9973 → fs.all wrF = true → 0 ≤ chA c fs ∧ chA c fs < 9973
  | c, [], h0, h1, _ => ⟨h0, h1⟩
  | c, f :: fs, h0, h1, hf => by
    rw [List.all_cons, Bool.and_eq_true] at hf
    have := nxI_bd h0 hf.1
    show 0 ≤ chA (nxI c f) fs ∧ chA (nxI c f) fs < 9973
    exact chA_bd this.1 this.2 hf.2
theorem trT_len [Mode] : ∀ {c : Int} {fs : List Fi}, 0 ≤ c → fs.all wrF = true → (trT c fs).length ≤ 60 * fs.length
  | c, [], _, _ => by simp [trT]
  | c, f :: fs, h0, hf => by
    rw [List.all_cons, Bool.and_eq_true] at hf
    have h1 := trN_len h0 hf.1
    have h2 := trT_len (nxI_bd h0 hf.1).1 hf.2
    rw [trT, List.length_append, List.length_cons]
    omega
end Go.Proofs.YtofakjlamoigcaaGreatDoor
end

section
namespace Go.Proofs.YtofakjlamoigcaaGreatDoor
set_option linter.unusedSimpArgs false
set_option linter.unusedVariables false
open Go Go.RowKit

/-- A contract of the reading, used in the machine's terms. -/
theorem AC.at [Mode] {P : Program} {f : FuncId} {args : List AV} {res : AV} {w : World} {vs : List Value} (h : AC P f args H0 res H0) (hg : Glb (fun b => b < w.heap.size) w) (hv : VRs (fun _ => none) (fun b => b < w.heap.size) w args vs) :
    Calls P f vs.toArray w fun e w' => ∃ v ι F, e = .returned v ∧ VR ι F w' res v ∧ Below w.heap.size w w' := by
  refine (h (fun _ => none) (fun b => b < w.heap.size) w vs ⟨fun l o h => (by cases h), fun l l' b s s' h => absurd rfl h, fun l b s h => absurd rfl h, fun b h => h, hg⟩ (fun _ _ => rfl) hv).mono ?_
  rintro e w' ⟨v, ι', F', rfl, hr, _, hst, _⟩
  exact ⟨v, ι', F', rfl, hr, hst.os, hst.tape, hst.output, hst.size, fun b hb => hst.block b hb fun ⟨l, hl, _⟩ => absurd rfl hl⟩
/-- A slice of records that is only read, as the machine has it. -/
theorem VR.slR [Mode] {ι : Iota} {F : Nat → Prop} {w : World} {α : Type} {k : Nat} {enc : α → List Value} {row : α → List D} (hrow : ∀ x, row x = (enc x).map .v) {xs : List α} {v : Value} (h : VR ι F w (.d (.sl k (xs.map row))) v) :
    ∃ (a : Option Addr) (cap : Nat), v = .slice a xs.length cap ∧ ∀ (i : Nat) (x : α), xs[i]? = some x → 0 < (enc x).length → ∃ b off, a = some ⟨b, off, none⟩ ∧ F b ∧ ∀ (j : Nat) (c : Value), (enc x)[j]? = some c → w.cell? ⟨b, off + i * k + j, none⟩ = some c := by
  have hd := h.sl_inv
  clear h
  generalize hrows : xs.map row = rows at hd
  cases hd with
  | sl _ _ a cap g hcap h hd =>
    subst hrows
    refine ⟨a, cap, by simp, fun i x hx hpos => ?_⟩
    have hr : (xs.map row)[i]? = some (row x) := by simp [hx]
    have hget : ∀ (j : Nat) (c : Value), (enc x)[j]? = some c → (row x)[j]? = some (.v c) := fun j c hj => by rw [hrow]; simp [hj]
    obtain ⟨b, off, e, hF, _⟩ := h i _ 0 _ hr (hget 0 _ (List.getElem?_eq_getElem hpos))
    refine ⟨b, off, e, hF, fun j c hj => ?_⟩
    obtain ⟨b', off', e', _, hc⟩ := h i _ j _ hr (hget j c hj)
    rw [e] at e'
    simp only [Option.some.injEq, Addr.mk.injEq, and_true] at e'
    obtain ⟨rfl, rfl⟩ := e'
    have hv := hd i _ j _ hr (hget j c hj)
    generalize hq : g i j = q at hv hc
    cases hv
    exact hc
theorem isB_stay [Mode] {T e : TypeId} {B b : Nat} {bs : List Value} {w w' : World} (h : Lib.IsBuilder T e B b bs w) (hw : ∀ k, k < w.heap.size → w'.heap[k]? = w.heap[k]?) : Lib.IsBuilder T e B b bs w' := by
  have key : ∀ {p : Value}, Lib.BuilderAt T e B b p bs w → Lib.BuilderAt T e B b p bs w' := by
    rintro p ⟨hB, v, hb, hown, hne⟩
    have hlt : b < w.heap.size := (Array.getElem?_eq_some_iff.1 hb).1
    refine ⟨hB, v, by rw [hw b hlt]; exact hb, ?_, hne⟩
    obtain ⟨h1, h2⟩ := hown
    refine ⟨h1, h2.imp id ?_⟩
    rintro ⟨g, cap, cur, e1, e2, e3, e4⟩
    exact ⟨g, cap, cur, e1, e2, by rw [hw g (Array.getElem?_eq_some_iff.1 e3).1]; exact e3, e4⟩
  exact h.imp key key
def Fi.enc (f : Fi) : List Value := [.int .i64 f.e, .int .i64 f.n, .int .i64 f.t]
theorem traceLine_calls [Mode] [HasTab] (c : Int) (f : Fi) (h0 : 0 ≤ c) (h1 : c < 9973) (hf : wrF f = true) (w : World) (hg : Glb (fun b => b < w.heap.size) w) :
    Calls Tryz.prog 61 #[.agg #[.int .i64 f.e, .int .i64 f.n, .int .i64 f.t], .int .i64 c] w fun e w' => e = .returned (.tuple #[.string ⟨(trN c f).toArray⟩, .int .i64 (nxI c f)]) ∧ Below w.heap.size w w' := by
  refine ((traceLine_ac c f h0 h1 hf).at hg (vs := [.agg #[.int .i64 f.e, .int .i64 f.n, .int .i64 f.t], .int .i64 c]) (.cons (VRs.agg (.cons (.d (.v _)) (.cons (.d (.v _)) (.cons (.d (.v _)) .nil)))) (.cons (.d (.v _)) .nil))).mono ?_
  rintro e w' ⟨v, ι, F, rfl, hr, hb⟩
  obtain ⟨vs, rfl, hl, hv⟩ := hr.tup_inv
  match vs, hl with
  | [a, b], _ =>
    have ha := (hv 0 _ a rfl rfl).v_inv
    have hb' := (hv 1 _ b rfl rfl).v_inv
    subst ha hb'
    exact ⟨rfl, hb⟩
set_option maxRecDepth 8000 in
set_option maxHeartbeats 1600000 in
theorem traceText_calls [Mode] [HasTab] (fs : List Fi) (hw : fs.all wrF = true) (hl : fs.length ≤ 500) (a : Option Addr) (cap : Nat) (w : World) (hG : ∀ W', Below w.heap.size w W' → Glb (fun b => b < W'.heap.size) W')
    (rx : ∀ (i : Nat) (x : Fi), fs[i]? = some x → 0 < x.enc.length → ∃ b off, a = some ⟨b, off, none⟩ ∧ b < w.heap.size ∧ ∀ (j : Nat) (c : Value), x.enc[j]? = some c → w.cell? ⟨b, off + i * 3 + j, none⟩ = some c) :
    Calls Tryz.prog 38 #[.slice a fs.length cap] w fun e w' => e = .returned (.tuple #[.string ⟨(trT 1 fs).toArray⟩, .int .i64 (chA 1 fs)]) ∧ Below w.heap.size w w' := by
  go_enter Tryz.func38, Tryz.ntmps38
  go_wp2
  go_loopw [5, 12] (fun c i wr => ∃ k : Nat, k ≤ fs.length ∧ i = .int .i64 k ∧ c = .int .i64 (chA 1 (fs.take k)) ∧ Lib.IsBuilder 94 5 w.heap.size w.heap.size (Lib.byteCells (trT 1 (fs.take k))) wr ∧ Below w.heap.size w wr) (fun _ i _ => fs.length - (intOf i).toNat)
  case atStart => exact ⟨0, Nat.zero_le _, rfl, rfl, Lib.fresh_isBuilder _ _ w, (Below.refl _ _).alloc (Nat.le_refl _) _⟩
  case round =>
    obtain ⟨k, hk, rfl, rfl, hB, hb⟩ := hrel
    by_cases hlt : k < fs.length
    · obtain ⟨f, hf⟩ : ∃ f, fs[k]? = some f := ⟨fs[k], List.getElem?_eq_getElem hlt⟩
      have hfw : wrF f = true := List.all_eq_true.1 hw f (List.mem_of_getElem? hf)
      have htk : fs.take (k + 1) = fs.take k ++ [f] := by rw [List.take_add_one, hf]; rfl
      have hwk : (fs.take k).all wrF = true := List.all_eq_true.2 fun x hx => List.all_eq_true.1 hw x (List.mem_of_mem_take hx)
      have hbd := chA_bd (c := 1) (by decide) (by decide) hwk
      have hT := trT_len (c := 1) (by decide) hwk
      have hTL := List.length_take_le k fs
      have hN := trN_len hbd.1 hfw
      have hs1 : trT 1 (fs.take (k + 1)) = trT 1 (fs.take k) ++ trN (chA 1 (fs.take k)) f := by rw [htk, trT_snoc]
      have hs2 : chA 1 (fs.take (k + 1)) = nxI (chA 1 (fs.take k)) f := by rw [htk, chA_snoc]
      obtain ⟨b, off, rfl, hbl, hc⟩ := rx k f hf (by simp [Fi.enc])
      have c0 := stay hb (Nat.le_refl _) (hc 0 _ rfl)
      have c1 := stay hb (Nat.le_refl _) (hc 1 _ rfl)
      have c2 := stay hb (Nat.le_refl _) (hc 2 _ rfl)
      have hz := hb.size
      clear hc rx
      generalize chA 1 (fs.take k) = ch at *
      generalize trT 1 (fs.take k) = tx at *
      obtain ⟨fe, fn, ft⟩ := f
      simp only [Nat.add_zero] at c0 c1 c2
      have hB1 : ∀ o, Lib.IsBuilder 94 5 w.heap.size w.heap.size (Lib.byteCells tx) (wr.alloc o) := fun o => isB_stay hB fun k hk => Below.heap_alloc _ _ _ hk
      have hb1 : ∀ o, Below w.heap.size w (wr.alloc o) := fun o => hb.alloc hz o
      have hlen : (Lib.byteCells tx).length + (ByteArray.mk (trN ch ⟨fe, fn, ft⟩).toArray).size ≤ 140737488355328 := by rw [Lib.byteCells_length, size_mk]; omega
      go_wp2_with (first
        | (go_at_call 61; refine (traceLine_calls ch ⟨fe, fn, ft⟩ hbd.1 hbd.2 hfw _ (hG _ (hb1 _))).mono ?_; rintro e w1 ⟨rfl, hl1⟩; have hB2 := isB_stay (hB1 _) (fun k hk => hl1.block k hk); have hb2 := (hb1 _).trans (hl1.mono (hb1 _).size); clear hB1 hb1 hl1 hG)
        | (go_at_call 62; refine (Tryz.Builder_WriteString _ _ _ _ _ hB2 hlen hb2.size).mono ?_; rintro e w2 ⟨rfl, hB3, hb3⟩))
      refine ⟨⟨k + 1, by omega, by simp, by rw [hs2], ?_, hb2.trans hb3⟩, by simp [intOf]; omega⟩
      rw [hs1, Lib.byteCells_append]
      exact .inr hB3
    · obtain rfl : k = fs.length := by omega
      rw [List.take_length] at hB ⊢
      have hz := hb.size
      go_wp2_with (go_at_call 63; refine (Tryz.Builder_String_any _ _ (trT 1 fs) _ hB hz).mono ?_; rintro e w2 ⟨rfl, hb3⟩)
      go_ret2
      exact ⟨rfl, hb.trans hb3⟩
theorem traceText_ac [Mode] [HasTab] (fs : List Fi) (hw : fs.all wrF = true) (hl : fs.length ≤ 500) : AC Tryz.prog 38 [FL fs] H0 (.tup [Str (trT 1 fs), I (chA 1 fs)]) H0 := AC.ofCalls fun ι F w vs hs hv => by
  obtain ⟨hvl, hvv⟩ := hv
  match vs, hvl with
  | [v], _ =>
    obtain ⟨a, cap, rfl, rx⟩ := (hvv 0 _ v rfl rfl).slR (enc := Fi.enc) (fun _ => rfl)
    refine (traceText_calls fs hw hl a cap w (fun W' hb => hs.gl.mono (fun b hb' => Nat.lt_of_lt_of_le (hs.lt b hb') hb.size) (fun b hb' => hb.block b (hs.lt b hb'))) (fun i x hx hp => ?_)).mono ?_
    · obtain ⟨b, off, e, hF, hc⟩ := rx i x hx hp
      exact ⟨b, off, e, hs.lt b hF, hc⟩
    · rintro e w' ⟨rfl, hb⟩
      exact ⟨_, rfl, fun _ _ => VRs.tup (.cons (.d (.v _)) (.cons (.d (.v _)) .nil)), hb⟩
end Go.Proofs.YtofakjlamoigcaaGreatDoor
end

section
namespace Go.Proofs.YtofakjlamoigcaaGreatDoor
set_option linter.unusedSimpArgs false
set_option linter.unusedVariables false
open Go Go.RowKit Go.ChangeShapes Go.WideShapes Go.Deep Go.ChangeMaps

instance : Inhabited Fi := ⟨⟨0, 0, 0⟩⟩
section
variable {H : Type} {enc : TypeId × Value → H} {w : World} {base : Nat} {spare : Nat → Bool} {held : Bool}
end
end Go.Proofs.YtofakjlamoigcaaGreatDoor
end
