/-
  Walks in the abstract reading, part 3.
-/
import Derived.Test.YtofakjlamoigcaaGreatDoorProg
import Derived.Test.YtofakjlamoigcaaGreatDoorKsA1
import Derived.Test.YtofakjlamoigcaaGreatDoorKsA2
import Derived.ProofKit
import Derived.Deep.Slices
import Derived.Test.YtofakjlamoigcaaGreatDoorKsU2
import Derived.Lib.ParseIntBTie
import Derived.Lib.SplitLaws
import Derived.Test.YtofakjlamoigcaaGreatDoorKsA3
section
namespace Go.Proofs.YtofakjlamoigcaaGreatDoor
set_option linter.unusedSimpArgs false
set_option linter.unusedVariables false
open Go.RowKit Go.ChangeShapes Go.WideShapes Go.Deep

def RdRow (w : World) (r : List D) (cs : List Value) : Prop := r.length = cs.length ∧ ∀ (j : Nat) c v, r[j]? = some c → cs[j]? = some v → DR (fun b => b < w.heap.size) w c v
theorem cell_lt2 {w : World} {a : Addr} {v : Value} (h : w.cell? a = some v) : a.block < w.heap.size := by
  unfold World.cell? at h
  split at h
  · rename_i e; exact (Array.getElem?_eq_some_iff.1 e).1
  · cases h
theorem RdRow.v {w : World} (v : Value) : RdRow w [.v v] [v] := ⟨rfl, fun j c u hc hu => by
  cases j with
  | zero => simp at hc hu; subst hc; subst hu; exact .v _
  | succ j => simp at hc⟩
theorem RdRow.one {w : World} {x : D} {v : Value} (h : DR (fun b => b < w.heap.size) w x v) : RdRow w [x] [v] := ⟨rfl, fun j c u hc hu => by
  cases j with
  | zero => simp at hc hu; subst hc; subst hu; exact h
  | succ j => simp at hc⟩
theorem RdRow.nil {w : World} : RdRow w [] [] := ⟨rfl, fun j c u hc hu => by simp at hc⟩
theorem RdRow.app {w : World} {r r' : List D} {cs cs' : List Value} (h : RdRow w r cs) (h' : RdRow w r' cs') : RdRow w (r ++ r') (cs ++ cs') := by
  refine ⟨by simp [h.1, h'.1], fun j c u hc hu => ?_⟩
  by_cases hj : j < r.length
  · rw [List.getElem?_append_left hj] at hc
    rw [List.getElem?_append_left (by rw [← h.1]; exact hj)] at hu
    exact h.2 j c u hc hu
  · rw [List.getElem?_append_right (by omega)] at hc
    rw [List.getElem?_append_right (by rw [← h.1]; omega), ← h.1] at hu
    exact h'.2 _ c u hc hu
/-- A struct's first field, and the rest. -/
theorem RdRow.cut {w : World} {r r' : List D} {cs : List Value} {n : Nat} (h : RdRow w r ((cs.drop 0).take n)) (h' : RdRow w r' (cs.drop n)) : RdRow w (r ++ r') cs := by
  have := h.app h'
  rwa [List.drop_zero, List.take_append_drop] at this
theorem RdRow.agg {ι : Iota} {w : World} {r : List D} {cs : List Value} (h : RdRow w r cs) : VR ι (fun b => b < w.heap.size) w (.agg (r.map .d)) (.agg cs.toArray) := by
  refine .agg _ cs (by simp [h.1]) fun i c v hc hv => ?_
  simp only [List.getElem?_map, Option.map_eq_some_iff] at hc
  obtain ⟨x, hx, rfl⟩ := hc
  exact .d (h.2 i x v hx hv)
theorem RdRow.cell {ι : Iota} {w : World} {x : D} {v : Value} (h : RdRow w [x] [v]) : VR ι (fun b => b < w.heap.size) w (.d x) v := .d (h.2 0 x v rfl rfl)

section
variable {H : Type} {enc : TypeId × Value → H} {w : World} {base : Nat} {spare : Nat → Bool} {held : Bool}
abbrev Rd (enc : TypeId × Value → H) (w : World) (base : Nat) (spare : Nat → Bool) (held : Bool) (t : TypeId) (S : List D → Prop) : Prop :=
  ∀ {fuel : Nat} {cs : List Value} {x : DataW H × List MemPlace}, DataW.trod enc Tryz.prog w base spare held fuel t cs = some x → ∃ r, S r ∧ RdRow w r cs
def i64 (n : Int) : Prop := -9223372036854775808 ≤ n ∧ n ≤ 9223372036854775807
theorem rdc_slice {k : Nat} {t e : TypeId} {S : List D → Prop} (ht : Tryz.prog.underlying t = some (.slice e)) (hk : Tryz.prog.cellsOf e = k) (hk0 : 0 < k) (hrd : Rd enc w base spare held e (fun r => S r ∧ r.length = k)) :
    Rd enc w base spare held t (fun r => ∃ rows, rows.length ≤ maxLen ∧ (∀ r ∈ rows, S r) ∧ r = [.sl k rows]) := fun {fuel cs x} h => by
  rcases open_slice ht h with ⟨hc, _⟩ | ⟨a, len, cap, m, n, DD, Q, hc, _, hl, hm, hmm, _, hi⟩
  · subst hc
    exact ⟨_, ⟨[], Nat.zero_le _, fun _ h => by simp at h, rfl⟩, .one (.sl k [] none 0 (fun _ _ => undef) (Nat.le_refl _) (fun i r j c h => by simp at h) (fun i r j c h => by simp at h))⟩
  · have hlm : len ≤ m := by rw [hmm]; split <;> omega
    rw [hk] at hi
    obtain ⟨f, hf⟩ := choose_lt (α := List Value × List D) (p := fun i p => w.cells? base (a.add (i * k)) k = some p.1 ∧ S p.2 ∧ p.2.length = k ∧ RdRow w p.2 p.1) (n := len) (fun i hi' => by
      obtain ⟨cs', h1, h2⟩ := hi i (by omega)
      obtain ⟨r, ⟨hs, hl⟩, hr⟩ := hrd h2
      exact ⟨(cs', r), h1, hs, hl, hr⟩)
    subst hc
    refine ⟨_, ⟨(List.range len).map fun i => (f i).2, by simp; omega, fun r hr => ?_, rfl⟩, ?_⟩
    · obtain ⟨i, hi', rfl⟩ := List.mem_map.1 hr
      exact (hf i (List.mem_range.1 hi')).2.1
    · refine .one ?_
      have hget : ∀ (i : Nat) r, ((List.range len).map fun i => (f i).2)[i]? = some r → i < len ∧ r = (f i).2 := fun i r hr => by
        simp only [List.getElem?_map, Option.map_eq_some_iff] at hr
        obtain ⟨i', hi', rfl⟩ := hr
        obtain ⟨hlt, e1⟩ := List.getElem?_eq_some_iff.1 hi'
        simp at hlt e1
        subst e1
        exact ⟨hlt, rfl⟩
      have key : ∀ (i : Nat) r j c, ((List.range len).map fun i => (f i).2)[i]? = some r → r[j]? = some c → i < len ∧ j < k ∧ (f i).2[j]? = some c ∧ ∃ v, (f i).1[j]? = some v := fun i r j c hr hc => by
        obtain ⟨hlt, rfl⟩ := hget i r hr
        obtain ⟨h1, h2, h3, h4⟩ := hf i hlt
        have hj : j < k := by rw [← h3]; exact (List.getElem?_eq_some_iff.1 hc).1
        exact ⟨hlt, hj, hc, (f i).1[j]'(by rw [← h4.1, h3]; exact hj), List.getElem?_eq_getElem _⟩
      have hlen : ((List.range len).map fun i => (f i).2).length = len := by simp
      rw [show (Value.slice (some a) len cap) = .slice (some a) ((List.range len).map fun i => (f i).2).length cap by rw [hlen]]
      refine .sl k _ (some a) cap (fun i j => ((f i).1[j]?).getD undef) (by rw [hlen]; exact hl) (fun i r j c hr hc => ?_) (fun i r j c hr hc => ?_)
      · obtain ⟨hlt, hj, hc', v, hv⟩ := key i r j c hr hc
        obtain ⟨_, _, hcell⟩ := World.cells?_some (hf i hlt).1
        have hsp : a.spot = none := by
          obtain ⟨_, hl0, hc0⟩ := World.cells?_some (hf 0 (by omega)).1
          have h0 := hc0 0 hk0
          rw [List.getElem?_eq_getElem (by rw [hl0]; exact hk0)] at h0
          cases hs : a.spot with
          | none => rfl
          | some s =>
            exfalso
            simp [Addr.add, World.cell?, hs] at h0
            split at h0 <;> simp at h0
        obtain ⟨b, off, sp⟩ := a
        simp only at hsp
        subst hsp
        have h1 := hcell j hj
        rw [hv] at h1
        have e : (Addr.add (Addr.add ⟨b, off, none⟩ (i * k)) j) = ⟨b, off + i * k + j, none⟩ := by
          simp only [Addr.add]
          by_cases h1 : i * k = 0 <;> by_cases h2 : j = 0 <;> simp [h1, h2]
        rw [e] at h1
        exact ⟨b, off, rfl, cell_lt2 h1, by rw [hv]; exact h1⟩
      · obtain ⟨hlt, hj, hc', v, hv⟩ := key i r j c hr hc
        simp only [hv, Option.getD_some]
        exact (hf i hlt).2.2.2.2 j c v hc' hv
theorem Rd.mono {t : TypeId} {S S' : List D → Prop} (h : Rd enc w base spare held t S) (hs : ∀ r, S r → S' r) : Rd enc w base spare held t S' := fun h' => by
  obtain ⟨r, h1, h2⟩ := h h'
  exact ⟨r, hs _ h1, h2⟩
/-- Rows that are all told by something are told by a list of such. -/
theorem rows_of {α : Type} {row : α → List D} {Q : α → Prop} : ∀ {rows : List (List D)}, (∀ r ∈ rows, ∃ x, Q x ∧ r = row x) → ∃ xs : List α, (∀ x ∈ xs, Q x) ∧ rows = xs.map row
  | [], _ => ⟨[], fun _ h => by simp at h, rfl⟩
  | r :: rows, h => by
    obtain ⟨x, hx, rfl⟩ := h r (by simp)
    obtain ⟨xs, hxs, rfl⟩ := rows_of (rows := rows) (fun r hr => h r (by simp [hr]))
    exact ⟨x :: xs, fun y hy => by
      rcases List.mem_cons.1 hy with rfl | hy
      · exact hx
      · exact hxs y hy, rfl⟩
/-- A slice of records. -/
theorem rdc_recs {α : Type} {k : Nat} {t e : TypeId} {row : α → List D} {Q : α → Prop} (ht : Tryz.prog.underlying t = some (.slice e)) (hk : Tryz.prog.cellsOf e = k) (hk0 : 0 < k) (hl : ∀ x, (row x).length = k) (hrd : Rd enc w base spare held e (fun r => ∃ x, Q x ∧ r = row x)) :
    Rd enc w base spare held t (fun r => ∃ xs : List α, xs.length ≤ maxLen ∧ (∀ x ∈ xs, Q x) ∧ r = [.sl k (xs.map row)]) :=
  Rd.mono (rdc_slice (S := fun r => ∃ x, Q x ∧ r = row x) ht hk hk0 (Rd.mono hrd (by rintro r ⟨x, hx, e⟩; exact ⟨⟨x, hx, e⟩, by rw [e, hl]⟩))) (by
    rintro r ⟨rows, h1, h2, h3⟩
    obtain ⟨xs, h4, rfl⟩ := rows_of h2
    exact ⟨xs, by simpa using h1, h4, h3⟩)
set_option maxRecDepth 100000 in
/-- Top: an argument of one cell. -/
theorem rdt_slice {t e : TypeId} {S : List D → Prop} {r : Reach} {b0 : Nat} {v : Value} {d : DataW H} {p : List MemPlace} (ht : Tryz.prog.underlying t = some (.slice e)) (hv : Value.okWide Tryz.prog w r b0 t v) (h : DataW.Trod enc Tryz.prog w base spare held t v d p) (hrd : Rd enc w base spare held t S) : ∃ r, S r ∧ RdRow w r [v] := by
  obtain ⟨a, len, cap, rfl⟩ := okWide_slice ht hv
  obtain ⟨fuel, hf⟩ := h
  exact hrd hf
end
end Go.Proofs.YtofakjlamoigcaaGreatDoor
end

section
namespace Go.Proofs.YtofakjlamoigcaaGreatDoor
set_option linter.unusedSimpArgs false
set_option linter.unusedVariables false
open Go.RowKit Go.ChangeShapes Go.WideShapes Go.Deep

section
variable {H : Type} {enc : TypeId × Value → H} {w : World} {base : Nat} {spare : Nat → Bool} {held : Bool}
theorem rdc_u8 : Rd enc w base spare held 5 (fun r => ∃ n, (0 ≤ n ∧ n ≤ 255) ∧ r = [D.v (.int .u8 n)]) := fun h => by
  obtain ⟨n, e, _, hw⟩ := DataW.trod_int Tryz.underlying5 h
  subst e
  refine ⟨_, ⟨n, ?_, rfl⟩, .v _⟩
  simp only [Lit.wf, Bool.and_eq_true, decide_eq_true_eq] at hw
  exact hw
theorem rdc_bytes : Rd enc w base spare held 22 (fun r => ∃ xs : List Int, xs.length ≤ maxLen ∧ (∀ x ∈ xs, 0 ≤ x ∧ x ≤ 255) ∧ r = [.sl 1 (xs.map (fun n : Int => [D.v (.int .u8 n)]))]) :=
  rdc_recs (row := (fun n : Int => [D.v (.int .u8 n)])) (k := 1) (by kernel_rfl) (by kernel_rfl) (by decide) (fun _ => rfl) (Rd.mono rdc_u8 (by rintro r ⟨n, hn, rfl⟩; exact ⟨n, hn, rfl⟩))
end
end Go.Proofs.YtofakjlamoigcaaGreatDoor
end

section
namespace Go.Proofs.YtofakjlamoigcaaGreatDoor
set_option linter.unusedSimpArgs false
set_option linter.unusedVariables false
open Go Go.RowKit
attribute [local irreducible] AL AD AW OpOk Le AC thenQ blockQ EndQ

section
variable {P : Program} {o : Oper} {A : Operand → AV} {H : Heap} {new : Nat} {t t' : TypeId} {x y : Operand} {a : List UInt8}
theorem Ok.sneSame [Mode] (ho : o.op = .binOp .neq t x y t') (hx : A x = Str a) (hy : A y = Str a) : OpOk P o A [] H new (Bo false) [] := by
  have := Ok.sneS (P := P) (H := H) (new := new) ho hx hy
  rwa [decide_eq_false (by simp)] at this
end
theorem wrA_iff [Mode] {fs : List Fi} : wrA fs = true ↔ fs.all wrF = true ∧ fs.length ≤ 500 := by simp [wrA]
/-- ChainAfter and TraceText: a code and what they answer. -/
def caC (fs : List Fi) : Int := if wrA fs = true then chA 1 fs else 0
def wrC (fs : List Fi) : Int := if wrA fs = true then 0 else 2
theorem sChainAfter_ac [Mode] (fs : List Fi) (hn : fs.length ≤ 100000000) : AC Tryz.prog 11 [FL fs] H0 (.tup [I (caC fs), I (wrC fs)]) H0 := by
  have hA := l28All_ac fs hn
  cases hw : wrA fs with
  | false =>
    rw [hw] at hA
    have e1 : caC fs = 0 := by simp [caC, hw]
    have e2 : wrC fs = 2 := by simp [wrC, hw]
    rw [e1, e2]
    refine AC.of_body 0 Tryz.func11 rfl (fun l h => absurd rfl h) (fun C hC => ?_)
    have hD : ∀ l, ¬ C.D0 l := fun l h => (hC l).1 h rfl
    simp only [startFr, Tryz.ntmps11, List.length_cons, List.length_nil, Nat.reduceAdd, Nat.reduceSub, List.replicate_succ, List.replicate_zero, List.cons_append, List.nil_append]
    repeat' (first | ((first | apply Ba | (apply Bb; (· rfl); (· rfl)) | (apply Bc; (· exact nxE)) | (apply Bd; (· rfl); (· rfl); (· exact nxE))); (· first | exact Kz rfl rfl (hA) (Ad An) | exact Ok.seqS rfl rfl rfl | exact Ok.sneS rfl rfl rfl | exact Ok.slen rfl rfl | exact Ok.sjoin rfl rfl rfl (by simp only [List.length_append, List.length_cons, List.length_nil]; omega) | exact Ok.pe)) | ((first | apply Ca | (apply Cb; (· exact nxE))); (· first | exact Ok.e0)) | refine Sx ?_ | (refine Sy (fun h => ?_) (fun h => ?_) <;> try (exfalso; omega; done)) | refine Sz (fun h => ?_) (fun h => ?_))
    refine Yb ?_
    (apply Le.headZ (hs := []) [] rfl)
    all_goals (try dsimp only [srcs])
    (case' hfr => (repeat' (first | refine La ?_ ?_ | exact Lc | refine Lo ?_ | refine ⟨⟨_, rfl, ?_⟩, ?_⟩ | refine Lx ?_)))
    all_goals (first | exact Ld | exact trivial | (rfl))
  | true =>
    rw [hw] at hA
    have e1 : caC fs = chA 1 fs := by simp [caC, hw]
    have e2 : wrC fs = 0 := by simp [wrC, hw]
    rw [e1, e2]
    obtain ⟨hall, hl⟩ := wrA_iff.1 hw
    refine AC.of_body 0 Tryz.func11 rfl (fun l h => absurd rfl h) (fun C hC => ?_)
    have hD : ∀ l, ¬ C.D0 l := fun l h => (hC l).1 h rfl
    simp only [startFr, Tryz.ntmps11, List.length_cons, List.length_nil, Nat.reduceAdd, Nat.reduceSub, List.replicate_succ, List.replicate_zero, List.cons_append, List.nil_append]
    repeat' (first | ((first | apply Ba | (apply Bb; (· rfl); (· rfl)) | (apply Bc; (· exact nxE)) | (apply Bd; (· rfl); (· rfl); (· exact nxE))); (· first | exact Kz rfl rfl (hA) (Ad An) | exact Ok.seqS rfl rfl rfl | exact Ok.sneS rfl rfl rfl | exact Ok.slen rfl rfl | exact Ok.sjoin rfl rfl rfl (by simp only [List.length_append, List.length_cons, List.length_nil]; omega) | exact Ok.pe)) | ((first | apply Ca | (apply Cb; (· exact nxE))); (· first | exact Ok.e0)) | refine Sx ?_ | (refine Sy (fun h => ?_) (fun h => ?_) <;> try (exfalso; omega; done)) | refine Sz (fun h => ?_) (fun h => ?_))
    refine AW.loop (X := {k : Nat // k ≤ fs.length}) (fun k => ⟨[FL fs, Oo, Oo, Oo, I (chA 1 (fs.take (k.1 : Nat))), I (k.1 : Nat), Oo, Oo, Oo, Oo, Oo, Oo, Oo, Oo, Oo, Oo, Oo, Oo, Oo, Oo, Oo, Oo], heapL [], 900⟩) (fun k => fs.length - k.1) ⟨0, Nat.zero_le _⟩ ?_ (fun k => ?_)
    ·
      (apply Le.headZ [] rfl)
      all_goals (try dsimp only [srcs])
      (case' hfr | hob => (repeat' (first | refine La ?_ ?_ | exact Lc | refine Lo ?_ | refine ⟨⟨_, rfl, ?_⟩, ?_⟩ | refine Lx ?_)))
      all_goals (first | (rfl) | exact Ld)
    obtain ⟨k, hk⟩ := k
    simp only
    by_cases hlt : k < fs.length
    · obtain ⟨f, hf⟩ : ∃ f, fs[k]? = some f := ⟨fs[k], List.getElem?_eq_getElem hlt⟩
      have hrow : (fs.map Fi.row)[((k : Nat) : Int).toNat]? = some [DI f.e, DI f.n, DI f.t] := row_get hf
      have hwk : (fs.take k).all wrF = true := List.all_eq_true.2 fun x hx => List.all_eq_true.1 hall x (List.mem_of_mem_take hx)
      have hbd := chA_bd (c := 1) (by decide) (by decide) hwk
      have hs2 : chA 1 (fs.take (k + 1)) = nxI (chA 1 (fs.take k)) f := by rw [List.take_add_one, hf]; exact chA_snoc
      have hN := l28Next_ac (chA 1 (fs.take k)) f hbd.1 hbd.2 (List.all_eq_true.1 hall f (List.mem_of_getElem? hf))
      generalize chA 1 (fs.take k) = ch at *
      repeat' (first | ((first | apply Ba | (apply Bb; (· rfl); (· rfl)) | (apply Bc; (· exact nxE)) | (apply Bd; (· rfl); (· rfl); (· exact nxE))); (· first | exact Kz rfl rfl (hN) (Ad (Aa (Ad (Ad (Ad An))) An)) | exact Ok.seqS rfl rfl rfl | exact Ok.sneS rfl rfl rfl | exact Ok.slen rfl rfl | exact Ok.sjoin rfl rfl rfl (by simp only [List.length_append, List.length_cons, List.length_nil]; omega) | exact Ok.pe)) | ((first | apply Ca | (apply Cb; (· exact nxE))); (· first | exact Ok.e0)) | refine Sx ?_ | (refine Sy (fun h => ?_) (fun h => ?_) <;> try (exfalso; omega; done)) | refine Sz (fun h => ?_) (fun h => ?_))
      refine ⟨⟨k + 1, by omega⟩, ?_, by simp only; omega⟩
      (apply Le.headZ [] rfl)
      all_goals (try dsimp only [srcs])
      (case' hfr | hob => (repeat' (first | refine La ?_ ?_ | exact Lc | refine Lo ?_ | refine ⟨⟨_, rfl, ?_⟩, ?_⟩ | refine Lx ?_)))
      all_goals (first | ((rw [hs2]; done)) | exact Ld)
    ·
      obtain rfl : k = fs.length := by omega
      rw [List.take_length]
      repeat' (first | ((first | apply Ba | (apply Bb; (· rfl); (· rfl)) | (apply Bc; (· exact nxE)) | (apply Bd; (· rfl); (· rfl); (· exact nxE))); (· first | exact Ok.seqS rfl rfl rfl | exact Ok.sneS rfl rfl rfl | exact Ok.slen rfl rfl | exact Ok.sjoin rfl rfl rfl (by simp only [List.length_append, List.length_cons, List.length_nil]; omega) | exact Ok.pe)) | ((first | apply Ca | (apply Cb; (· exact nxE))); (· first | exact Ok.e0)) | refine Sx ?_ | (refine Sy (fun h => ?_) (fun h => ?_) <;> try (exfalso; omega; done)) | refine Sz (fun h => ?_) (fun h => ?_))
      refine Yb ?_
      (apply Le.headZ (hs := []) [] rfl)
      all_goals (try dsimp only [srcs])
      (case' hfr => (repeat' (first | refine La ?_ ?_ | exact Lc | refine Lo ?_ | refine ⟨⟨_, rfl, ?_⟩, ?_⟩ | refine Lx ?_)))
      all_goals (first | exact Ld | exact trivial | (rfl))
end Go.Proofs.YtofakjlamoigcaaGreatDoor
end

section
namespace Go.Proofs.YtofakjlamoigcaaGreatDoor
set_option linter.unusedSimpArgs false
set_option linter.unusedVariables false
open Go Go.RowKit
attribute [local irreducible] AL AD AW OpOk Le AC thenQ blockQ EndQ

abbrev SL (ss : List (List UInt8)) : AV := .d (.sl 1 (stR ss))
abbrev SO (ss : List (List UInt8)) : AObj := dobj 1 (stR ss)
theorem stR_app [Mode] (a b : List (List UInt8)) : stR (a ++ b) = stR a ++ stR b := by simp [stR]
theorem stR_get [Mode] {ss : List (List UInt8)} {i : Nat} {s : List UInt8} (h : ss[i]? = some s) : (stR ss)[i]? = some [StrD s] := by simp [stR, h]
theorem stR_getI [Mode] {ss : List (List UInt8)} {i : Nat} {s : List UInt8} (h : ss[i]? = some s) : (stR ss)[((i : Nat) : Int).toNat]? = some [StrD s] := by rw [Int.toNat_natCast]; exact stR_get h
set_option maxHeartbeats 2000000 in
theorem l01Split_ac [Mode] (l : List UInt8) (c : UInt8) (hl : l.length ≤ 100000000) : AC Tryz.prog 68 [Str l, Byt c] H0 (own1 1 (spl c l).length) (hp1 (SO (spl c l))) := by
  rw [← stS_end]
  refine AC.of_body 0 Tryz.func68 rfl (fun l h => absurd rfl h) (fun C hC => ?_)
  have hD : ∀ l, ¬ C.D0 l := fun l h => (hC l).1 h rfl
  simp only [startFr, Tryz.ntmps68, List.length_cons, List.length_nil, Nat.reduceAdd, Nat.reduceSub, List.replicate_succ, List.replicate_zero, List.cons_append, List.nil_append]
  repeat' (first | ((first | apply Ba | (apply Bb; (· rfl); (· rfl)) | (apply Bc; (· exact nxE)) | (apply Bd; (· rfl); (· rfl); (· exact nxE))); (· first | exact Ok.seqS rfl rfl rfl | exact Ok.sneS rfl rfl rfl | exact Ok.slen rfl rfl | exact Ok.pe)) | ((first | apply Ca | (apply Cb; (· exact nxE))); (· first | exact Ok.e0)) | refine Sx ?_ | (refine Sy (fun h => ?_) (fun h => ?_) <;> try (exfalso; omega; done)) | refine Sz (fun h => ?_) (fun h => ?_))
  refine AW.loop (X := {k : Nat // k ≤ l.length + 1}) (fun k => ⟨[Str l, Byt c, Oo, Oo, Oo, .own 1 ⟨0, []⟩ 0 (stS c l (k.1 : Nat)).2.length, I ((stS c l (k.1 : Nat)).1 : Nat), I (k.1 : Nat), Oo, Oo, Oo, Oo, Oo, Oo, Oo, Oo, Oo, Oo, Oo, Oo, Oo, Oo, Oo, Oo, Oo, Oo, Oo, Oo, Oo, Oo, Oo, Oo, Oo, Oo, Oo, Oo], heapL [(⟨0, []⟩, ⟨0, []⟩, SO (stS c l k.1).2)], 900⟩) (fun k => l.length + 1 - k.1) ⟨0, Nat.zero_le _⟩ ?_ (fun k => ?_)
  ·
    (apply Le.headZ [_] rfl)
    all_goals (try dsimp only [srcs])
    (case' hfr | hob => (repeat' (first | refine La ?_ ?_ | exact Lc | refine Lo ?_ | refine ⟨⟨_, rfl, ?_⟩, ?_⟩ | refine Lx ?_)))
    all_goals (first | (rfl) | exact Ld)
  obtain ⟨k, hk⟩ := k
  simp only
  have hle := stS_le c l k
  have hsl := stS_len c l k
  have hol : (stR (stS c l k).2).length = (stS c l k).2.length := stR_len _
  by_cases hlt : k < l.length + 1
  · by_cases hkl : k = l.length
    · have hs : stS c l (k + 1) = (k + 1, (stS c l k).2 ++ [(l.drop (stS c l k).1).take (k - (stS c l k).1)]) := by rw [stS, if_pos (.inl hkl)]
      repeat' (first | ((first | apply Ba | (apply Bb; (· rfl); (· rfl)) | (apply Bc; (· exact nxE)) | (apply Bd; (· rfl); (· rfl); (· exact nxE))); (· first | exact Ok.sBoth rfl rfl rfl rfl rfl rfl (by omega) (by omega) | exact Ok.seqS rfl rfl rfl | exact Ok.sneS rfl rfl rfl | exact Ok.slen rfl rfl | exact Ok.append1 (row := [StrD ((l.drop (stS c l k).1).take (k - (stS c l k).1))]) rfl rfl (by decide) rfl rfl hol rfl rfl rfl (by rfl) (by omega) (by omega) | exact Ok.pe)) | ((first | apply Ca | (apply Cb; (· exact nxE))); (· first | exact Ok.append1 (row := [StrD ((l.drop (stS c l k).1).take (k - (stS c l k).1))]) rfl rfl (by decide) rfl rfl hol rfl rfl rfl (by rfl) (by omega) (by omega) | exact Ok.e0)) | refine Sx ?_ | (refine Sy (fun h => ?_) (fun h => ?_) <;> try (exfalso; omega; done)) | refine Sz (fun h => ?_) (fun h => ?_))
      refine ⟨⟨k + 1, by omega⟩, ?_, by simp only; omega⟩
      (apply Le.headZ [_] rfl)
      all_goals (try dsimp only [srcs])
      (case' hfr | hob => (repeat' (first | refine La ?_ ?_ | exact Lc | refine Lo ?_ | refine ⟨⟨_, rfl, ?_⟩, ?_⟩ | refine Lx ?_)))
      all_goals (first | ((first | (rw [hs, List.length_append, List.length_singleton]; done) | (rw [hs]; rfl) | (rw [hs, stR_app]; rfl))) | exact Ld)
    · obtain ⟨x, hx⟩ : ∃ x, l[k]? = some x := ⟨l[k], List.getElem?_eq_getElem (by omega)⟩
      have hx' : l[((k : Nat) : Int).toNat]? = some x := by rw [Int.toNat_natCast]; exact hx
      by_cases hc : x = c
      · have hs : stS c l (k + 1) = (k + 1, (stS c l k).2 ++ [(l.drop (stS c l k).1).take (k - (stS c l k).1)]) := by rw [stS, if_pos (.inr (by rw [hx, hc]))]
        subst hc
        repeat' (first | ((first | apply Ba | (apply Bb; (· rfl); (· rfl)) | (apply Bc; (· exact nxE)) | (apply Bd; (· rfl); (· rfl); (· exact nxE))); (· first | exact Ok.sidx rfl rfl rfl (by omega) hx' | exact Ok.sBoth rfl rfl rfl rfl rfl rfl (by omega) (by omega) | exact Ok.seqS rfl rfl rfl | exact Ok.sneS rfl rfl rfl | exact Ok.slen rfl rfl | exact Ok.append1 (row := [StrD ((l.drop (stS x l k).1).take (k - (stS x l k).1))]) rfl rfl (by decide) rfl rfl hol rfl rfl rfl (by rfl) (by omega) (by omega) | exact Ok.pe)) | ((first | apply Ca | (apply Cb; (· exact nxE))); (· first | exact Ok.append1 (row := [StrD ((l.drop (stS x l k).1).take (k - (stS x l k).1))]) rfl rfl (by decide) rfl rfl hol rfl rfl rfl (by rfl) (by omega) (by omega) | exact Ok.e0)) | refine Sx ?_ | (refine Sy (fun h => ?_) (fun h => ?_) <;> try (exfalso; omega; done)) | refine Sz (fun h => ?_) (fun h => ?_))
        refine ⟨⟨k + 1, by omega⟩, ?_, by simp only; omega⟩
        (apply Le.headZ [_] rfl)
        all_goals (try dsimp only [srcs])
        (case' hfr | hob => (repeat' (first | refine La ?_ ?_ | exact Lc | refine Lo ?_ | refine ⟨⟨_, rfl, ?_⟩, ?_⟩ | refine Lx ?_)))
        all_goals (first | ((first | (rw [hs, List.length_append, List.length_singleton]; done) | (rw [hs]; rfl) | (rw [hs, stR_app]; rfl))) | exact Ld)
      · have hs : stS c l (k + 1) = stS c l k := by rw [stS, if_neg (by rw [hx]; simp [hc]; exact hkl)]
        have hne : ¬ ((x.toNat : Int) = c.toNat) := fun e => hc (UInt8.toNat_inj.1 (by omega))
        repeat' (first | ((first | apply Ba | (apply Bb; (· rfl); (· rfl)) | (apply Bc; (· exact nxE)) | (apply Bd; (· rfl); (· rfl); (· exact nxE))); (· first | exact Ok.sidx rfl rfl rfl (by omega) hx' | exact Ok.seqS rfl rfl rfl | exact Ok.sneS rfl rfl rfl | exact Ok.slen rfl rfl | exact Ok.pe)) | ((first | apply Ca | (apply Cb; (· exact nxE))); (· first | exact Ok.e0)) | refine Sx ?_ | (refine Sy (fun h => ?_) (fun h => ?_) <;> try (exfalso; omega; done)) | refine Sz (fun h => ?_) (fun h => ?_))
        refine ⟨⟨k + 1, by omega⟩, ?_, by simp only; omega⟩
        (apply Le.headZ [_] rfl)
        all_goals (try dsimp only [srcs])
        (case' hfr | hob => (repeat' (first | refine La ?_ ?_ | exact Lc | refine Lo ?_ | refine ⟨⟨_, rfl, ?_⟩, ?_⟩ | refine Lx ?_)))
        all_goals (first | ((rw [hs]; done)) | exact Ld)
  ·
    obtain rfl : k = l.length + 1 := by omega
    repeat' (first | ((first | apply Ba | (apply Bb; (· rfl); (· rfl)) | (apply Bc; (· exact nxE)) | (apply Bd; (· rfl); (· rfl); (· exact nxE))); (· first | exact Ok.seqS rfl rfl rfl | exact Ok.sneS rfl rfl rfl | exact Ok.slen rfl rfl | exact Ok.pe)) | ((first | apply Ca | (apply Cb; (· exact nxE))); (· first | exact Ok.e0)) | refine Sx ?_ | (refine Sy (fun h => ?_) (fun h => ?_) <;> try (exfalso; omega; done)) | refine Sz (fun h => ?_) (fun h => ?_))
    refine Ya ?_
    (apply Le.head [(⟨0, []⟩, _, _)])
    (case' hfr | hob => (repeat' (first | refine La ?_ ?_ | exact Lc | refine Lo ?_ | refine ⟨⟨_, rfl, ?_⟩, ?_⟩ | refine Lx ?_)))
    all_goals (first | exact Ld | (rfl))
end Go.Proofs.YtofakjlamoigcaaGreatDoor
end

section
namespace Go.Proofs.YtofakjlamoigcaaGreatDoor
set_option linter.unusedSimpArgs false
set_option linter.unusedVariables false
open Go Go.RowKit

theorem var_below [Mode] {w w' : World} {P : Program} {name : String} {cs : Array Value} (h : w.var? P name = some cs) (hb : Below w.heap.size w w') : w'.var? P name = some cs := by
  unfold World.var? at h ⊢
  rw [Option.bind_eq_some_iff] at h ⊢
  obtain ⟨g, h1, h2⟩ := h
  refine ⟨g, h1, ?_⟩
  have hlt : g < w.heap.size := by
    refine Nat.lt_of_not_le fun hn => ?_
    have hb : w.heap[g]? = none := by simp [hn]
    simp [hb] at h2
  rw [hb.block _ hlt]; exact h2
theorem decimal_calls [Mode] (n : Int) (h0 : -9223372036854775808 ≤ n) (h1 : n ≤ 9223372036854775807) (w : World) (ht : Lib.TabIs Tryz.prog w "internal/strconv.uint64pow10" .u64 Lib.pow10Tab) :
    Calls Tryz.prog 85 #[.int .i64 n] w fun e w' => e = .returned (.string ⟨(Lib.itoa n).toArray⟩) ∧ Below w.heap.size w w' := by
  go_enter Tryz.func85, Tryz.ntmps85
  go_wp2_with (go_at_call 96; refine (Tryz.strconv_FormatInt_10 n h0 h1 w ht).mono ?_; rintro e w' ⟨rfl, k, os, rfl⟩)
  go_ret
  exact ⟨rfl, Lib.below_grow _ _ (Nat.le_refl _) _ _⟩
set_option maxRecDepth 8000 in
set_option maxHeartbeats 1600000 in
theorem readNumber_calls [Mode] (l : List UInt8) (hl : l.length ≤ 100000000) (w : World) (ht : Lib.TabIs Tryz.prog w "internal/strconv.uint64pow10" .u64 Lib.pow10Tab)
    (e1 : ∃ t p, w.var? Tryz.prog "strconv.ErrSyntax" = some #[.iface t p]) (e2 : ∃ t p, w.var? Tryz.prog "strconv.ErrRange" = some #[.iface t p]) :
    Calls Tryz.prog 67 #[.string ⟨l.toArray⟩] w fun e w' => e = .returned (.tuple #[.int .i64 (rdN l).1, .bool (rdN l).2]) ∧ Below w.heap.size w w' := by
  have hsz := size_mk l
  cases h : Lib.parseIntB 64 l with
  | ok v =>
    have hbd := Lib.parseIntB_bounds (B := 64) (l := l) (v := v) h
    have h' : Lib.parseIntB 64 (ByteArray.mk l.toArray).data.toList = .ok v := by simpa using h
    by_cases hq : Lib.itoa v = l
    · have hr : rdN l = (v, true) := by unfold rdN; rw [h]; simp [hq]
      rw [hr]
      go_enter Tryz.func67, Tryz.ntmps67
      go_wp2_with (first
        | (go_at_call 89; refine (Tryz.strconv_ParseInt_10_at64_ok ⟨l.toArray⟩ (by rw [hsz]; omega) v h' w).mono ?_; rintro e w1 ⟨rfl, hw1⟩; have hb1 : Below w.heap.size w w1 := (by rcases hw1 with rfl | ⟨t, rfl⟩; (· exact Below.refl _ _); (· exact Lib.bytesWorld_below _ _ _)); clear hw1)
        | (go_at_call 85; refine (decimal_calls v (by omega) (by omega) _ (var_below ht hb1)).mono ?_; rintro e w2 ⟨rfl, hb2⟩))
      go_ret2
      exact ⟨rfl, hb1.trans (hb2.mono hb1.size)⟩
    · have hr : rdN l = (0, false) := by unfold rdN; rw [h]; simp [hq]
      rw [hr]
      have hq2 : (Lib.itoa v == l) = false := by simp [hq]
      go_enter Tryz.func67, Tryz.ntmps67
      go_wp2_with (first
        | (go_at_call 89; refine (Tryz.strconv_ParseInt_10_at64_ok ⟨l.toArray⟩ (by rw [hsz]; omega) v h' w).mono ?_; rintro e w1 ⟨rfl, hw1⟩; have hb1 : Below w.heap.size w w1 := (by rcases hw1 with rfl | ⟨t, rfl⟩; (· exact Below.refl _ _); (· exact Lib.bytesWorld_below _ _ _)); clear hw1)
        | (go_at_call 85; refine (decimal_calls v (by omega) (by omega) _ (var_below ht hb1)).mono ?_; rintro e w2 ⟨rfl, hb2⟩))
      go_ret2
      exact ⟨rfl, hb1.trans (hb2.mono hb1.size)⟩
  | «syntax» =>
    obtain ⟨tp, p, hv⟩ := e1
    have hr : rdN l = (0, false) := by unfold rdN; rw [h]
    rw [hr]
    have h' : Lib.parseIntB 64 (ByteArray.mk l.toArray).data.toList = .«syntax» := by simpa using h
    have hcell : w.cell? ⟨1, 0, none⟩ = some (.iface tp p) := by
      refine (World.var?_cell ?h hv 0).trans ?t
      case h => kernel_rfl
      case t => simp
    go_enter Tryz.func67, Tryz.ntmps67
    go_wp2_with (go_at_call 89; refine (Tryz.strconv_ParseInt_10_at64_syntax ⟨l.toArray⟩ (by rw [hsz]; omega) h' _ w hcell (.inr ⟨_, _, rfl⟩)).mono ?_; rintro e w1 ⟨N, rfl, _, _, hb1⟩)
    go_ret2
    exact ⟨rfl, hb1⟩
  | range =>
    obtain ⟨tp, p, hv⟩ := e2
    have hr : rdN l = (0, false) := by unfold rdN; rw [h]
    rw [hr]
    have h' : Lib.parseIntB 64 (ByteArray.mk l.toArray).data.toList = .range := by simpa using h
    have hcell : w.cell? ⟨2, 0, none⟩ = some (.iface tp p) := by
      refine (World.var?_cell ?h hv 0).trans ?t
      case h => kernel_rfl
      case t => simp
    go_enter Tryz.func67, Tryz.ntmps67
    go_wp2_with (go_at_call 89; refine (Tryz.strconv_ParseInt_10_at64_range ⟨l.toArray⟩ (by rw [hsz]; omega) h' _ w hcell (.inr ⟨_, _, rfl⟩)).mono ?_; rintro e w1 ⟨N, rfl, _, _, hb1⟩)
    go_ret2
    exact ⟨rfl, hb1⟩
theorem readNumber_ac [Mode] [HasTab] [HasErr] (l : List UInt8) (hl : l.length ≤ 100000000) : AC Tryz.prog 67 [Str l] H0 (.tup [I (rdN l).1, Bo (rdN l).2]) H0 := AC.ofCalls fun ι F w vs hs hv => by
  obtain ⟨hvl, hvv⟩ := hv
  match vs, hvl with
  | [v], _ =>
    have := (hvv 0 _ v rfl rfl).v_inv
    subst this
    obtain ⟨w0, hg, _, hvar⟩ := hs.gl.held
    obtain ⟨⟨t1, p1, k1⟩, t2, p2, k2⟩ := HasErr.err w0 hg
    refine (readNumber_calls l hl w (hvar _ _ _ (HasTab.tab w0 hg)) ⟨t1, p1, hvar _ _ _ k1⟩ ⟨t2, p2, hvar _ _ _ k2⟩).mono ?_
    rintro e w' ⟨rfl, hb⟩
    exact ⟨_, rfl, fun _ _ => VRs.tup (.cons (.d (.v _)) (.cons (.d (.v _)) .nil)), hb⟩
/-- A contract of a function that lays one new row and hands it back. -/
theorem AC.ofRow [Mode] {P : Program} {f : FuncId} {args : List AV} {rows : List (List D)} {k : Nat}
    (h : ∀ (ι : Iota) (F : Nat → Prop) (w : World) (vs : List Value), Sim ι F H0 w → VRs ι F w args vs → Calls P f vs.toArray w fun e w' => ∃ (cs : List Value) (T : TypeId) (cap : Nat), e = .returned (.slice (some ⟨w.heap.size, 0, none⟩) rows.length cap) ∧ w' = w.alloc (.cells cs.toArray T) ∧ rows.length ≤ cap ∧ cap * k ≤ cs.length ∧
      ∀ (i : Nat) r, rows[i]? = some r → r.length = k ∧ ∀ (j : Nat) c, r[j]? = some c → ∃ v, cs[i * k + j]? = some v ∧ DR F w c v) : AC P f args H0 (own1 k rows.length) (hp1 (dobj k rows)) := by
  intro ι F w vs hs hdom hv
  refine (h ι F w vs hs hv).mono ?_
  rintro e w' ⟨cs, T, cap, rfl, rfl, hcap, hlen, hrows⟩
  have hp := Post.alloc hs (new := 0) (fun k => hdom _ rfl) cs T (dobj k rows) (by simp only [dobj, List.length_map]; exact Nat.le_trans (Nat.mul_le_mul_right _ hcap) hlen) (fun i r hr => by
    simp only [dobj, List.getElem?_map, Option.map_eq_some_iff] at hr
    obtain ⟨r', hr', rfl⟩ := hr
    obtain ⟨h1, h2⟩ := hrows i r' hr'
    refine ⟨by show (r'.map AV.d).length = k; rw [List.length_map]; exact h1, fun j c hc => ?_⟩
    simp only [List.getElem?_map, Option.map_eq_some_iff] at hc
    obtain ⟨c', hc', rfl⟩ := hc
    obtain ⟨v, h3, h4⟩ := h2 j c' hc'
    exact ⟨v, h3, .d h4⟩) []
  refine ⟨_, _, _, rfl, ?_, hp.sim, hp.step.mono fun b ⟨l, hl, _⟩ => absurd hl Cov.nil, hp.sub, fun b hb => ?_, fun b ⟨l, h1, s, e1⟩ => ?_, fun l x h1 => absurd rfl h1⟩
  · have := VR.own (ι := updι ι ⟨0, []⟩ (some (w.heap.size, cs.length))) (F := F) (w := w.alloc (.cells cs.toArray T)) k ⟨0, []⟩ 0 rows.length w.heap.size cs.length cap (by simp [updι]) hcap (by simpa using hlen)
    simpa using this
  · rcases hp.sup b hb with h1 | ⟨l, hl, _⟩ | h1
    · exact .inl h1
    · exact absurd hl Cov.nil
    · exact .inr (.inr h1)
  · rcases hp.own l b s h1 e1 with ⟨l0, h2, _⟩ | h2
    · exact absurd rfl h2
    · exact .inr h2
theorem split_lists [Mode] (l : List UInt8) (c : UInt8) : ∃ ss : List ByteArray, Lib.splitB ⟨#[c]⟩ 0 (Lib.countB ⟨l.toArray⟩ ⟨#[c]⟩) ⟨l.toArray⟩ = ss ∧ ss.map (·.data.toList) = spl c l ∧ Lib.countB ⟨l.toArray⟩ ⟨#[c]⟩ + 1 = (spl c l).length := by
  refine ⟨_, rfl, ?_, ?_⟩
  · rw [Lib.splitB_data]
    have := split_spl c l
    exact this
  · have h1 := Lib.splitB_all ⟨#[c]⟩ (show 1 ≤ 1 from Nat.le_refl 1) 0 _ ⟨l.toArray⟩ rfl
    rw [← h1, ← split_spl c l]
    have h2 := Lib.splitB_data ⟨#[c]⟩ 0 (Lib.countB ⟨l.toArray⟩ ⟨#[c]⟩) ⟨l.toArray⟩
    have h3 := congrArg List.length h2
    rw [List.length_map] at h3
    exact h3
theorem iSplit_ac [Mode] [HasLen] (l : List UInt8) (c : UInt8) (hl : l.length ≤ 100000000) : AC Tryz.prog 66 [Str l, Str [c]] H0 (own1 1 (spl c l).length) (hp1 (SO (spl c l))) := by
  have hrl : (stR (spl c l)).length = (spl c l).length := stR_len _
  rw [← hrl]
  refine AC.ofRow fun ι F w vs hs hv => ?_
  have := hv.inv2; subst this
  obtain ⟨w0, hg, _, hvar⟩ := hs.gl.held
  obtain ⟨m, hm⟩ := HasLen.len w0 hg
  have hm' := hvar _ _ _ hm
  obtain ⟨ss, e1, e2, e3⟩ := split_lists l c
  refine (Tryz.strings_Split ⟨l.toArray⟩ ⟨[c].toArray⟩ m w (by rw [size_mk]; omega) (by refine (World.var?_cell ?h hm' 0).trans ?t; (· kernel_rfl); (· simp)) (show 1 ≤ 1 from Nat.le_refl 1)).mono ?_
  rintro e w' ⟨rfl, rfl⟩
  have hsl : ss.length = (spl c l).length := by rw [← e2, List.length_map]
  refine ⟨ss.map Value.string, 9, (spl c l).length, by rw [hrl]; exact congrArg Ending.returned (by rw [show ([c].toArray : Array UInt8) = #[c] from rfl, e3]), by rw [show ([c].toArray : Array UInt8) = #[c] from rfl, e1], by rw [hrl]; exact Nat.le_refl _, by simp [hsl], fun i r hr => ?_⟩
  simp only [stR, List.getElem?_map, Option.map_eq_some_iff] at hr
  obtain ⟨p, hp, rfl⟩ := hr
  rw [← e2, List.getElem?_map, Option.map_eq_some_iff] at hp
  obtain ⟨s, hs', rfl⟩ := hp
  refine ⟨rfl, fun j c' hc' => ?_⟩
  cases j with
  | succ j => simp at hc'
  | zero =>
    simp only [List.getElem?_cons_zero, Option.some.injEq] at hc'
    subst hc'
    refine ⟨.string s, by simp [hs'], ?_⟩
    have e : Value.string s = Value.string ⟨s.data.toList.toArray⟩ := congrArg Value.string (mk_eta s)
    rw [e]
    exact .v _
end Go.Proofs.YtofakjlamoigcaaGreatDoor
end

section
namespace Go.Proofs.YtofakjlamoigcaaGreatDoor
set_option linter.unusedSimpArgs false
set_option linter.unusedVariables false
open Go Go.RowKit
attribute [local irreducible] AL AD AW OpOk Le AC thenQ blockQ EndQ

theorem u8s [Mode] {x : Nat} (h0 : 48 ≤ x) (h1 : x < 256) : IntKind.i64.wrap (IntKind.u8.wrap ((x : Int) - 48)) = ((x - 48 : Nat) : Int) := by
  have e : IntKind.u8.wrap ((x : Int) - 48) = ((x - 48 : Nat) : Int) := by
    unfold IntKind.wrap
    simp [IntKind.signed, IntKind.bits]
    omega
  rw [e]
  exact wrap64_id (by omega) (by omega)
theorem digN_len [Mode] {l : List UInt8} (h : l.length < 1 ∨ 10 < l.length) : digN l = (0, false) := by rw [digN, if_pos h]
theorem digN_bad [Mode] {l : List UInt8} {x : UInt8} (hx : x ∈ l) (h : ¬ (48 ≤ x.toNat ∧ x.toNat ≤ 57)) : digN l = (0, false) := by
  unfold digN
  split
  · rfl
  · rw [if_neg (fun ha => h (ha x hx))]
theorem digN_all [Mode] {l : List UInt8} (h : ¬ (l.length < 1 ∨ 10 < l.length)) (ha : ∀ c ∈ l, 48 ≤ c.toNat ∧ c.toNat ≤ 57) : digN l = ((dgA l : Int), decide (dec (dgA l) = l)) := by
  rw [digN, if_neg h, if_pos ha]
set_option maxHeartbeats 2000000 in
theorem l01Digits_ac [Mode] (l : List UInt8) (hl : l.length ≤ 100000000) : AC Tryz.prog 104 [Str l] H0 (.tup [I (digN l).1, Bo (digN l).2]) H0 := by
  by_cases hlen : l.length < 1 ∨ 10 < l.length
  · rw [digN_len hlen]
    refine AC.of_body 0 Tryz.func104 rfl (fun l h => absurd rfl h) (fun C hC => ?_)
    have hD : ∀ l, ¬ C.D0 l := fun l h => (hC l).1 h rfl
    simp only [startFr, Tryz.ntmps104, List.length_cons, List.length_nil, Nat.reduceAdd, Nat.reduceSub, List.replicate_succ, List.replicate_zero, List.cons_append, List.nil_append]
    repeat' (first | ((first | apply Ba | (apply Bb; (· rfl); (· rfl)) | (apply Bc; (· exact nxE)) | (apply Bd; (· rfl); (· rfl); (· exact nxE))); (· first | exact Ok.seqS rfl rfl rfl | exact Ok.sneS rfl rfl rfl | exact Ok.slen rfl rfl | exact Ok.pe)) | ((first | apply Ca | (apply Cb; (· exact nxE))); (· first | exact Ok.e0)) | refine Sx ?_ | (refine Sy (fun h => ?_) (fun h => ?_) <;> try (exfalso; omega; done)) | refine Sz (fun h => ?_) (fun h => ?_))
    all_goals
      refine Yb ?_
      (apply Le.headZ (hs := []) [] rfl)
      all_goals (try dsimp only [srcs])
      (case' hfr => (repeat' (first | refine La ?_ ?_ | exact Lc | refine Lo ?_ | refine ⟨⟨_, rfl, ?_⟩, ?_⟩ | refine Lx ?_)))
      all_goals (first | exact Ld | exact trivial | (rfl))
  have hl10 : 10 ^ l.length ≤ 10 ^ 10 := Nat.pow_le_pow_right (by decide) (by omega)
  refine AC.of_body 0 Tryz.func104 rfl (fun l h => absurd rfl h) (fun C hC => ?_)
  have hD : ∀ l, ¬ C.D0 l := fun l h => (hC l).1 h rfl
  simp only [startFr, Tryz.ntmps104, List.length_cons, List.length_nil, Nat.reduceAdd, Nat.reduceSub, List.replicate_succ, List.replicate_zero, List.cons_append, List.nil_append]
  repeat' (first | ((first | apply Ba | (apply Bb; (· rfl); (· rfl)) | (apply Bc; (· exact nxE)) | (apply Bd; (· rfl); (· rfl); (· exact nxE))); (· first | exact Ok.seqS rfl rfl rfl | exact Ok.sneS rfl rfl rfl | exact Ok.slen rfl rfl | exact Ok.pe)) | ((first | apply Ca | (apply Cb; (· exact nxE))); (· first | exact Ok.e0)) | refine Sx ?_ | (refine Sy (fun h => ?_) (fun h => ?_) <;> try (exfalso; omega; done)) | refine Sz (fun h => ?_) (fun h => ?_))
  refine AW.loop (X := {k : Nat // k ≤ l.length ∧ ∀ c ∈ l.take k, 48 ≤ c.toNat ∧ c.toNat ≤ 57}) (fun k => ⟨[Str l, Oo, Oo, Oo, I (dgA (l.take (k.1 : Nat)) : Nat), I (k.1 : Nat), Oo, Oo, Oo, Oo, Oo, Oo, Oo, Oo, Oo, Oo, Oo, Oo, Oo, Oo, Oo, Oo, Oo, Oo, Oo, Oo, Oo, Oo, Oo, Oo, Oo, Oo, Oo, Oo, Oo, Oo, Oo, Oo, Oo, Oo, Oo, Oo, Oo], heapL [], 900⟩) (fun k => l.length - k.1) ⟨0, Nat.zero_le _, by simp⟩ ?_ (fun k => ?_)
  ·
    (apply Le.headZ [] rfl)
    all_goals (try dsimp only [srcs])
    (case' hfr | hob => (repeat' (first | refine La ?_ ?_ | exact Lc | refine Lo ?_ | refine ⟨⟨_, rfl, ?_⟩, ?_⟩ | refine Lx ?_)))
    all_goals (first | (rfl) | exact Ld)
  obtain ⟨k, hk, hall⟩ := k
  simp only
  by_cases hlt : k < l.length
  · obtain ⟨x, hx⟩ : ∃ x, l[k]? = some x := ⟨l[k], List.getElem?_eq_getElem hlt⟩
    have hx' : l[((k : Nat) : Int).toNat]? = some x := by rw [Int.toNat_natCast]; exact hx
    have htk : l.take (k + 1) = l.take k ++ [x] := by rw [List.take_add_one, hx]; rfl
    have hxl : x.toNat < 256 := x.toNat_lt
    have hb1 := dgA_lt (l.take k) (fun c hc => (hall c hc).2)
    have hb2 : 10 ^ (l.take k).length ≤ 10 ^ 9 := Nat.pow_le_pow_right (by decide) (by simp; omega)
    by_cases hd : 48 ≤ x.toNat ∧ x.toNat ≤ 57
    · have hcv := u8s hd.1 hxl
      have hs : dgA (l.take (k + 1)) = 10 * dgA (l.take k) + (x.toNat - 48) := by rw [htk, dgA_snoc]
      have hsI : ((dgA (l.take (k + 1)) : Nat) : Int) = 10 * (dgA (l.take k) : Int) + ((x.toNat - 48 : Nat) : Int) := by rw [hs]; omega
      repeat' (first | ((first | apply Ba | (apply Bb; (· rfl); (· rfl)) | (apply Bc; (· exact nxE)) | (apply Bd; (· rfl); (· rfl); (· exact nxE))); (· first | exact Ok.sidx rfl rfl rfl (by omega) hx' | exact Ok.convII rfl rfl Tryz.underlying2 (by rw [Tryz.underlying5]; rfl) hcv | exact Ok.seqS rfl rfl rfl | exact Ok.sneS rfl rfl rfl | exact Ok.slen rfl rfl | exact Ok.pe)) | ((first | apply Ca | (apply Cb; (· exact nxE))); (· first | exact Ok.e0)) | refine Sx ?_ | (refine Sy (fun h => ?_) (fun h => ?_) <;> try (exfalso; omega; done)) | refine Sz (fun h => ?_) (fun h => ?_))
      refine ⟨⟨k + 1, by omega, by rw [htk]; intro c hc; rcases List.mem_append.1 hc with h | h; (· exact hall c h); (· rw [List.mem_singleton.1 h]; exact hd)⟩, ?_, by simp only; omega⟩
      (apply Le.headZ [] rfl)
      all_goals (try dsimp only [srcs])
      (case' hfr | hob => (repeat' (first | refine La ?_ ?_ | exact Lc | refine Lo ?_ | refine ⟨⟨_, rfl, ?_⟩, ?_⟩ | refine Lx ?_)))
      all_goals (first | ((first | (rw [hsI]; done) | omega)) | exact Ld)
    · rw [digN_bad (List.mem_of_getElem? hx) hd]
      repeat' (first | ((first | apply Ba | (apply Bb; (· rfl); (· rfl)) | (apply Bc; (· exact nxE)) | (apply Bd; (· rfl); (· rfl); (· exact nxE))); (· first | exact Ok.sidx rfl rfl rfl (by omega) hx' | exact Ok.seqS rfl rfl rfl | exact Ok.sneS rfl rfl rfl | exact Ok.slen rfl rfl | exact Ok.pe)) | ((first | apply Ca | (apply Cb; (· exact nxE))); (· first | exact Ok.e0)) | refine Sx ?_ | (refine Sy (fun h => ?_) (fun h => ?_) <;> try (exfalso; omega; done)) | refine Sz (fun h => ?_) (fun h => ?_))
      all_goals first
        | (exfalso; omega)
        | skip
      all_goals
        refine Yb ?_
        (apply Le.headZ (hs := []) [] rfl)
        all_goals (try dsimp only [srcs])
        (case' hfr => (repeat' (first | refine La ?_ ?_ | exact Lc | refine Lo ?_ | refine ⟨⟨_, rfl, ?_⟩, ?_⟩ | refine Lx ?_)))
        all_goals (first | exact Ld | exact trivial | (rfl))
  ·
    obtain rfl : k = l.length := by omega
    rw [List.take_length] at hall ⊢
    rw [digN_all hlen hall]
    have hb := dgA_lt l (fun c hc => (hall c hc).2)
    have hDg := l01Dec_ac (dgA l) (by omega)
    repeat' (first | ((first | apply Ba | (apply Bb; (· rfl); (· rfl)) | (apply Bc; (· exact nxE)) | (apply Bd; (· rfl); (· rfl); (· exact nxE))); (· first | exact Kz rfl rfl (hDg) (Ad An) | exact Ok.seqS rfl rfl rfl | exact Ok.sneS rfl rfl rfl | exact Ok.slen rfl rfl | exact Ok.pe)) | ((first | apply Ca | (apply Cb; (· exact nxE))); (· first | exact Ok.e0)) | refine Sx ?_ | (refine Sy (fun h => ?_) (fun h => ?_) <;> try (exfalso; omega; done)) | refine Sz (fun h => ?_) (fun h => ?_))
    refine Yb ?_
    (apply Le.headZ (hs := []) [] rfl)
    all_goals (try dsimp only [srcs])
    (case' hfr => (repeat' (first | refine La ?_ ?_ | exact Lc | refine Lo ?_ | refine ⟨⟨_, rfl, ?_⟩, ?_⟩ | refine Lx ?_)))
    all_goals (first | exact Ld | exact trivial | (rfl))
theorem l01Signed_ac [Mode] (l : List UInt8) (hl : l.length ≤ 100000000) : AC Tryz.prog 90 [Str l] H0 (.tup [I (sgN l).1, Bo (sgN l).2]) H0 := by
  match l with
  | [] =>
    have hDg := l01Digits_ac [] (by simp)
    refine AC.of_body 0 Tryz.func90 rfl (fun l h => absurd rfl h) (fun C hC => ?_)
    have hD : ∀ l, ¬ C.D0 l := fun l h => (hC l).1 h rfl
    simp only [startFr, Tryz.ntmps90, List.length_cons, List.length_nil, Nat.reduceAdd, Nat.reduceSub, List.replicate_succ, List.replicate_zero, List.cons_append, List.nil_append]
    repeat' (first | ((first | apply Ba | (apply Bb; (· rfl); (· rfl)) | (apply Bc; (· exact nxE)) | (apply Bd; (· rfl); (· rfl); (· exact nxE))); (· first | exact Kz rfl rfl (hDg) (Ad An) | exact Ok.seqS rfl rfl rfl | exact Ok.sneS rfl rfl rfl | exact Ok.slen rfl rfl | exact Ok.pe)) | ((first | apply Ca | (apply Cb; (· exact nxE))); (· first | exact Ok.e0)) | refine Sx ?_ | (refine Sy (fun h => ?_) (fun h => ?_) <;> try (exfalso; omega; done)) | refine Sz (fun h => ?_) (fun h => ?_))
    refine Yb ?_
    (apply Le.headZ (hs := []) [] rfl)
    all_goals (try dsimp only [srcs])
    (case' hfr => (repeat' (first | refine La ?_ ?_ | exact Lc | refine Lo ?_ | refine ⟨⟨_, rfl, ?_⟩, ?_⟩ | refine Lx ?_)))
    all_goals (first | exact Ld | exact trivial | (rfl))
  | x :: r =>
    have h0 := digN_nonneg r
    have h1 := digN_lt r
    have hc1 : (x :: r).length = r.length + 1 := rfl
    by_cases hx : x = 45
    · subst hx
      have hDg := l01Digits_ac r (by simp at hl; omega)
      have e : sgN (45 :: r) = (-(digN r).1, (digN r).2 && decide (0 < (digN r).1)) := rfl
      rw [e]
      generalize digN r = q at *
      obtain ⟨q1, q2⟩ := q
      simp only at *
      cases q2
      ·
        refine AC.of_body 0 Tryz.func90 rfl (fun l h => absurd rfl h) (fun C hC => ?_)
        have hD : ∀ l, ¬ C.D0 l := fun l h => (hC l).1 h rfl
        simp only [startFr, Tryz.ntmps90, List.length_cons, List.length_nil, Nat.reduceAdd, Nat.reduceSub, List.replicate_succ, List.replicate_zero, List.cons_append, List.nil_append]
        repeat' (first | ((first | apply Ba | (apply Bb; (· rfl); (· rfl)) | (apply Bc; (· exact nxE)) | (apply Bd; (· rfl); (· rfl); (· exact nxE))); (· first | exact Ok.sidx (a := 45 :: r) (c := 45) rfl rfl rfl (by decide) rfl | exact Ok.sFrom (a := 45 :: r) (j := 1) rfl rfl rfl rfl (by simp) | exact Kz rfl rfl (hDg) (Ad An) | exact Ok.seqS rfl rfl rfl | exact Ok.sneS rfl rfl rfl | exact Ok.slen rfl rfl | exact Ok.pe)) | ((first | apply Ca | (apply Cb; (· exact nxE))); (· first | exact Ok.e0)) | refine Sx ?_ | (refine Sy (fun h => ?_) (fun h => ?_) <;> try (exfalso; omega; done)) | refine Sz (fun h => ?_) (fun h => ?_))
        refine Yb ?_
        (apply Le.headZ (hs := []) [] rfl)
        all_goals (try dsimp only [srcs])
        (case' hfr => (repeat' (first | refine La ?_ ?_ | exact Lc | refine Lo ?_ | refine ⟨⟨_, rfl, ?_⟩, ?_⟩ | refine Lx ?_)))
        all_goals (first | exact Ld | exact trivial | (rfl))
      ·
        refine AC.of_body 0 Tryz.func90 rfl (fun l h => absurd rfl h) (fun C hC => ?_)
        have hD : ∀ l, ¬ C.D0 l := fun l h => (hC l).1 h rfl
        simp only [startFr, Tryz.ntmps90, List.length_cons, List.length_nil, Nat.reduceAdd, Nat.reduceSub, List.replicate_succ, List.replicate_zero, List.cons_append, List.nil_append]
        repeat' (first | ((first | apply Ba | (apply Bb; (· rfl); (· rfl)) | (apply Bc; (· exact nxE)) | (apply Bd; (· rfl); (· rfl); (· exact nxE))); (· first | exact Ok.sidx (a := 45 :: r) (c := 45) rfl rfl rfl (by decide) rfl | exact Ok.sFrom (a := 45 :: r) (j := 1) rfl rfl rfl rfl (by simp) | exact Kz rfl rfl (hDg) (Ad An) | exact Ok.seqS rfl rfl rfl | exact Ok.sneS rfl rfl rfl | exact Ok.slen rfl rfl | exact Ok.pe)) | ((first | apply Ca | (apply Cb; (· exact nxE))); (· first | exact Ok.e0)) | refine Sx ?_ | (refine Sy (fun h => ?_) (fun h => ?_) <;> try (exfalso; omega; done)) | refine Sz (fun h => ?_) (fun h => ?_))
        refine Yb ?_
        (apply Le.headZ (hs := []) [] rfl)
        all_goals (try dsimp only [srcs])
        (case' hfr => (repeat' (first | refine La ?_ ?_ | exact Lc | refine Lo ?_ | refine ⟨⟨_, rfl, ?_⟩, ?_⟩ | refine Lx ?_)))
        all_goals (first | exact Ld | exact trivial | (rfl))
    · have hDg := l01Digits_ac (x :: r) hl
      have e : sgN (x :: r) = digN (x :: r) := by rw [sgN, if_neg (by simpa using hx)]
      rw [e]
      have hne : ¬ ((x.toNat : Int) = 45) := fun e => hx (UInt8.toNat_inj.1 (by simpa using (by omega : x.toNat = 45)))
      refine AC.of_body 0 Tryz.func90 rfl (fun l h => absurd rfl h) (fun C hC => ?_)
      have hD : ∀ l, ¬ C.D0 l := fun l h => (hC l).1 h rfl
      simp only [startFr, Tryz.ntmps90, List.length_cons, List.length_nil, Nat.reduceAdd, Nat.reduceSub, List.replicate_succ, List.replicate_zero, List.cons_append, List.nil_append]
      repeat' (first | ((first | apply Ba | (apply Bb; (· rfl); (· rfl)) | (apply Bc; (· exact nxE)) | (apply Bd; (· rfl); (· rfl); (· exact nxE))); (· first | exact Ok.sidx (a := x :: r) (c := x) rfl rfl rfl (by decide) rfl | exact Kz rfl rfl (hDg) (Ad An) | exact Ok.seqS rfl rfl rfl | exact Ok.sneS rfl rfl rfl | exact Ok.slen rfl rfl | exact Ok.pe)) | ((first | apply Ca | (apply Cb; (· exact nxE))); (· first | exact Ok.e0)) | refine Sx ?_ | (refine Sy (fun h => ?_) (fun h => ?_) <;> try (exfalso; omega; done)) | refine Sz (fun h => ?_) (fun h => ?_))
      refine Yb ?_
      (apply Le.headZ (hs := []) [] rfl)
      all_goals (try dsimp only [srcs])
      (case' hfr => (repeat' (first | refine La ?_ ?_ | exact Lc | refine Lo ?_ | refine ⟨⟨_, rfl, ?_⟩, ?_⟩ | refine Lx ?_)))
      all_goals (first | exact Ld | exact trivial | (rfl))
set_option maxHeartbeats 2000000 in
theorem l01Numbers_yes [Mode] (ws : List (List UInt8)) (hw : ws.length ≤ 2000000) (hl : ∀ w ∈ ws, w.length ≤ 100000000) (h : ∀ w ∈ ws, (sgN w).2 = true) : AC Tryz.prog 69 [SL ws] H0 (.tup [own1 1 ws.length, Bo true]) (hp1 (IO (ws.map fun w => (sgN w).1))) := by
  refine AC.of_body 0 Tryz.func69 rfl (fun l h => absurd rfl h) (fun C hC => ?_)
  have hD : ∀ l, ¬ C.D0 l := fun l h => (hC l).1 h rfl
  simp only [startFr, Tryz.ntmps69, List.length_cons, List.length_nil, Nat.reduceAdd, Nat.reduceSub, List.replicate_succ, List.replicate_zero, List.cons_append, List.nil_append]
  repeat' (first | ((first | apply Ba | (apply Bb; (· rfl); (· rfl)) | (apply Bc; (· exact nxE)) | (apply Bd; (· rfl); (· rfl); (· exact nxE))); (· first | exact Ok.lenD rfl rfl (stR_len ws) | exact Ok.seqS rfl rfl rfl | exact Ok.sneS rfl rfl rfl | exact Ok.slen rfl rfl | exact Ok.pe)) | ((first | apply Ca | (apply Cb; (· exact nxE))); (· first | exact Ok.e0)) | refine Sx ?_ | (refine Sy (fun h => ?_) (fun h => ?_) <;> try (exfalso; omega; done)) | refine Sz (fun h => ?_) (fun h => ?_))
  refine AW.loop (X := {k : Nat // k ≤ ws.length}) (fun k => ⟨[SL ws, Oo, Oo, Oo, .own 1 ⟨0, []⟩ 0 (k.1 : Nat), I (k.1 : Nat), Oo, Oo, Oo, Oo, Oo, Oo, Oo, Oo, Oo, Oo, Oo, Oo, Oo, Oo, Oo, Oo, Oo, Oo, Oo, Oo, Oo, Oo, Oo, Oo], heapL [(⟨0, []⟩, ⟨0, []⟩, IO ((ws.take k.1).map fun w => (sgN w).1))], 900⟩) (fun k => ws.length - k.1) ⟨0, Nat.zero_le _⟩ ?_ (fun k => ?_)
  ·
    (apply Le.headZ [_] rfl)
    all_goals (try dsimp only [srcs])
    (case' hfr | hob => (repeat' (first | refine La ?_ ?_ | exact Lc | refine Lo ?_ | refine ⟨⟨_, rfl, ?_⟩, ?_⟩ | refine Lx ?_)))
    all_goals (first | (rfl) | exact Ld)
  obtain ⟨k, hk⟩ := k
  simp only
  by_cases hlt : k < ws.length
  · obtain ⟨w, hx⟩ : ∃ w, ws[k]? = some w := ⟨ws[k], List.getElem?_eq_getElem hlt⟩
    have hrow := stR_getI hx
    have hmem := List.mem_of_getElem? hx
    have hS := l01Signed_ac w (hl w hmem)
    rw [h w hmem] at hS
    have hol : (IR ((ws.take k).map fun w => (sgN w).1)).length = k := by rw [IR_len, List.length_map, List.length_take]; omega
    have htk : (ws.take (k + 1)).map (fun w => (sgN w).1) = (ws.take k).map (fun w => (sgN w).1) ++ [(sgN w).1] := by rw [List.take_add_one, hx]; simp
    generalize (sgN w).1 = q at *
    repeat' (first | ((first | apply Ba | (apply Bb; (· rfl); (· rfl)) | (apply Bc; (· exact nxE)) | (apply Bd; (· rfl); (· rfl); (· exact nxE))); (· first | exact Ok.lenD rfl rfl (stR_len ws) | exact Kz rfl rfl (hS) (Ad An) | exact Ok.seqS rfl rfl rfl | exact Ok.sneS rfl rfl rfl | exact Ok.slen rfl rfl | exact Ok.append1 (row := [DI q]) rfl rfl (by decide) rfl rfl hol rfl rfl rfl (by rfl) (by omega) (by omega) | exact Ok.pe)) | ((first | apply Ca | (apply Cb; (· exact nxE))); (· first | exact Ok.append1 (row := [DI q]) rfl rfl (by decide) rfl rfl hol rfl rfl rfl (by rfl) (by omega) (by omega) | exact Ok.e0)) | refine Sx ?_ | (refine Sy (fun h => ?_) (fun h => ?_) <;> try (exfalso; omega; done)) | refine Sz (fun h => ?_) (fun h => ?_))
    refine ⟨⟨k + 1, by omega⟩, ?_, by simp only; omega⟩
    (apply Le.headZ [_] rfl)
    all_goals (try dsimp only [srcs])
    (case' hfr | hob => (repeat' (first | refine La ?_ ?_ | exact Lc | refine Lo ?_ | refine ⟨⟨_, rfl, ?_⟩, ?_⟩ | refine Lx ?_)))
    all_goals (first | ((first | (rw [htk, IR_app]; done) | (rw [htk]; simp; done))) | exact Ld)
  ·
    obtain rfl : k = ws.length := by omega
    rw [List.take_length]
    repeat' (first | ((first | apply Ba | (apply Bb; (· rfl); (· rfl)) | (apply Bc; (· exact nxE)) | (apply Bd; (· rfl); (· rfl); (· exact nxE))); (· first | exact Ok.lenD rfl rfl (stR_len ws) | exact Ok.seqS rfl rfl rfl | exact Ok.sneS rfl rfl rfl | exact Ok.slen rfl rfl | exact Ok.pe)) | ((first | apply Ca | (apply Cb; (· exact nxE))); (· first | exact Ok.e0)) | refine Sx ?_ | (refine Sy (fun h => ?_) (fun h => ?_) <;> try (exfalso; omega; done)) | refine Sz (fun h => ?_) (fun h => ?_))
    refine Yb ?_
    (apply Le.head [(⟨0, []⟩, _, _)])
    (case' hfr | hob => (repeat' (first | refine La ?_ ?_ | exact Lc | refine Lo ?_ | refine ⟨⟨_, rfl, ?_⟩, ?_⟩ | refine Lx ?_)))
    all_goals (first | exact Ld | (rfl))
end Go.Proofs.YtofakjlamoigcaaGreatDoor
end

section
namespace Go.Proofs.YtofakjlamoigcaaGreatDoor
set_option linter.unusedSimpArgs false
set_option linter.unusedVariables false
open Go Go.RowKit

/-- How many firings of an event there are. -/
def cnt (fs : List Fi) (e : Int) : Nat := fs.countP fun f => decide (f.e = e)
theorem cnt_snoc [Mode] {fs : List Fi} {f : Fi} {e : Int} : cnt (fs ++ [f]) e = cnt fs e + if f.e = e then 1 else 0 := by
  simp only [cnt, List.countP_append, List.countP_cons, List.countP_nil, Nat.zero_add]
  by_cases h : f.e = e <;> simp [h]
theorem cnt_le [Mode] (fs : List Fi) (e : Int) : cnt fs e ≤ fs.length := List.countP_le_length
/-- The firings of the longest beginning of a text that is a trace; r: what is left. -/
structure RecOf (s : List UInt8) (fs : List Fi) (r : List UInt8) : Prop where
  len : fs.length ≤ 500
  wr : fs.all wrF = true
  num : ∀ (k : Nat) (f : Fi), fs[k]? = some f → f.n = cnt (fs.take k) f.e + 1
  txt : s = trT 1 fs ++ r
  stop : fs.length < 500 → ∀ f, wrF f = true → ∀ b, r ≠ trN (chA 1 fs) f ++ b
theorem wrA_all [Mode] {fs : List Fi} {k : Nat} (h : fs.all wrF = true) : (fs.take k).all wrF = true := List.all_eq_true.2 fun x hx => List.all_eq_true.1 h x (List.mem_of_mem_take hx)
/-- There is such a beginning. -/
theorem rec_from [Mode] (s : List UInt8) : ∀ (m : Nat) (fs : List Fi) (r : List UInt8), 500 - fs.length = m → fs.length ≤ 500 → fs.all wrF = true → (∀ (k : Nat) (f : Fi), fs[k]? = some f → f.n = cnt (fs.take k) f.e + 1) → s = trT 1 fs ++ r → ∃ fs' r', RecOf s fs' r'
  | 0, fs, r, hm, h1, h2, h3, h4 => ⟨fs, r, h1, h2, h3, h4, fun h => by omega⟩
  | m + 1, fs, r, hm, h1, h2, h3, h4 => by
    by_cases hs : ∀ f, wrF f = true → ∀ b, r ≠ trN (chA 1 fs) f ++ b
    · exact ⟨fs, r, h1, h2, h3, h4, fun _ => hs⟩
    · have : ∃ f b, wrF f = true ∧ r = trN (chA 1 fs) f ++ b := by
        refine Classical.byContradiction fun hn => hs fun f hf b e => hn ⟨f, b, hf, e⟩
      obtain ⟨⟨e, n, t⟩, b, hf, hr⟩ := this
      refine rec_from s m (fs ++ [⟨e, cnt fs e + 1, t⟩]) b (by simp; omega) (by simp; omega) ?_ (fun k f hk => ?_) ?_
      · have hf' : wrF ⟨e, cnt fs e + 1, t⟩ = true := hf
        rw [List.all_append, h2, List.all_cons, hf']; rfl
      · rw [List.getElem?_append] at hk
        split at hk
        · rename_i hlt
          rw [List.take_append_of_le_length (by omega)]
          exact h3 k f hk
        · rename_i hge
          have hk0 : k - fs.length = 0 := by
            have := (List.getElem?_eq_some_iff.1 hk).1
            simp at this; omega
          rw [hk0] at hk
          simp only [List.getElem?_cons_zero, Option.some.injEq] at hk
          subst hk
          have : k = fs.length := by omega
          subst this
          simp
      · rw [h4, hr, trT_snoc, List.append_assoc]; rfl
theorem rec_ex [Mode] (s : List UInt8) : ∃ fs r, RecOf s fs r := rec_from s 500 [] s rfl (by decide) rfl (fun k f h => by simp at h) rfl
/-! Lines and words. -/
theorem trL_no10 [Mode] (c : Int) (f : Fi) : (10 : UInt8) ∉ trL c f := by
  have h : (10 : UInt8).toNat < 48 ∨ 57 < (10 : UInt8).toNat := by decide
  simp only [trL, List.mem_append, List.mem_cons, List.not_mem_nil, or_false, not_or]
  exact ⟨⟨⟨⟨dec_no h, by decide⟩, dec_no h⟩, by decide⟩, dec_no h⟩
theorem spl_words [Mode] (a b c : Nat) : spl 32 (dec a ++ [32] ++ dec b ++ [32] ++ dec c) = [dec a, dec b, dec c] := by
  have h : (32 : UInt8).toNat < 48 ∨ 57 < (32 : UInt8).toNat := by decide
  have e : dec a ++ [32] ++ dec b ++ [32] ++ dec c = dec a ++ 32 :: (dec b ++ 32 :: dec c) := by simp
  rw [e, spl_at (dec_no h), spl_at (dec_no h), spl_no (dec_no h)]
theorem spl_trL [Mode] (c : Int) (f : Fi) : spl 32 (trL c f) = [dec f.e.toNat, dec f.t.toNat, dec (nxI c f).toNat] := spl_words _ _ _
/-- The pieces, joined again. -/
theorem spl_three [Mode] {c : UInt8} {l x y z : List UInt8} (h : spl c l = [x, y, z]) : l = x ++ c :: (y ++ c :: z) := by
  rcases first_byte c l with h1 | ⟨a, b, rfl, h1⟩
  · rw [spl_no h1] at h; simp at h
  · rw [spl_at h1] at h
    simp only [List.cons.injEq] at h
    obtain ⟨rfl, h⟩ := h
    rcases first_byte c b with h2 | ⟨a', b', rfl, h2⟩
    · rw [spl_no h2] at h; simp at h
    · rw [spl_at h2] at h
      simp only [List.cons.injEq] at h
      obtain ⟨rfl, h⟩ := h
      rcases first_byte c b' with h3 | ⟨a'', b'', rfl, h3⟩
      · rw [spl_no h3] at h
        simp only [List.cons.injEq, and_true] at h
        rw [h]
      · rw [spl_at h3] at h
        have := spl_ne (c := c) (l := b'')
        simp only [List.cons.injEq] at h
        exact absurd h.2 this
/-- The lines of a trace. -/
def lnS : Int → List Fi → List (List UInt8)
  | _, [] => []
  | c, f :: fs => trL c f :: lnS (nxI c f) fs
theorem lnS_len [Mode] : ∀ {c : Int} {fs : List Fi}, (lnS c fs).length = fs.length
  | _, [] => rfl
  | c, f :: fs => by rw [lnS, List.length_cons, lnS_len, List.length_cons]
theorem spl_trT [Mode] (r : List UInt8) : ∀ (c : Int) (fs : List Fi), spl 10 (trT c fs ++ r) = lnS c fs ++ spl 10 r
  | _, [] => rfl
  | c, f :: fs => by
    rw [trT, lnS, List.cons_append, ← spl_trT r (nxI c f) fs, ← spl_at (trL_no10 c f)]
    simp [trN]
theorem lnS_get [Mode] : ∀ {c : Int} {fs : List Fi} {k : Nat} {f : Fi}, fs[k]? = some f → (lnS c fs)[k]? = some (trL (chA c (fs.take k)) f)
  | c, [], k, f, h => by simp at h
  | c, g :: fs, 0, f, h => by simp at h; subst h; rfl
  | c, g :: fs, k + 1, f, h => by
    rw [lnS, List.getElem?_cons_succ, List.take_succ_cons, chA]
    exact lnS_get (by simpa using h)
theorem trT_drop [Mode] {c : Int} : ∀ {fs : List Fi} {k : Nat}, (trT c fs).drop (trT c (fs.take k)).length = trT (chA c (fs.take k)) (fs.drop k) := by
  intro fs k
  have key : ∀ (a b : List Fi) (c : Int), trT c (a ++ b) = trT c a ++ trT (chA c a) b := by
    intro a
    induction a with
    | nil => intro b c; rfl
    | cons g a ih => intro b c; rw [List.cons_append, trT, trT, chA, ih, List.append_assoc]
  conv => lhs; rw [← List.take_append_drop k fs, key]
  rw [List.take_append_drop, List.drop_left']
  rfl
end Go.Proofs.YtofakjlamoigcaaGreatDoor
end

section
namespace Go.Proofs.YtofakjlamoigcaaGreatDoor
set_option linter.unusedSimpArgs false
set_option linter.unusedVariables false
open Go Go.RowKit
attribute [local irreducible] AL AD AW OpOk Le AC thenQ blockQ EndQ

def entN (t : List (List Int)) (i j : Nat) : Int := (((t[i]?).getD [])[j]?).getD 0
structure Sq (t : List (List Int)) (n : Nat) : Prop where
  l : t.length = n
  r : ∀ r ∈ t, r.length = n
theorem Sq.get [Mode] {t : List (List Int)} {n i j : Nat} (h : Sq t n) (hi : i < n) (hj : j < n) : ∃ r, t[i]? = some r ∧ r[j]? = some (entN t i j) ∧ r.length = n := by
  have h1 : i < t.length := by rw [h.l]; exact hi
  have h2 := h.r t[i] (List.getElem_mem h1)
  refine ⟨t[i], List.getElem?_eq_getElem h1, ?_, h2⟩
  unfold entN
  rw [List.getElem?_eq_getElem h1, Option.getD_some, List.getElem?_eq_getElem (by rw [h2]; exact hj), Option.getD_some]
end Go.Proofs.YtofakjlamoigcaaGreatDoor
end

section
namespace Go.Proofs.YtofakjlamoigcaaGreatDoor
set_option linter.unusedSimpArgs false
set_option linter.unusedVariables false
open Go Go.RowKit
attribute [local irreducible] AL AD AW OpOk Le AC thenQ blockQ EndQ

abbrev mi1 (l : Loc) (R : List (List (List D))) : MI := { l := l, k := 1, R := R, src := l, base := l }
end Go.Proofs.YtofakjlamoigcaaGreatDoor
end

section
namespace Go.Proofs.YtofakjlamoigcaaGreatDoor
set_option linter.unusedSimpArgs false
set_option linter.unusedVariables false
open Go Go.RowKit
attribute [local irreducible] AL AD AW OpOk Le AC thenQ blockQ EndQ

def okPl (n : Nat) (p : Pl) : Prop := (0 ≤ p.f ∧ p.f < n) ∧ (0 ≤ p.t ∧ p.t < n) ∧ (0 ≤ p.d ∧ p.d ≤ 10000) ∧ (0 ≤ p.k ∧ p.k ≤ 5)
end Go.Proofs.YtofakjlamoigcaaGreatDoor
end
