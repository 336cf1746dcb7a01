/-
  Walks in the abstract reading, part 3.
-/
import Derived.Test.YtofakjlamoigcaaGreatDoorKrU2
import Derived.Test.YtofakjlamoigcaaGreatDoorKrA2
import Derived.Test.YtofakjlamoigcaaGreatDoorKrU1
import Derived.ChangeMaps5
import Derived.Lib.ParseIntBTie
import Derived.Lib.SplitLaws
import Derived.Test.YtofakjlamoigcaaGreatDoorKrA3
section
namespace Go.Proofs.YtofakjlamoigcaaGreatDoor
set_option linter.unusedSimpArgs false
set_option linter.unusedVariables false
open Go Go.RowKit
attribute [local irreducible] AL AD AW OpOk Le AC thenQ blockQ EndQ

/-- A firing. -/
structure Fi where
  e : Int
  n : Int
  t : Int
  deriving DecidableEq
def Fi.row (f : Fi) : List D := [DI f.e, DI f.n, DI f.t]
abbrev Fi.av (f : Fi) : AV := .agg [I f.e, I f.n, I f.t]
abbrev FL (fs : List Fi) : AV := .d (.sl 3 (fs.map Fi.row))
abbrev FO (fs : List Fi) : AObj := dobj 3 (fs.map Fi.row)
theorem FL_len [Mode] {fs : List Fi} : (fs.map Fi.row).length = fs.length := by simp
/-- A firing that can be written. -/
def wrF (f : Fi) : Bool := wi f.e 0 9 && wi f.t 0 1000000
theorem wrF_iff [Mode] {f : Fi} : wrF f = true ↔ (0 ≤ f.e ∧ f.e ≤ 9) ∧ (0 ≤ f.t ∧ f.t ≤ 1000000) := by simp [wrF, wi]
def wrA (fs : List Fi) : Bool := fs.all wrF && decide (fs.length ≤ 500)
theorem l28Writable_ac [Mode] (f : Fi) : AC Tryz.prog 55 [f.av] H0 (Bo (wrF f)) H0 := by
  obtain ⟨e, n, t⟩ := f
  refine AC.of_body 0 Tryz.func55 rfl (fun l h => absurd rfl h) (fun C hC => ?_)
  have hD : ∀ l, ¬ C.D0 l := fun l h => (hC l).1 h rfl
  simp only [startFr, Tryz.ntmps55, List.length_cons, List.length_nil, Nat.reduceAdd, Nat.reduceSub, List.replicate_succ, List.replicate_zero, List.cons_append, List.nil_append]
  repeat' (first | ((first | apply Ba | (apply Bb; (· rfl); (· rfl)) | (apply Bc; (· exact nxE)) | (apply Bd; (· rfl); (· rfl); (· exact nxE))); (· first | exact Kz rfl rfl (l01In_ac _ _ _) (Ad (Ad (Ad An))) | exact Ok.seqS rfl rfl rfl | exact Ok.sneS rfl rfl rfl | exact Ok.slen rfl rfl | exact Ok.sjoin rfl rfl rfl (by simp only [List.length_append, List.length_cons, List.length_nil]; omega) | exact Ok.pe)) | ((first | apply Ca | (apply Cb; (· exact nxE))); (· first | exact Ok.e0)) | refine Sx ?_ | (refine Sy (fun h => ?_) (fun h => ?_) <;> try (exfalso; omega; done)) | refine Sz (fun h => ?_) (fun h => ?_))
  all_goals
    refine Ya ?_
    (apply Le.headZ (hs := []) [] rfl)
    all_goals (try dsimp only [srcs])
    (case' hfr => (repeat' (first | refine La ?_ ?_ | exact Lc | refine Lo ?_ | refine ⟨⟨_, rfl, ?_⟩, ?_⟩ | refine Lx ?_)))
    all_goals (first | exact Ld | exact trivial | ((simp [wrF, *]; done)))
/-! The program's test. -/
theorem isWrFn_ac [Mode] (f : Fi) : AC Tryz.prog 59 [f.av] H0 (Bo (!wrF f)) H0 := by
  obtain ⟨e, n, t⟩ := f
  refine AC.of_body 0 Tryz.func59 rfl (fun l h => absurd rfl h) (fun C hC => ?_)
  have hD : ∀ l, ¬ C.D0 l := fun l h => (hC l).1 h rfl
  simp only [startFr, Tryz.ntmps59, List.length_cons, List.length_nil, Nat.reduceAdd, Nat.reduceSub, List.replicate_succ, List.replicate_zero, List.cons_append, List.nil_append]
  repeat' (first | ((first | apply Ba | (apply Bb; (· rfl); (· rfl)) | (apply Bc; (· exact nxE)) | (apply Bd; (· rfl); (· rfl); (· exact nxE))); (· first | exact Kz rfl rfl (within_ac _ _ _) (Ad (Ad (Ad An))) | exact Ok.seqS rfl rfl rfl | exact Ok.sneS rfl rfl rfl | exact Ok.slen rfl rfl | exact Ok.sjoin rfl rfl rfl (by simp only [List.length_append, List.length_cons, List.length_nil]; omega) | exact Ok.pe)) | ((first | apply Ca | (apply Cb; (· exact nxE))); (· first | exact Ok.e0)) | refine Sx ?_ | (refine Sy (fun h => ?_) (fun h => ?_) <;> try (exfalso; omega; done)) | refine Sz (fun h => ?_) (fun h => ?_))
  all_goals
    refine Ya ?_
    (apply Le.headZ (hs := []) [] rfl)
    all_goals (try dsimp only [srcs])
    (case' hfr => (repeat' (first | refine La ?_ ?_ | exact Lc | refine Lo ?_ | refine ⟨⟨_, rfl, ?_⟩, ?_⟩ | refine Lx ?_)))
    all_goals (first | exact Ld | exact trivial | ((simp [wrF, *]; done)))
set_option maxHeartbeats 1000000 in
theorem indexFuncFi_ac [Mode] (fs : List Fi) (hn : fs.length ≤ 100000000) : AC Tryz.prog 84 [FL fs, .clo (.func 59) [] []] H0 (I (idxOf (fun f => !wrF f) fs 0)) H0 := by
  refine AC.of_body 0 Tryz.func84 rfl (fun l h => absurd rfl h) (fun C hC => ?_)
  have hD : ∀ l, ¬ C.D0 l := fun l h => (hC l).1 h rfl
  simp only [startFr, Tryz.ntmps84, List.length_cons, List.length_nil, Nat.reduceAdd, Nat.reduceSub, List.replicate_succ, List.replicate_zero, List.cons_append, List.nil_append]
  repeat' (first | ((first | apply Ba | (apply Bb; (· rfl); (· rfl)) | (apply Bc; (· exact nxE)) | (apply Bd; (· rfl); (· rfl); (· exact nxE))); (· first | exact Ok.seqS rfl rfl rfl | exact Ok.sneS rfl rfl rfl | exact Ok.slen rfl rfl | exact Ok.sjoin rfl rfl rfl (by simp only [List.length_append, List.length_cons, List.length_nil]; omega) | exact Ok.pe)) | ((first | apply Ca | (apply Cb; (· exact nxE))); (· first | exact Ok.e0)) | refine Sx ?_ | (refine Sy (fun h => ?_) (fun h => ?_) <;> try (exfalso; omega; done)) | refine Sz (fun h => ?_) (fun h => ?_))
  refine AW.loop (X := {k : Nat // k ≤ fs.length ∧ idxOf (fun f => !wrF f) fs 0 = idxOf (fun f => !wrF f) (fs.drop k) k}) (fun k => ⟨[FL fs, .clo (.func 59) [] [], Oo, Oo, Oo, Oo, Oo, I fs.length, I (k.1 : Nat), Oo, Oo, Oo, Oo, Oo, Oo, Oo, Oo, Oo, Oo], heapL [], 900⟩) (fun k => fs.length - k.1) ⟨0, Nat.zero_le _, by simp⟩ ?_ (fun k => ?_)
  ·
    (apply Le.headZ [] rfl)
    all_goals (try dsimp only [srcs])
    (case' hfr | hob => (repeat' (first | refine La ?_ ?_ | exact Lc | refine Lo ?_ | refine ⟨⟨_, rfl, ?_⟩, ?_⟩ | refine Lx ?_)))
    all_goals (first | (rfl) | exact Ld)
  obtain ⟨k, hk, hall⟩ := k
  simp only
  by_cases hlt : k < fs.length
  · obtain ⟨f, hf⟩ : ∃ f, fs[k]? = some f := ⟨fs[k], List.getElem?_eq_getElem hlt⟩
    have hrow : (fs.map Fi.row)[((k : Nat) : Int).toNat]? = some [DI f.e, DI f.n, DI f.t] := row_get hf
    have hst := idxOf_at (f := fun f => !wrF f) hf k
    rw [← hall] at hst
    have hW := isWrFn_ac f
    cases hb : wrF f with
    | true =>
      rw [hb] at hW hst
      repeat' (first | ((first | apply Ba | (apply Bb; (· rfl); (· rfl)) | (apply Bc; (· exact nxE)) | (apply Bd; (· rfl); (· rfl); (· exact nxE))); (· first | exact Kz rfl rfl (hW) (Aa (Ad (Ad (Ad An))) An) | exact Ok.seqS rfl rfl rfl | exact Ok.sneS rfl rfl rfl | exact Ok.slen rfl rfl | exact Ok.sjoin rfl rfl rfl (by simp only [List.length_append, List.length_cons, List.length_nil]; omega) | exact Ok.pe)) | ((first | apply Ca | (apply Cb; (· exact nxE))); (· first | exact Ok.e0)) | refine Sx ?_ | (refine Sy (fun h => ?_) (fun h => ?_) <;> try (exfalso; omega; done)) | refine Sz (fun h => ?_) (fun h => ?_))
      refine ⟨⟨k + 1, by omega, hst⟩, ?_, by simp only; omega⟩
      (apply Le.headZ [] rfl)
      all_goals (try dsimp only [srcs])
      (case' hfr | hob => (repeat' (first | refine La ?_ ?_ | exact Lc | refine Lo ?_ | refine ⟨⟨_, rfl, ?_⟩, ?_⟩ | refine Lx ?_)))
      all_goals (first | (rfl) | exact Ld)
    | false =>
      rw [hb] at hW hst
      rw [hst]
      repeat' (first | ((first | apply Ba | (apply Bb; (· rfl); (· rfl)) | (apply Bc; (· exact nxE)) | (apply Bd; (· rfl); (· rfl); (· exact nxE))); (· first | exact Kz rfl rfl (hW) (Aa (Ad (Ad (Ad An))) An) | exact Ok.seqS rfl rfl rfl | exact Ok.sneS rfl rfl rfl | exact Ok.slen rfl rfl | exact Ok.sjoin rfl rfl rfl (by simp only [List.length_append, List.length_cons, List.length_nil]; omega) | exact Ok.pe)) | ((first | apply Ca | (apply Cb; (· exact nxE))); (· first | exact Ok.e0)) | refine Sx ?_ | (refine Sy (fun h => ?_) (fun h => ?_) <;> try (exfalso; omega; done)) | refine Sz (fun h => ?_) (fun h => ?_))
      refine Ya ?_
      (apply Le.headZ (hs := []) [] rfl)
      all_goals (try dsimp only [srcs])
      (case' hfr => (repeat' (first | refine La ?_ ?_ | exact Lc | refine Lo ?_ | refine ⟨⟨_, rfl, ?_⟩, ?_⟩ | refine Lx ?_)))
      all_goals (first | exact Ld | exact trivial | (rfl))
  ·
    rw [hall, List.drop_of_length_le (by omega)]
    repeat' (first | ((first | apply Ba | (apply Bb; (· rfl); (· rfl)) | (apply Bc; (· exact nxE)) | (apply Bd; (· rfl); (· rfl); (· exact nxE))); (· first | exact Ok.seqS rfl rfl rfl | exact Ok.sneS rfl rfl rfl | exact Ok.slen rfl rfl | exact Ok.sjoin rfl rfl rfl (by simp only [List.length_append, List.length_cons, List.length_nil]; omega) | exact Ok.pe)) | ((first | apply Ca | (apply Cb; (· exact nxE))); (· first | exact Ok.e0)) | refine Sx ?_ | (refine Sy (fun h => ?_) (fun h => ?_) <;> try (exfalso; omega; done)) | refine Sz (fun h => ?_) (fun h => ?_))
    refine Ya ?_
    (apply Le.headZ (hs := []) [] rfl)
    all_goals (try dsimp only [srcs])
    (case' hfr => (repeat' (first | refine La ?_ ?_ | exact Lc | refine Lo ?_ | refine ⟨⟨_, rfl, ?_⟩, ?_⟩ | refine Lx ?_)))
    all_goals (first | exact Ld | exact trivial | (rfl))
theorem containsFuncFi_ac [Mode] (fs : List Fi) (hn : fs.length ≤ 100000000) : AC Tryz.prog 58 [FL fs, .clo (.func 59) [] []] H0 (Bo (fs.any fun f => !wrF f)) H0 := by
  have hI := indexFuncFi_ac fs hn
  have hA := idxOf_any (f := fun f => !wrF f) fs 0
  rw [← hA]
  refine AC.of_body 0 Tryz.func58 rfl (fun l h => absurd rfl h) (fun C hC => ?_)
  have hD : ∀ l, ¬ C.D0 l := fun l h => (hC l).1 h rfl
  simp only [startFr, Tryz.ntmps58, List.length_cons, List.length_nil, Nat.reduceAdd, Nat.reduceSub, List.replicate_succ, List.replicate_zero, List.cons_append, List.nil_append]
  repeat' (first | ((first | apply Ba | (apply Bb; (· rfl); (· rfl)) | (apply Bc; (· exact nxE)) | (apply Bd; (· rfl); (· rfl); (· exact nxE))); (· first | exact OpOk.call0 [] rfl rfl hI (.inl rfl) (fun _ => by simp [rn]) (ARs.cons (AR.dd _) (ARs.cons (AR.clo' .nil .nil) ARs.nil)) | exact Ok.seqS rfl rfl rfl | exact Ok.sneS rfl rfl rfl | exact Ok.slen rfl rfl | exact Ok.sjoin rfl rfl rfl (by simp only [List.length_append, List.length_cons, List.length_nil]; omega) | exact Ok.pe)) | ((first | apply Ca | (apply Cb; (· exact nxE))); (· first | exact Ok.e0)) | refine Sx ?_ | (refine Sy (fun h => ?_) (fun h => ?_) <;> try (exfalso; omega; done)) | refine Sz (fun h => ?_) (fun h => ?_))
  refine Ya ?_
  (apply Le.headZ (hs := []) [] rfl)
  all_goals (try dsimp only [srcs])
  (case' hfr => (repeat' (first | refine La ?_ ?_ | exact Lc | refine Lo ?_ | refine ⟨⟨_, rfl, ?_⟩, ?_⟩ | refine Lx ?_)))
  all_goals (first | exact Ld | exact trivial | (rfl))
theorem isWritable_ac [Mode] (fs : List Fi) (hn : fs.length ≤ 100000000) : AC Tryz.prog 37 [FL fs] H0 (Bo (wrA fs)) H0 := by
  have hA : (!fs.any fun f => !wrF f) = fs.all wrF := by rw [List.all_eq_not_any_not]
  have hI := containsFuncFi_ac fs hn
  by_cases hl : fs.length ≤ 500
  · have e : wrA fs = !fs.any fun f => !wrF f := by unfold wrA; rw [hA, decide_eq_true hl, Bool.and_true]
    rw [e]
    refine AC.of_body 0 Tryz.func37 rfl (fun l h => absurd rfl h) (fun C hC => ?_)
    have hD : ∀ l, ¬ C.D0 l := fun l h => (hC l).1 h rfl
    simp only [startFr, Tryz.ntmps37, List.length_cons, List.length_nil, Nat.reduceAdd, Nat.reduceSub, List.replicate_succ, List.replicate_zero, List.cons_append, List.nil_append]
    repeat' (first | ((first | apply Ba | (apply Bb; (· rfl); (· rfl)) | (apply Bc; (· exact nxE)) | (apply Bd; (· rfl); (· rfl); (· exact nxE))); (· first | exact OpOk.call0 [] rfl rfl hI (.inl rfl) (fun _ => by simp [rn]) (ARs.cons (AR.dd _) (ARs.cons (AR.clo' .nil .nil) ARs.nil)) | exact Ok.seqS rfl rfl rfl | exact Ok.sneS rfl rfl rfl | exact Ok.slen rfl rfl | exact Ok.sjoin rfl rfl rfl (by simp only [List.length_append, List.length_cons, List.length_nil]; omega) | exact Ok.pe)) | ((first | apply Ca | (apply Cb; (· exact nxE))); (· first | exact Ok.e0)) | refine Sx ?_ | (refine Sy (fun h => ?_) (fun h => ?_) <;> try (exfalso; omega; done)) | refine Sz (fun h => ?_) (fun h => ?_))
    refine Ya ?_
    (apply Le.headZ (hs := []) [] rfl)
    all_goals (try dsimp only [srcs])
    (case' hfr => (repeat' (first | refine La ?_ ?_ | exact Lc | refine Lo ?_ | refine ⟨⟨_, rfl, ?_⟩, ?_⟩ | refine Lx ?_)))
    all_goals (first | exact Ld | exact trivial | (rfl))
  · have e : wrA fs = false := by unfold wrA; rw [decide_eq_false hl, Bool.and_false]
    rw [e]
    refine AC.of_body 0 Tryz.func37 rfl (fun l h => absurd rfl h) (fun C hC => ?_)
    have hD : ∀ l, ¬ C.D0 l := fun l h => (hC l).1 h rfl
    simp only [startFr, Tryz.ntmps37, List.length_cons, List.length_nil, Nat.reduceAdd, Nat.reduceSub, List.replicate_succ, List.replicate_zero, List.cons_append, List.nil_append]
    repeat' (first | ((first | apply Ba | (apply Bb; (· rfl); (· rfl)) | (apply Bc; (· exact nxE)) | (apply Bd; (· rfl); (· rfl); (· exact nxE))); (· first | exact OpOk.call0 [] rfl rfl hI (.inl rfl) (fun _ => by simp [rn]) (ARs.cons (AR.dd _) (ARs.cons (AR.clo' .nil .nil) ARs.nil)) | exact Ok.seqS rfl rfl rfl | exact Ok.sneS rfl rfl rfl | exact Ok.slen rfl rfl | exact Ok.sjoin rfl rfl rfl (by simp only [List.length_append, List.length_cons, List.length_nil]; omega) | exact Ok.pe)) | ((first | apply Ca | (apply Cb; (· exact nxE))); (· first | exact Ok.e0)) | refine Sx ?_ | (refine Sy (fun h => ?_) (fun h => ?_) <;> try (exfalso; omega; done)) | refine Sz (fun h => ?_) (fun h => ?_))
    refine Ya ?_
    (apply Le.headZ (hs := []) [] rfl)
    all_goals (try dsimp only [srcs])
    (case' hfr => (repeat' (first | refine La ?_ ?_ | exact Lc | refine Lo ?_ | refine ⟨⟨_, rfl, ?_⟩, ?_⟩ | refine Lx ?_)))
    all_goals (first | exact Ld | exact trivial | (rfl))
/-! Lines. -/
/-- The chain after a firing. -/
def nxI (c : Int) (f : Fi) : Int := (31 * c + 7 * f.e + f.t).tmod 9973
theorem nxI_bd [Mode] {c : Int} {f : Fi} (h0 : 0 ≤ c) (hf : wrF f = true) : 0 ≤ nxI c f ∧ nxI c f < 9973 := by
  obtain ⟨⟨h1, _⟩, h2, _⟩ := wrF_iff.1 hf
  unfold nxI
  rw [Int.tmod_eq_emod_of_nonneg (by omega)]
  omega
/-- The line of a firing. -/
def trL (c : Int) (f : Fi) : List UInt8 := dec f.e.toNat ++ [32] ++ dec f.t.toNat ++ [32] ++ dec (nxI c f).toNat
def trN (c : Int) (f : Fi) : List UInt8 := trL c f ++ [10]
theorem trN_len [Mode] {c : Int} {f : Fi} (h0 : 0 ≤ c) (hf : wrF f = true) : (trN c f).length ≤ 60 := by
  obtain ⟨⟨h1, h2⟩, h3, h4⟩ := wrF_iff.1 hf
  have hb := nxI_bd h0 hf
  have l1 := dec_len f.e.toNat (by omega)
  have l2 := dec_len f.t.toNat (by omega)
  have l3 := dec_len (nxI c f).toNat (by omega)
  simp only [trN, trL, List.length_append, List.length_cons, List.length_nil]
  omega
theorem l28Next_ac [Mode] (c : Int) (f : Fi) (h0 : 0 ≤ c) (h1 : c < 9973) (hf : wrF f = true) : AC Tryz.prog 40 [I c, f.av] H0 (I (nxI c f)) H0 := by
  obtain ⟨⟨h2, h3⟩, h4, h5⟩ := wrF_iff.1 hf
  obtain ⟨e, n, t⟩ := f
  simp only at h2 h3 h4 h5
  refine AC.of_body 0 Tryz.func40 rfl (fun l h => absurd rfl h) (fun C hC => ?_)
  have hD : ∀ l, ¬ C.D0 l := fun l h => (hC l).1 h rfl
  simp only [startFr, Tryz.ntmps40, List.length_cons, List.length_nil, Nat.reduceAdd, Nat.reduceSub, List.replicate_succ, List.replicate_zero, List.cons_append, List.nil_append]
  repeat' (first | ((first | apply Ba | (apply Bb; (· rfl); (· rfl)) | (apply Bc; (· exact nxE)) | (apply Bd; (· rfl); (· rfl); (· exact nxE))); (· first | exact Ok.rem rfl rfl rfl (by decide) | exact Ok.seqS rfl rfl rfl | exact Ok.sneS rfl rfl rfl | exact Ok.slen rfl rfl | exact Ok.sjoin rfl rfl rfl (by simp only [List.length_append, List.length_cons, List.length_nil]; omega) | exact Ok.pe)) | ((first | apply Ca | (apply Cb; (· exact nxE))); (· first | exact Ok.e0)) | refine Sx ?_ | (refine Sy (fun h => ?_) (fun h => ?_) <;> try (exfalso; omega; done)) | refine Sz (fun h => ?_) (fun h => ?_))
  refine Ya ?_
  (apply Le.headZ (hs := []) [] rfl)
  all_goals (try dsimp only [srcs])
  (case' hfr => (repeat' (first | refine La ?_ ?_ | exact Lc | refine Lo ?_ | refine ⟨⟨_, rfl, ?_⟩, ?_⟩ | refine Lx ?_)))
  all_goals (first | exact Ld | exact trivial | (rfl))
set_option maxHeartbeats 1000000 in
theorem traceLine_ac [Mode] [HasTab] (c : Int) (f : Fi) (h0 : 0 ≤ c) (h1 : c < 9973) (hf : wrF f = true) : AC Tryz.prog 61 [f.av, I c] H0 (.tup [Str (trN c f), I (nxI c f)]) H0 := by
  obtain ⟨⟨h2, h3⟩, h4, h5⟩ := wrF_iff.1 hf
  obtain ⟨h6, h7⟩ := nxI_bd h0 hf
  have l1 := dec_len f.e.toNat (by omega)
  have l2 := dec_len f.t.toNat (by omega)
  have l3 := dec_len (nxI c f).toNat (by omega)
  have k1 := decimalP_ac f.e h2 (by omega)
  have k2 := decimalP_ac f.t h4 (by omega)
  have k3 := decimalP_ac (nxI c f) h6 (by omega)
  unfold trN trL
  unfold nxI at *
  obtain ⟨e, n, t⟩ := f
  simp only at *
  refine AC.of_body 0 Tryz.func61 rfl (fun l h => absurd rfl h) (fun C hC => ?_)
  have hD : ∀ l, ¬ C.D0 l := fun l h => (hC l).1 h rfl
  simp only [startFr, Tryz.ntmps61, List.length_cons, List.length_nil, Nat.reduceAdd, Nat.reduceSub, List.replicate_succ, List.replicate_zero, List.cons_append, List.nil_append]
  repeat' (first | ((first | apply Ba | (apply Bb; (· rfl); (· rfl)) | (apply Bc; (· exact nxE)) | (apply Bd; (· rfl); (· rfl); (· exact nxE))); (· first | exact Kz rfl rfl (k1) (Ad An) | exact Kz rfl rfl (k2) (Ad An) | exact Kz rfl rfl (k3) (Ad An) | exact Ok.rem rfl rfl rfl (by decide) | exact Ok.seqS rfl rfl rfl | exact Ok.sneS rfl rfl rfl | exact Ok.slen rfl rfl | exact Ok.sjoin rfl rfl rfl (by simp only [List.length_append, List.length_cons, List.length_nil]; omega) | exact Ok.pe)) | ((first | apply Ca | (apply Cb; (· exact nxE))); (· first | exact Ok.e0)) | refine Sx ?_ | (refine Sy (fun h => ?_) (fun h => ?_) <;> try (exfalso; omega; done)) | refine Sz (fun h => ?_) (fun h => ?_))
  refine Yb ?_
  (apply Le.headZ (hs := []) [] rfl)
  all_goals (try dsimp only [srcs])
  (case' hfr => (repeat' (first | refine La ?_ ?_ | exact Lc | refine Lo ?_ | refine ⟨⟨_, rfl, ?_⟩, ?_⟩ | refine Lx ?_)))
  all_goals (first | exact Ld | exact trivial | (rfl))
/-- The chain after all firings, and their text. -/
def chA : Int → List Fi → Int
  | c, [] => c
  | c, f :: fs => chA (nxI c f) fs
def trT : Int → List Fi → List UInt8
  | _, [] => []
  | c, f :: fs => trN c f ++ trT (nxI c f) fs
theorem chA_snoc [Mode] {f : Fi} : ∀ {c : Int} {fs : List Fi}, chA c (fs ++ [f]) = nxI (chA c fs) f
  | c, [] => rfl
  | c, g :: fs => by rw [List.cons_append, chA, chA, chA_snoc]
theorem trT_snoc [Mode] {f : Fi} : ∀ {c : Int} {fs : List Fi}, trT c (fs ++ [f]) = trT c fs ++ trN (chA c fs) f
  | c, [] => by simp [trT, chA]
  | c, g :: fs => by rw [List.cons_append, trT, trT, trT_snoc, chA, List.append_assoc]
theorem chA_bd [Mode] : ∀ {c : Int} {fs : List Fi}, 0 ≤ c → c < 9973 → fs.all wrF = true → 0 ≤ chA c fs ∧ chA c fs < 9973
  | c, [], h0, h1, _ => ⟨h0, h1⟩
  | c, f :: fs, h0, h1, hf => by
    rw [List.all_cons, Bool.and_eq_true] at hf
    have := nxI_bd h0 hf.1
    show 0 ≤ chA (nxI c f) fs ∧ chA (nxI c f) fs < 9973
    exact chA_bd this.1 this.2 hf.2
theorem trT_len [Mode] : ∀ {c : Int} {fs : List Fi}, 0 ≤ c → fs.all wrF = true → (trT c fs).length ≤ 60 * fs.length
  | c, [], _, _ => by simp [trT]
  | c, f :: fs, h0, hf => by
    rw [List.all_cons, Bool.and_eq_true] at hf
    have h1 := trN_len h0 hf.1
    have h2 := trT_len (nxI_bd h0 hf.1).1 hf.2
    rw [trT, List.length_append, List.length_cons]
    omega
end Go.Proofs.YtofakjlamoigcaaGreatDoor
end

section
namespace Go.Proofs.YtofakjlamoigcaaGreatDoor
set_option linter.unusedSimpArgs false
set_option linter.unusedVariables false
open Go Go.RowKit

/-- A contract of the reading, used in the machine's terms. -/
theorem AC.at [Mode] {P : Program} {f : FuncId} {args : List AV} {res : AV} {w : World} {vs : List Value} (h : AC P f args H0 res H0) (hg : Glb (fun b => b < w.heap.size) w) (hv : VRs (fun _ => none) (fun b => b < w.heap.size) w args vs) :
    Calls P f vs.toArray w fun e w' => ∃ v ι F, e = .returned v ∧ VR ι F w' res v ∧ Below w.heap.size w w' := by
  refine (h (fun _ => none) (fun b => b < w.heap.size) w vs ⟨fun l o h => (by cases h), fun l l' b s s' h => absurd rfl h, fun l b s h => absurd rfl h, fun b h => h, hg⟩ (fun _ _ => rfl) hv).mono ?_
  rintro e w' ⟨v, ι', F', rfl, hr, _, hst, _⟩
  exact ⟨v, ι', F', rfl, hr, hst.os, hst.tape, hst.output, hst.size, fun b hb => hst.block b hb fun ⟨l, hl, _⟩ => absurd rfl hl⟩
def Fi.enc (f : Fi) : List Value := [.int .i64 f.e, .int .i64 f.n, .int .i64 f.t]
end Go.Proofs.YtofakjlamoigcaaGreatDoor
end

section
namespace Go.Proofs.YtofakjlamoigcaaGreatDoor
set_option linter.unusedSimpArgs false
set_option linter.unusedVariables false
open Go Go.RowKit Go.ChangeShapes Go.WideShapes Go.Deep Go.ChangeMaps

instance : Inhabited Fi := ⟨⟨0, 0, 0⟩⟩
theorem Fi.enc_len (f : Fi) : f.enc.length = 3 := rfl
section
variable {H : Type} {enc : TypeId × Value → H} {w : World} {base : Nat} {spare : Nat → Bool} {held : Bool}
set_option maxRecDepth 100000 in
theorem rdt_text {r : Reach} {b0 : Nat} {v : Value} {d : DataW H} {p : List MemPlace} (hv : Value.okWide Tryz.prog w r b0 9 v) (h : DataW.Trod enc Tryz.prog w base spare held 9 v d p) : ∃ l : List UInt8, v = .string ⟨l.toArray⟩ ∧ l.length ≤ maxLen := by
  obtain ⟨s, rfl, _, _, h1⟩ := open_string Tryz.underlying9 hv h
  exact ⟨s.data.toList, congrArg Value.string (mk_eta s), by simpa using h1⟩
end
end Go.Proofs.YtofakjlamoigcaaGreatDoor
end

section
namespace Go.Proofs.YtofakjlamoigcaaGreatDoor
set_option linter.unusedSimpArgs false
set_option linter.unusedVariables false
open Go Go.RowKit
attribute [local irreducible] AL AD AW OpOk Le AC thenQ blockQ EndQ

section
variable {P : Program} {o : Oper} {A : Operand → AV} {H : Heap} {new : Nat} {t t' : TypeId} {x y : Operand} {a : List UInt8}
theorem Ok.sneSame [Mode] (ho : o.op = .binOp .neq t x y t') (hx : A x = Str a) (hy : A y = Str a) : OpOk P o A [] H new (Bo false) [] := by
  have := Ok.sneS (P := P) (H := H) (new := new) ho hx hy
  rwa [decide_eq_false (by simp)] at this
end
end Go.Proofs.YtofakjlamoigcaaGreatDoor
end

section
namespace Go.Proofs.YtofakjlamoigcaaGreatDoor
set_option linter.unusedSimpArgs false
set_option linter.unusedVariables false
open Go Go.RowKit
attribute [local irreducible] AL AD AW OpOk Le AC thenQ blockQ EndQ

abbrev SL (ss : List (List UInt8)) : AV := .d (.sl 1 (stR ss))
abbrev SO (ss : List (List UInt8)) : AObj := dobj 1 (stR ss)
theorem stR_app [Mode] (a b : List (List UInt8)) : stR (a ++ b) = stR a ++ stR b := by simp [stR]
theorem stR_get [Mode] {ss : List (List UInt8)} {i : Nat} {s : List UInt8} (h : ss[i]? = some s) : (stR ss)[i]? = some [StrD s] := by simp [stR, h]
theorem stR_getI [Mode] {ss : List (List UInt8)} {i : Nat} {s : List UInt8} (h : ss[i]? = some s) : (stR ss)[((i : Nat) : Int).toNat]? = some [StrD s] := by rw [Int.toNat_natCast]; exact stR_get h
set_option maxHeartbeats 2000000 in
theorem l01Split_ac [Mode] (l : List UInt8) (c : UInt8) (hl : l.length ≤ 100000000) : AC Tryz.prog 68 [Str l, Byt c] H0 (own1 1 (spl c l).length) (hp1 (SO (spl c l))) := by
  rw [← stS_end]
  refine AC.of_body 0 Tryz.func68 rfl (fun l h => absurd rfl h) (fun C hC => ?_)
  have hD : ∀ l, ¬ C.D0 l := fun l h => (hC l).1 h rfl
  simp only [startFr, Tryz.ntmps68, List.length_cons, List.length_nil, Nat.reduceAdd, Nat.reduceSub, List.replicate_succ, List.replicate_zero, List.cons_append, List.nil_append]
  repeat' (first | ((first | apply Ba | (apply Bb; (· rfl); (· rfl)) | (apply Bc; (· exact nxE)) | (apply Bd; (· rfl); (· rfl); (· exact nxE))); (· first | exact Ok.seqS rfl rfl rfl | exact Ok.sneS rfl rfl rfl | exact Ok.slen rfl rfl | exact Ok.pe)) | ((first | apply Ca | (apply Cb; (· exact nxE))); (· first | exact Ok.e0)) | refine Sx ?_ | (refine Sy (fun h => ?_) (fun h => ?_) <;> try (exfalso; omega; done)) | refine Sz (fun h => ?_) (fun h => ?_))
  refine AW.loop (X := {k : Nat // k ≤ l.length + 1}) (fun k => ⟨[Str l, Byt c, Oo, Oo, Oo, .own 1 ⟨0, []⟩ 0 (stS c l (k.1 : Nat)).2.length, I ((stS c l (k.1 : Nat)).1 : Nat), I (k.1 : Nat), Oo, Oo, Oo, Oo, Oo, Oo, Oo, Oo, Oo, Oo, Oo, Oo, Oo, Oo, Oo, Oo, Oo, Oo, Oo, Oo, Oo, Oo, Oo, Oo, Oo, Oo, Oo, Oo], heapL [(⟨0, []⟩, ⟨0, []⟩, SO (stS c l k.1).2)], 900⟩) (fun k => l.length + 1 - k.1) ⟨0, Nat.zero_le _⟩ ?_ (fun k => ?_)
  ·
    (apply Le.headZ [_] rfl)
    all_goals (try dsimp only [srcs])
    (case' hfr | hob => (repeat' (first | refine La ?_ ?_ | exact Lc | refine Lo ?_ | refine ⟨⟨_, rfl, ?_⟩, ?_⟩ | refine Lx ?_)))
    all_goals (first | (rfl) | exact Ld)
  obtain ⟨k, hk⟩ := k
  simp only
  have hle := stS_le c l k
  have hsl := stS_len c l k
  have hol : (stR (stS c l k).2).length = (stS c l k).2.length := stR_len _
  by_cases hlt : k < l.length + 1
  · by_cases hkl : k = l.length
    · have hs : stS c l (k + 1) = (k + 1, (stS c l k).2 ++ [(l.drop (stS c l k).1).take (k - (stS c l k).1)]) := by rw [stS, if_pos (.inl hkl)]
      repeat' (first | ((first | apply Ba | (apply Bb; (· rfl); (· rfl)) | (apply Bc; (· exact nxE)) | (apply Bd; (· rfl); (· rfl); (· exact nxE))); (· first | exact Ok.sBoth rfl rfl rfl rfl rfl rfl (by omega) (by omega) | exact Ok.seqS rfl rfl rfl | exact Ok.sneS rfl rfl rfl | exact Ok.slen rfl rfl | exact Ok.append1 (row := [StrD ((l.drop (stS c l k).1).take (k - (stS c l k).1))]) rfl rfl (by decide) rfl rfl hol rfl rfl rfl (by rfl) (by omega) (by omega) | exact Ok.pe)) | ((first | apply Ca | (apply Cb; (· exact nxE))); (· first | exact Ok.append1 (row := [StrD ((l.drop (stS c l k).1).take (k - (stS c l k).1))]) rfl rfl (by decide) rfl rfl hol rfl rfl rfl (by rfl) (by omega) (by omega) | exact Ok.e0)) | refine Sx ?_ | (refine Sy (fun h => ?_) (fun h => ?_) <;> try (exfalso; omega; done)) | refine Sz (fun h => ?_) (fun h => ?_))
      refine ⟨⟨k + 1, by omega⟩, ?_, by simp only; omega⟩
      (apply Le.headZ [_] rfl)
      all_goals (try dsimp only [srcs])
      (case' hfr | hob => (repeat' (first | refine La ?_ ?_ | exact Lc | refine Lo ?_ | refine ⟨⟨_, rfl, ?_⟩, ?_⟩ | refine Lx ?_)))
      all_goals (first | ((first | (rw [hs, List.length_append, List.length_singleton]; done) | (rw [hs]; rfl) | (rw [hs, stR_app]; rfl))) | exact Ld)
    · obtain ⟨x, hx⟩ : ∃ x, l[k]? = some x := ⟨l[k], List.getElem?_eq_getElem (by omega)⟩
      have hx' : l[((k : Nat) : Int).toNat]? = some x := by rw [Int.toNat_natCast]; exact hx
      by_cases hc : x = c
      · have hs : stS c l (k + 1) = (k + 1, (stS c l k).2 ++ [(l.drop (stS c l k).1).take (k - (stS c l k).1)]) := by rw [stS, if_pos (.inr (by rw [hx, hc]))]
        subst hc
        repeat' (first | ((first | apply Ba | (apply Bb; (· rfl); (· rfl)) | (apply Bc; (· exact nxE)) | (apply Bd; (· rfl); (· rfl); (· exact nxE))); (· first | exact Ok.sidx rfl rfl rfl (by omega) hx' | exact Ok.sBoth rfl rfl rfl rfl rfl rfl (by omega) (by omega) | exact Ok.seqS rfl rfl rfl | exact Ok.sneS rfl rfl rfl | exact Ok.slen rfl rfl | exact Ok.append1 (row := [StrD ((l.drop (stS x l k).1).take (k - (stS x l k).1))]) rfl rfl (by decide) rfl rfl hol rfl rfl rfl (by rfl) (by omega) (by omega) | exact Ok.pe)) | ((first | apply Ca | (apply Cb; (· exact nxE))); (· first | exact Ok.append1 (row := [StrD ((l.drop (stS x l k).1).take (k - (stS x l k).1))]) rfl rfl (by decide) rfl rfl hol rfl rfl rfl (by rfl) (by omega) (by omega) | exact Ok.e0)) | refine Sx ?_ | (refine Sy (fun h => ?_) (fun h => ?_) <;> try (exfalso; omega; done)) | refine Sz (fun h => ?_) (fun h => ?_))
        refine ⟨⟨k + 1, by omega⟩, ?_, by simp only; omega⟩
        (apply Le.headZ [_] rfl)
        all_goals (try dsimp only [srcs])
        (case' hfr | hob => (repeat' (first | refine La ?_ ?_ | exact Lc | refine Lo ?_ | refine ⟨⟨_, rfl, ?_⟩, ?_⟩ | refine Lx ?_)))
        all_goals (first | ((first | (rw [hs, List.length_append, List.length_singleton]; done) | (rw [hs]; rfl) | (rw [hs, stR_app]; rfl))) | exact Ld)
      · have hs : stS c l (k + 1) = stS c l k := by rw [stS, if_neg (by rw [hx]; simp [hc]; exact hkl)]
        have hne : ¬ ((x.toNat : Int) = c.toNat) := fun e => hc (UInt8.toNat_inj.1 (by omega))
        repeat' (first | ((first | apply Ba | (apply Bb; (· rfl); (· rfl)) | (apply Bc; (· exact nxE)) | (apply Bd; (· rfl); (· rfl); (· exact nxE))); (· first | exact Ok.sidx rfl rfl rfl (by omega) hx' | exact Ok.seqS rfl rfl rfl | exact Ok.sneS rfl rfl rfl | exact Ok.slen rfl rfl | exact Ok.pe)) | ((first | apply Ca | (apply Cb; (· exact nxE))); (· first | exact Ok.e0)) | refine Sx ?_ | (refine Sy (fun h => ?_) (fun h => ?_) <;> try (exfalso; omega; done)) | refine Sz (fun h => ?_) (fun h => ?_))
        refine ⟨⟨k + 1, by omega⟩, ?_, by simp only; omega⟩
        (apply Le.headZ [_] rfl)
        all_goals (try dsimp only [srcs])
        (case' hfr | hob => (repeat' (first | refine La ?_ ?_ | exact Lc | refine Lo ?_ | refine ⟨⟨_, rfl, ?_⟩, ?_⟩ | refine Lx ?_)))
        all_goals (first | ((rw [hs]; done)) | exact Ld)
  ·
    obtain rfl : k = l.length + 1 := by omega
    repeat' (first | ((first | apply Ba | (apply Bb; (· rfl); (· rfl)) | (apply Bc; (· exact nxE)) | (apply Bd; (· rfl); (· rfl); (· exact nxE))); (· first | exact Ok.seqS rfl rfl rfl | exact Ok.sneS rfl rfl rfl | exact Ok.slen rfl rfl | exact Ok.pe)) | ((first | apply Ca | (apply Cb; (· exact nxE))); (· first | exact Ok.e0)) | refine Sx ?_ | (refine Sy (fun h => ?_) (fun h => ?_) <;> try (exfalso; omega; done)) | refine Sz (fun h => ?_) (fun h => ?_))
    refine Ya ?_
    (apply Le.head [(⟨0, []⟩, _, _)])
    (case' hfr | hob => (repeat' (first | refine La ?_ ?_ | exact Lc | refine Lo ?_ | refine ⟨⟨_, rfl, ?_⟩, ?_⟩ | refine Lx ?_)))
    all_goals (first | exact Ld | (rfl))
end Go.Proofs.YtofakjlamoigcaaGreatDoor
end

section
namespace Go.Proofs.YtofakjlamoigcaaGreatDoor
set_option linter.unusedSimpArgs false
set_option linter.unusedVariables false
open Go Go.RowKit

theorem var_below [Mode] {w w' : World} {P : Program} {name : String} {cs : Array Value} (h : w.var? P name = some cs) (hb : Below w.heap.size w w') : w'.var? P name = some cs := by
  unfold World.var? at h ⊢
  rw [Option.bind_eq_some_iff] at h ⊢
  obtain ⟨g, h1, h2⟩ := h
  refine ⟨g, h1, ?_⟩
  have hlt : g < w.heap.size := by
    refine Nat.lt_of_not_le fun hn => ?_
    have hb : w.heap[g]? = none := by simp [hn]
    simp [hb] at h2
  rw [hb.block _ hlt]; exact h2
theorem decimal_calls [Mode] (n : Int) (h0 : -9223372036854775808 ≤ n) (h1 : n ≤ 9223372036854775807) (w : World) (ht : Lib.TabIs Tryz.prog w "internal/strconv.uint64pow10" .u64 Lib.pow10Tab) :
    Calls Tryz.prog 85 #[.int .i64 n] w fun e w' => e = .returned (.string ⟨(Lib.itoa n).toArray⟩) ∧ Below w.heap.size w w' := by
  go_enter Tryz.func85, Tryz.ntmps85
  go_wp2_with (go_at_call 96; refine (Tryz.strconv_FormatInt_10 n h0 h1 w ht).mono ?_; rintro e w' ⟨rfl, k, os, rfl⟩)
  go_ret
  exact ⟨rfl, Lib.below_grow _ _ (Nat.le_refl _) _ _⟩
set_option maxRecDepth 8000 in
set_option maxHeartbeats 1600000 in
theorem readNumber_calls [Mode] (l : List UInt8) (hl : l.length ≤ 100000000) (w : World) (ht : Lib.TabIs Tryz.prog w "internal/strconv.uint64pow10" .u64 Lib.pow10Tab)
    (e1 : ∃ t p, w.var? Tryz.prog "strconv.ErrSyntax" = some #[.iface t p]) (e2 : ∃ t p, w.var? Tryz.prog "strconv.ErrRange" = some #[.iface t p]) :
    Calls Tryz.prog 67 #[.string ⟨l.toArray⟩] w fun e w' => e = .returned (.tuple #[.int .i64 (rdN l).1, .bool (rdN l).2]) ∧ Below w.heap.size w w' := by
  have hsz := size_mk l
  cases h : Lib.parseIntB 64 l with
  | ok v =>
    have hbd := Lib.parseIntB_bounds (B := 64) (l := l) (v := v) h
    have h' : Lib.parseIntB 64 (ByteArray.mk l.toArray).data.toList = .ok v := by simpa using h
    by_cases hq : Lib.itoa v = l
    · have hr : rdN l = (v, true) := by unfold rdN; rw [h]; simp [hq]
      rw [hr]
      go_enter Tryz.func67, Tryz.ntmps67
      go_wp2_with (first
        | (go_at_call 89; refine (Tryz.strconv_ParseInt_10_at64_ok ⟨l.toArray⟩ (by rw [hsz]; omega) v h' w).mono ?_; rintro e w1 ⟨rfl, hw1⟩; have hb1 : Below w.heap.size w w1 := (by rcases hw1 with rfl | ⟨t, rfl⟩; (· exact Below.refl _ _); (· exact Lib.bytesWorld_below _ _ _)); clear hw1)
        | (go_at_call 85; refine (decimal_calls v (by omega) (by omega) _ (var_below ht hb1)).mono ?_; rintro e w2 ⟨rfl, hb2⟩))
      go_ret2
      exact ⟨rfl, hb1.trans (hb2.mono hb1.size)⟩
    · have hr : rdN l = (0, false) := by unfold rdN; rw [h]; simp [hq]
      rw [hr]
      have hq2 : (Lib.itoa v == l) = false := by simp [hq]
      go_enter Tryz.func67, Tryz.ntmps67
      go_wp2_with (first
        | (go_at_call 89; refine (Tryz.strconv_ParseInt_10_at64_ok ⟨l.toArray⟩ (by rw [hsz]; omega) v h' w).mono ?_; rintro e w1 ⟨rfl, hw1⟩; have hb1 : Below w.heap.size w w1 := (by rcases hw1 with rfl | ⟨t, rfl⟩; (· exact Below.refl _ _); (· exact Lib.bytesWorld_below _ _ _)); clear hw1)
        | (go_at_call 85; refine (decimal_calls v (by omega) (by omega) _ (var_below ht hb1)).mono ?_; rintro e w2 ⟨rfl, hb2⟩))
      go_ret2
      exact ⟨rfl, hb1.trans (hb2.mono hb1.size)⟩
  | «syntax» =>
    obtain ⟨tp, p, hv⟩ := e1
    have hr : rdN l = (0, false) := by unfold rdN; rw [h]
    rw [hr]
    have h' : Lib.parseIntB 64 (ByteArray.mk l.toArray).data.toList = .«syntax» := by simpa using h
    have hcell : w.cell? ⟨1, 0, none⟩ = some (.iface tp p) := by
      refine (World.var?_cell ?h hv 0).trans ?t
      case h => kernel_rfl
      case t => simp
    go_enter Tryz.func67, Tryz.ntmps67
    go_wp2_with (go_at_call 89; refine (Tryz.strconv_ParseInt_10_at64_syntax ⟨l.toArray⟩ (by rw [hsz]; omega) h' _ w hcell (.inr ⟨_, _, rfl⟩)).mono ?_; rintro e w1 ⟨N, rfl, _, _, hb1⟩)
    go_ret2
    exact ⟨rfl, hb1⟩
  | range =>
    obtain ⟨tp, p, hv⟩ := e2
    have hr : rdN l = (0, false) := by unfold rdN; rw [h]
    rw [hr]
    have h' : Lib.parseIntB 64 (ByteArray.mk l.toArray).data.toList = .range := by simpa using h
    have hcell : w.cell? ⟨2, 0, none⟩ = some (.iface tp p) := by
      refine (World.var?_cell ?h hv 0).trans ?t
      case h => kernel_rfl
      case t => simp
    go_enter Tryz.func67, Tryz.ntmps67
    go_wp2_with (go_at_call 89; refine (Tryz.strconv_ParseInt_10_at64_range ⟨l.toArray⟩ (by rw [hsz]; omega) h' _ w hcell (.inr ⟨_, _, rfl⟩)).mono ?_; rintro e w1 ⟨N, rfl, _, _, hb1⟩)
    go_ret2
    exact ⟨rfl, hb1⟩
theorem readNumber_ac [Mode] [HasTab] [HasErr] (l : List UInt8) (hl : l.length ≤ 100000000) : AC Tryz.prog 67 [Str l] H0 (.tup [I (rdN l).1, Bo (rdN l).2]) H0 := AC.ofCalls fun ι F w vs hs hv => by
  obtain ⟨hvl, hvv⟩ := hv
  match vs, hvl with
  | [v], _ =>
    have := (hvv 0 _ v rfl rfl).v_inv
    subst this
    obtain ⟨w0, hg, _, hvar⟩ := hs.gl.held
    obtain ⟨⟨t1, p1, k1⟩, t2, p2, k2⟩ := HasErr.err w0 hg
    refine (readNumber_calls l hl w (hvar _ _ _ (HasTab.tab w0 hg)) ⟨t1, p1, hvar _ _ _ k1⟩ ⟨t2, p2, hvar _ _ _ k2⟩).mono ?_
    rintro e w' ⟨rfl, hb⟩
    exact ⟨_, rfl, fun _ _ => VRs.tup (.cons (.d (.v _)) (.cons (.d (.v _)) .nil)), hb⟩
/-- A contract of a function that lays one new row and hands it back. -/
theorem AC.ofRow [Mode] {P : Program} {f : FuncId} {args : List AV} {rows : List (List D)} {k : Nat}
    (h : ∀ (ι : Iota) (F : Nat → Prop) (w : World) (vs : List Value), Sim ι F H0 w → VRs ι F w args vs → Calls P f vs.toArray w fun e w' => ∃ (cs : List Value) (T : TypeId) (cap : Nat), e = .returned (.slice (some ⟨w.heap.size, 0, none⟩) rows.length cap) ∧ w' = w.alloc (.cells cs.toArray T) ∧ rows.length ≤ cap ∧ cap * k ≤ cs.length ∧
      ∀ (i : Nat) r, rows[i]? = some r → r.length = k ∧ ∀ (j : Nat) c, r[j]? = some c → ∃ v, cs[i * k + j]? = some v ∧ DR F w c v) : AC P f args H0 (own1 k rows.length) (hp1 (dobj k rows)) := by
  intro ι F w vs hs hdom hv
  refine (h ι F w vs hs hv).mono ?_
  rintro e w' ⟨cs, T, cap, rfl, rfl, hcap, hlen, hrows⟩
  have hp := Post.alloc hs (new := 0) (fun k => hdom _ rfl) cs T (dobj k rows) (by simp only [dobj, List.length_map]; exact Nat.le_trans (Nat.mul_le_mul_right _ hcap) hlen) (fun i r hr => by
    simp only [dobj, List.getElem?_map, Option.map_eq_some_iff] at hr
    obtain ⟨r', hr', rfl⟩ := hr
    obtain ⟨h1, h2⟩ := hrows i r' hr'
    refine ⟨by show (r'.map AV.d).length = k; rw [List.length_map]; exact h1, fun j c hc => ?_⟩
    simp only [List.getElem?_map, Option.map_eq_some_iff] at hc
    obtain ⟨c', hc', rfl⟩ := hc
    obtain ⟨v, h3, h4⟩ := h2 j c' hc'
    exact ⟨v, h3, .d h4⟩) []
  refine ⟨_, _, _, rfl, ?_, hp.sim, hp.step.mono fun b ⟨l, hl, _⟩ => absurd hl Cov.nil, hp.sub, fun b hb => ?_, fun b ⟨l, h1, s, e1⟩ => ?_, fun l x h1 => absurd rfl h1⟩
  · have := VR.own (ι := updι ι ⟨0, []⟩ (some (w.heap.size, cs.length))) (F := F) (w := w.alloc (.cells cs.toArray T)) k ⟨0, []⟩ 0 rows.length w.heap.size cs.length cap (by simp [updι]) hcap (by simpa using hlen)
    simpa using this
  · rcases hp.sup b hb with h1 | ⟨l, hl, _⟩ | h1
    · exact .inl h1
    · exact absurd hl Cov.nil
    · exact .inr (.inr h1)
  · rcases hp.own l b s h1 e1 with ⟨l0, h2, _⟩ | h2
    · exact absurd rfl h2
    · exact .inr h2
theorem split_lists [Mode] (l : List UInt8) (c : UInt8) : ∃ ss : List ByteArray, Lib.splitB ⟨#[c]⟩ 0 (Lib.countB ⟨l.toArray⟩ ⟨#[c]⟩) ⟨l.toArray⟩ = ss ∧ ss.map (·.data.toList) = spl c l ∧ Lib.countB ⟨l.toArray⟩ ⟨#[c]⟩ + 1 = (spl c l).length := by
  refine ⟨_, rfl, ?_, ?_⟩
  · rw [Lib.splitB_data]
    have := split_spl c l
    exact this
  · have h1 := Lib.splitB_all ⟨#[c]⟩ (show 1 ≤ 1 from Nat.le_refl 1) 0 _ ⟨l.toArray⟩ rfl
    rw [← h1, ← split_spl c l]
    have h2 := Lib.splitB_data ⟨#[c]⟩ 0 (Lib.countB ⟨l.toArray⟩ ⟨#[c]⟩) ⟨l.toArray⟩
    have h3 := congrArg List.length h2
    rw [List.length_map] at h3
    exact h3
theorem iSplit_ac [Mode] [HasLen] (l : List UInt8) (c : UInt8) (hl : l.length ≤ 100000000) : AC Tryz.prog 66 [Str l, Str [c]] H0 (own1 1 (spl c l).length) (hp1 (SO (spl c l))) := by
  have hrl : (stR (spl c l)).length = (spl c l).length := stR_len _
  rw [← hrl]
  refine AC.ofRow fun ι F w vs hs hv => ?_
  have := hv.inv2; subst this
  obtain ⟨w0, hg, _, hvar⟩ := hs.gl.held
  obtain ⟨m, hm⟩ := HasLen.len w0 hg
  have hm' := hvar _ _ _ hm
  obtain ⟨ss, e1, e2, e3⟩ := split_lists l c
  refine (Tryz.strings_Split ⟨l.toArray⟩ ⟨[c].toArray⟩ m w (by rw [size_mk]; omega) (by refine (World.var?_cell ?h hm' 0).trans ?t; (· kernel_rfl); (· simp)) (show 1 ≤ 1 from Nat.le_refl 1)).mono ?_
  rintro e w' ⟨rfl, rfl⟩
  have hsl : ss.length = (spl c l).length := by rw [← e2, List.length_map]
  refine ⟨ss.map Value.string, 9, (spl c l).length, by rw [hrl]; exact congrArg Ending.returned (by rw [show ([c].toArray : Array UInt8) = #[c] from rfl, e3]), by rw [show ([c].toArray : Array UInt8) = #[c] from rfl, e1], by rw [hrl]; exact Nat.le_refl _, by simp [hsl], fun i r hr => ?_⟩
  simp only [stR, List.getElem?_map, Option.map_eq_some_iff] at hr
  obtain ⟨p, hp, rfl⟩ := hr
  rw [← e2, List.getElem?_map, Option.map_eq_some_iff] at hp
  obtain ⟨s, hs', rfl⟩ := hp
  refine ⟨rfl, fun j c' hc' => ?_⟩
  cases j with
  | succ j => simp at hc'
  | zero =>
    simp only [List.getElem?_cons_zero, Option.some.injEq] at hc'
    subst hc'
    refine ⟨.string s, by simp [hs'], ?_⟩
    have e : Value.string s = Value.string ⟨s.data.toList.toArray⟩ := congrArg Value.string (mk_eta s)
    rw [e]
    exact .v _
end Go.Proofs.YtofakjlamoigcaaGreatDoor
end

section
namespace Go.Proofs.YtofakjlamoigcaaGreatDoor
set_option linter.unusedSimpArgs false
set_option linter.unusedVariables false
open Go Go.RowKit
attribute [local irreducible] AL AD AW OpOk Le AC thenQ blockQ EndQ

theorem u8s [Mode] {x : Nat} (h0 : 48 ≤ x) (h1 : x < 256) : IntKind.i64.wrap (IntKind.u8.wrap ((x : Int) - 48)) = ((x - 48 : Nat) : Int) := by
  have e : IntKind.u8.wrap ((x : Int) - 48) = ((x - 48 : Nat) : Int) := by
    unfold IntKind.wrap
    simp [IntKind.signed, IntKind.bits]
    omega
  rw [e]
  exact wrap64_id (by omega) (by omega)
theorem digN_len [Mode] {l : List UInt8} (h : l.length < 1 ∨ 10 < l.length) : digN l = (0, false) := by rw [digN, if_pos h]
theorem digN_bad [Mode] {l : List UInt8} {x : UInt8} (hx : x ∈ l) (h : ¬ (48 ≤ x.toNat ∧ x.toNat ≤ 57)) : digN l = (0, false) := by
  unfold digN
  split
  · rfl
  · rw [if_neg (fun ha => h (ha x hx))]
theorem digN_all [Mode] {l : List UInt8} (h : ¬ (l.length < 1 ∨ 10 < l.length)) (ha : ∀ c ∈ l, 48 ≤ c.toNat ∧ c.toNat ≤ 57) : digN l = ((dgA l : Int), decide (dec (dgA l) = l)) := by
  rw [digN, if_neg h, if_pos ha]
set_option maxHeartbeats 2000000 in
theorem l01Digits_ac [Mode] (l : List UInt8) (hl : l.length ≤ 100000000) : AC Tryz.prog 104 [Str l] H0 (.tup [I (digN l).1, Bo (digN l).2]) H0 := by
  by_cases hlen : l.length < 1 ∨ 10 < l.length
  · rw [digN_len hlen]
    refine AC.of_body 0 Tryz.func104 rfl (fun l h => absurd rfl h) (fun C hC => ?_)
    have hD : ∀ l, ¬ C.D0 l := fun l h => (hC l).1 h rfl
    simp only [startFr, Tryz.ntmps104, List.length_cons, List.length_nil, Nat.reduceAdd, Nat.reduceSub, List.replicate_succ, List.replicate_zero, List.cons_append, List.nil_append]
    repeat' (first | ((first | apply Ba | (apply Bb; (· rfl); (· rfl)) | (apply Bc; (· exact nxE)) | (apply Bd; (· rfl); (· rfl); (· exact nxE))); (· first | exact Ok.seqS rfl rfl rfl | exact Ok.sneS rfl rfl rfl | exact Ok.slen rfl rfl | exact Ok.pe)) | ((first | apply Ca | (apply Cb; (· exact nxE))); (· first | exact Ok.e0)) | refine Sx ?_ | (refine Sy (fun h => ?_) (fun h => ?_) <;> try (exfalso; omega; done)) | refine Sz (fun h => ?_) (fun h => ?_))
    all_goals
      refine Yb ?_
      (apply Le.headZ (hs := []) [] rfl)
      all_goals (try dsimp only [srcs])
      (case' hfr => (repeat' (first | refine La ?_ ?_ | exact Lc | refine Lo ?_ | refine ⟨⟨_, rfl, ?_⟩, ?_⟩ | refine Lx ?_)))
      all_goals (first | exact Ld | exact trivial | (rfl))
  have hl10 : 10 ^ l.length ≤ 10 ^ 10 := Nat.pow_le_pow_right (by decide) (by omega)
  refine AC.of_body 0 Tryz.func104 rfl (fun l h => absurd rfl h) (fun C hC => ?_)
  have hD : ∀ l, ¬ C.D0 l := fun l h => (hC l).1 h rfl
  simp only [startFr, Tryz.ntmps104, List.length_cons, List.length_nil, Nat.reduceAdd, Nat.reduceSub, List.replicate_succ, List.replicate_zero, List.cons_append, List.nil_append]
  repeat' (first | ((first | apply Ba | (apply Bb; (· rfl); (· rfl)) | (apply Bc; (· exact nxE)) | (apply Bd; (· rfl); (· rfl); (· exact nxE))); (· first | exact Ok.seqS rfl rfl rfl | exact Ok.sneS rfl rfl rfl | exact Ok.slen rfl rfl | exact Ok.pe)) | ((first | apply Ca | (apply Cb; (· exact nxE))); (· first | exact Ok.e0)) | refine Sx ?_ | (refine Sy (fun h => ?_) (fun h => ?_) <;> try (exfalso; omega; done)) | refine Sz (fun h => ?_) (fun h => ?_))
  refine AW.loop (X := {k : Nat // k ≤ l.length ∧ ∀ c ∈ l.take k, 48 ≤ c.toNat ∧ c.toNat ≤ 57}) (fun k => ⟨[Str l, Oo, Oo, Oo, I (dgA (l.take (k.1 : Nat)) : Nat), I (k.1 : Nat), Oo, Oo, Oo, Oo, Oo, Oo, Oo, Oo, Oo, Oo, Oo, Oo, Oo, Oo, Oo, Oo, Oo, Oo, Oo, Oo, Oo, Oo, Oo, Oo, Oo, Oo, Oo, Oo, Oo, Oo, Oo, Oo, Oo, Oo, Oo, Oo, Oo], heapL [], 900⟩) (fun k => l.length - k.1) ⟨0, Nat.zero_le _, by simp⟩ ?_ (fun k => ?_)
  ·
    (apply Le.headZ [] rfl)
    all_goals (try dsimp only [srcs])
    (case' hfr | hob => (repeat' (first | refine La ?_ ?_ | exact Lc | refine Lo ?_ | refine ⟨⟨_, rfl, ?_⟩, ?_⟩ | refine Lx ?_)))
    all_goals (first | (rfl) | exact Ld)
  obtain ⟨k, hk, hall⟩ := k
  simp only
  by_cases hlt : k < l.length
  · obtain ⟨x, hx⟩ : ∃ x, l[k]? = some x := ⟨l[k], List.getElem?_eq_getElem hlt⟩
    have hx' : l[((k : Nat) : Int).toNat]? = some x := by rw [Int.toNat_natCast]; exact hx
    have htk : l.take (k + 1) = l.take k ++ [x] := by rw [List.take_add_one, hx]; rfl
    have hxl : x.toNat < 256 := x.toNat_lt
    have hb1 := dgA_lt (l.take k) (fun c hc => (hall c hc).2)
    have hb2 : 10 ^ (l.take k).length ≤ 10 ^ 9 := Nat.pow_le_pow_right (by decide) (by simp; omega)
    by_cases hd : 48 ≤ x.toNat ∧ x.toNat ≤ 57
    · have hcv := u8s hd.1 hxl
      have hs : dgA (l.take (k + 1)) = 10 * dgA (l.take k) + (x.toNat - 48) := by rw [htk, dgA_snoc]
      have hsI : ((dgA (l.take (k + 1)) : Nat) : Int) = 10 * (dgA (l.take k) : Int) + ((x.toNat - 48 : Nat) : Int) := by rw [hs]; omega
      repeat' (first | ((first | apply Ba | (apply Bb; (· rfl); (· rfl)) | (apply Bc; (· exact nxE)) | (apply Bd; (· rfl); (· rfl); (· exact nxE))); (· first | exact Ok.sidx rfl rfl rfl (by omega) hx' | exact Ok.convII rfl rfl Tryz.underlying2 (by rw [Tryz.underlying5]; rfl) hcv | exact Ok.seqS rfl rfl rfl | exact Ok.sneS rfl rfl rfl | exact Ok.slen rfl rfl | exact Ok.pe)) | ((first | apply Ca | (apply Cb; (· exact nxE))); (· first | exact Ok.e0)) | refine Sx ?_ | (refine Sy (fun h => ?_) (fun h => ?_) <;> try (exfalso; omega; done)) | refine Sz (fun h => ?_) (fun h => ?_))
      refine ⟨⟨k + 1, by omega, by rw [htk]; intro c hc; rcases List.mem_append.1 hc with h | h; (· exact hall c h); (· rw [List.mem_singleton.1 h]; exact hd)⟩, ?_, by simp only; omega⟩
      (apply Le.headZ [] rfl)
      all_goals (try dsimp only [srcs])
      (case' hfr | hob => (repeat' (first | refine La ?_ ?_ | exact Lc | refine Lo ?_ | refine ⟨⟨_, rfl, ?_⟩, ?_⟩ | refine Lx ?_)))
      all_goals (first | ((first | (rw [hsI]; done) | omega)) | exact Ld)
    · rw [digN_bad (List.mem_of_getElem? hx) hd]
      repeat' (first | ((first | apply Ba | (apply Bb; (· rfl); (· rfl)) | (apply Bc; (· exact nxE)) | (apply Bd; (· rfl); (· rfl); (· exact nxE))); (· first | exact Ok.sidx rfl rfl rfl (by omega) hx' | exact Ok.seqS rfl rfl rfl | exact Ok.sneS rfl rfl rfl | exact Ok.slen rfl rfl | exact Ok.pe)) | ((first | apply Ca | (apply Cb; (· exact nxE))); (· first | exact Ok.e0)) | refine Sx ?_ | (refine Sy (fun h => ?_) (fun h => ?_) <;> try (exfalso; omega; done)) | refine Sz (fun h => ?_) (fun h => ?_))
      all_goals first
        | (exfalso; omega)
        | skip
      all_goals
        refine Yb ?_
        (apply Le.headZ (hs := []) [] rfl)
        all_goals (try dsimp only [srcs])
        (case' hfr => (repeat' (first | refine La ?_ ?_ | exact Lc | refine Lo ?_ | refine ⟨⟨_, rfl, ?_⟩, ?_⟩ | refine Lx ?_)))
        all_goals (first | exact Ld | exact trivial | (rfl))
  ·
    obtain rfl : k = l.length := by omega
    rw [List.take_length] at hall ⊢
    rw [digN_all hlen hall]
    have hb := dgA_lt l (fun c hc => (hall c hc).2)
    have hDg := l01Dec_ac (dgA l) (by omega)
    repeat' (first | ((first | apply Ba | (apply Bb; (· rfl); (· rfl)) | (apply Bc; (· exact nxE)) | (apply Bd; (· rfl); (· rfl); (· exact nxE))); (· first | exact Kz rfl rfl (hDg) (Ad An) | exact Ok.seqS rfl rfl rfl | exact Ok.sneS rfl rfl rfl | exact Ok.slen rfl rfl | exact Ok.pe)) | ((first | apply Ca | (apply Cb; (· exact nxE))); (· first | exact Ok.e0)) | refine Sx ?_ | (refine Sy (fun h => ?_) (fun h => ?_) <;> try (exfalso; omega; done)) | refine Sz (fun h => ?_) (fun h => ?_))
    refine Yb ?_
    (apply Le.headZ (hs := []) [] rfl)
    all_goals (try dsimp only [srcs])
    (case' hfr => (repeat' (first | refine La ?_ ?_ | exact Lc | refine Lo ?_ | refine ⟨⟨_, rfl, ?_⟩, ?_⟩ | refine Lx ?_)))
    all_goals (first | exact Ld | exact trivial | (rfl))
theorem l01Signed_ac [Mode] (l : List UInt8) (hl : l.length ≤ 100000000) : AC Tryz.prog 90 [Str l] H0 (.tup [I (sgN l).1, Bo (sgN l).2]) H0 := by
  match l with
  | [] =>
    have hDg := l01Digits_ac [] (by simp)
    refine AC.of_body 0 Tryz.func90 rfl (fun l h => absurd rfl h) (fun C hC => ?_)
    have hD : ∀ l, ¬ C.D0 l := fun l h => (hC l).1 h rfl
    simp only [startFr, Tryz.ntmps90, List.length_cons, List.length_nil, Nat.reduceAdd, Nat.reduceSub, List.replicate_succ, List.replicate_zero, List.cons_append, List.nil_append]
    repeat' (first | ((first | apply Ba | (apply Bb; (· rfl); (· rfl)) | (apply Bc; (· exact nxE)) | (apply Bd; (· rfl); (· rfl); (· exact nxE))); (· first | exact Kz rfl rfl (hDg) (Ad An) | exact Ok.seqS rfl rfl rfl | exact Ok.sneS rfl rfl rfl | exact Ok.slen rfl rfl | exact Ok.pe)) | ((first | apply Ca | (apply Cb; (· exact nxE))); (· first | exact Ok.e0)) | refine Sx ?_ | (refine Sy (fun h => ?_) (fun h => ?_) <;> try (exfalso; omega; done)) | refine Sz (fun h => ?_) (fun h => ?_))
    refine Yb ?_
    (apply Le.headZ (hs := []) [] rfl)
    all_goals (try dsimp only [srcs])
    (case' hfr => (repeat' (first | refine La ?_ ?_ | exact Lc | refine Lo ?_ | refine ⟨⟨_, rfl, ?_⟩, ?_⟩ | refine Lx ?_)))
    all_goals (first | exact Ld | exact trivial | (rfl))
  | x :: r =>
    have h0 := digN_nonneg r
    have h1 := digN_lt r
    have hc1 : (x :: r).length = r.length + 1 := rfl
    by_cases hx : x = 45
    · subst hx
      have hDg := l01Digits_ac r (by simp at hl; omega)
      have e : sgN (45 :: r) = (-(digN r).1, (digN r).2 && decide (0 < (digN r).1)) := rfl
      rw [e]
      generalize digN r = q at *
      obtain ⟨q1, q2⟩ := q
      simp only at *
      cases q2
      ·
        refine AC.of_body 0 Tryz.func90 rfl (fun l h => absurd rfl h) (fun C hC => ?_)
        have hD : ∀ l, ¬ C.D0 l := fun l h => (hC l).1 h rfl
        simp only [startFr, Tryz.ntmps90, List.length_cons, List.length_nil, Nat.reduceAdd, Nat.reduceSub, List.replicate_succ, List.replicate_zero, List.cons_append, List.nil_append]
        repeat' (first | ((first | apply Ba | (apply Bb; (· rfl); (· rfl)) | (apply Bc; (· exact nxE)) | (apply Bd; (· rfl); (· rfl); (· exact nxE))); (· first | exact Ok.sidx (a := 45 :: r) (c := 45) rfl rfl rfl (by decide) rfl | exact Ok.sFrom (a := 45 :: r) (j := 1) rfl rfl rfl rfl (by simp) | exact Kz rfl rfl (hDg) (Ad An) | exact Ok.seqS rfl rfl rfl | exact Ok.sneS rfl rfl rfl | exact Ok.slen rfl rfl | exact Ok.pe)) | ((first | apply Ca | (apply Cb; (· exact nxE))); (· first | exact Ok.e0)) | refine Sx ?_ | (refine Sy (fun h => ?_) (fun h => ?_) <;> try (exfalso; omega; done)) | refine Sz (fun h => ?_) (fun h => ?_))
        refine Yb ?_
        (apply Le.headZ (hs := []) [] rfl)
        all_goals (try dsimp only [srcs])
        (case' hfr => (repeat' (first | refine La ?_ ?_ | exact Lc | refine Lo ?_ | refine ⟨⟨_, rfl, ?_⟩, ?_⟩ | refine Lx ?_)))
        all_goals (first | exact Ld | exact trivial | (rfl))
      ·
        refine AC.of_body 0 Tryz.func90 rfl (fun l h => absurd rfl h) (fun C hC => ?_)
        have hD : ∀ l, ¬ C.D0 l := fun l h => (hC l).1 h rfl
        simp only [startFr, Tryz.ntmps90, List.length_cons, List.length_nil, Nat.reduceAdd, Nat.reduceSub, List.replicate_succ, List.replicate_zero, List.cons_append, List.nil_append]
        repeat' (first | ((first | apply Ba | (apply Bb; (· rfl); (· rfl)) | (apply Bc; (· exact nxE)) | (apply Bd; (· rfl); (· rfl); (· exact nxE))); (· first | exact Ok.sidx (a := 45 :: r) (c := 45) rfl rfl rfl (by decide) rfl | exact Ok.sFrom (a := 45 :: r) (j := 1) rfl rfl rfl rfl (by simp) | exact Kz rfl rfl (hDg) (Ad An) | exact Ok.seqS rfl rfl rfl | exact Ok.sneS rfl rfl rfl | exact Ok.slen rfl rfl | exact Ok.pe)) | ((first | apply Ca | (apply Cb; (· exact nxE))); (· first | exact Ok.e0)) | refine Sx ?_ | (refine Sy (fun h => ?_) (fun h => ?_) <;> try (exfalso; omega; done)) | refine Sz (fun h => ?_) (fun h => ?_))
        refine Yb ?_
        (apply Le.headZ (hs := []) [] rfl)
        all_goals (try dsimp only [srcs])
        (case' hfr => (repeat' (first | refine La ?_ ?_ | exact Lc | refine Lo ?_ | refine ⟨⟨_, rfl, ?_⟩, ?_⟩ | refine Lx ?_)))
        all_goals (first | exact Ld | exact trivial | (rfl))
    · have hDg := l01Digits_ac (x :: r) hl
      have e : sgN (x :: r) = digN (x :: r) := by rw [sgN, if_neg (by simpa using hx)]
      rw [e]
      have hne : ¬ ((x.toNat : Int) = 45) := fun e => hx (UInt8.toNat_inj.1 (by simpa using (by omega : x.toNat = 45)))
      refine AC.of_body 0 Tryz.func90 rfl (fun l h => absurd rfl h) (fun C hC => ?_)
      have hD : ∀ l, ¬ C.D0 l := fun l h => (hC l).1 h rfl
      simp only [startFr, Tryz.ntmps90, List.length_cons, List.length_nil, Nat.reduceAdd, Nat.reduceSub, List.replicate_succ, List.replicate_zero, List.cons_append, List.nil_append]
      repeat' (first | ((first | apply Ba | (apply Bb; (· rfl); (· rfl)) | (apply Bc; (· exact nxE)) | (apply Bd; (· rfl); (· rfl); (· exact nxE))); (· first | exact Ok.sidx (a := x :: r) (c := x) rfl rfl rfl (by decide) rfl | exact Kz rfl rfl (hDg) (Ad An) | exact Ok.seqS rfl rfl rfl | exact Ok.sneS rfl rfl rfl | exact Ok.slen rfl rfl | exact Ok.pe)) | ((first | apply Ca | (apply Cb; (· exact nxE))); (· first | exact Ok.e0)) | refine Sx ?_ | (refine Sy (fun h => ?_) (fun h => ?_) <;> try (exfalso; omega; done)) | refine Sz (fun h => ?_) (fun h => ?_))
      refine Yb ?_
      (apply Le.headZ (hs := []) [] rfl)
      all_goals (try dsimp only [srcs])
      (case' hfr => (repeat' (first | refine La ?_ ?_ | exact Lc | refine Lo ?_ | refine ⟨⟨_, rfl, ?_⟩, ?_⟩ | refine Lx ?_)))
      all_goals (first | exact Ld | exact trivial | (rfl))
set_option maxHeartbeats 2000000 in
theorem l01Numbers_yes [Mode] (ws : List (List UInt8)) (hw : ws.length ≤ 2000000) (hl : ∀ w ∈ ws, w.length ≤ 100000000) (h : ∀ w ∈ ws, (sgN w).2 = true) : AC Tryz.prog 69 [SL ws] H0 (.tup [own1 1 ws.length, Bo true]) (hp1 (IO (ws.map fun w => (sgN w).1))) := by
  refine AC.of_body 0 Tryz.func69 rfl (fun l h => absurd rfl h) (fun C hC => ?_)
  have hD : ∀ l, ¬ C.D0 l := fun l h => (hC l).1 h rfl
  simp only [startFr, Tryz.ntmps69, List.length_cons, List.length_nil, Nat.reduceAdd, Nat.reduceSub, List.replicate_succ, List.replicate_zero, List.cons_append, List.nil_append]
  repeat' (first | ((first | apply Ba | (apply Bb; (· rfl); (· rfl)) | (apply Bc; (· exact nxE)) | (apply Bd; (· rfl); (· rfl); (· exact nxE))); (· first | exact Ok.lenD rfl rfl (stR_len ws) | exact Ok.seqS rfl rfl rfl | exact Ok.sneS rfl rfl rfl | exact Ok.slen rfl rfl | exact Ok.pe)) | ((first | apply Ca | (apply Cb; (· exact nxE))); (· first | exact Ok.e0)) | refine Sx ?_ | (refine Sy (fun h => ?_) (fun h => ?_) <;> try (exfalso; omega; done)) | refine Sz (fun h => ?_) (fun h => ?_))
  refine AW.loop (X := {k : Nat // k ≤ ws.length}) (fun k => ⟨[SL ws, Oo, Oo, Oo, .own 1 ⟨0, []⟩ 0 (k.1 : Nat), I (k.1 : Nat), Oo, Oo, Oo, Oo, Oo, Oo, Oo, Oo, Oo, Oo, Oo, Oo, Oo, Oo, Oo, Oo, Oo, Oo, Oo, Oo, Oo, Oo, Oo, Oo], heapL [(⟨0, []⟩, ⟨0, []⟩, IO ((ws.take k.1).map fun w => (sgN w).1))], 900⟩) (fun k => ws.length - k.1) ⟨0, Nat.zero_le _⟩ ?_ (fun k => ?_)
  ·
    (apply Le.headZ [_] rfl)
    all_goals (try dsimp only [srcs])
    (case' hfr | hob => (repeat' (first | refine La ?_ ?_ | exact Lc | refine Lo ?_ | refine ⟨⟨_, rfl, ?_⟩, ?_⟩ | refine Lx ?_)))
    all_goals (first | (rfl) | exact Ld)
  obtain ⟨k, hk⟩ := k
  simp only
  by_cases hlt : k < ws.length
  · obtain ⟨w, hx⟩ : ∃ w, ws[k]? = some w := ⟨ws[k], List.getElem?_eq_getElem hlt⟩
    have hrow := stR_getI hx
    have hmem := List.mem_of_getElem? hx
    have hS := l01Signed_ac w (hl w hmem)
    rw [h w hmem] at hS
    have hol : (IR ((ws.take k).map fun w => (sgN w).1)).length = k := by rw [IR_len, List.length_map, List.length_take]; omega
    have htk : (ws.take (k + 1)).map (fun w => (sgN w).1) = (ws.take k).map (fun w => (sgN w).1) ++ [(sgN w).1] := by rw [List.take_add_one, hx]; simp
    generalize (sgN w).1 = q at *
    repeat' (first | ((first | apply Ba | (apply Bb; (· rfl); (· rfl)) | (apply Bc; (· exact nxE)) | (apply Bd; (· rfl); (· rfl); (· exact nxE))); (· first | exact Ok.lenD rfl rfl (stR_len ws) | exact Kz rfl rfl (hS) (Ad An) | exact Ok.seqS rfl rfl rfl | exact Ok.sneS rfl rfl rfl | exact Ok.slen rfl rfl | exact Ok.append1 (row := [DI q]) rfl rfl (by decide) rfl rfl hol rfl rfl rfl (by rfl) (by omega) (by omega) | exact Ok.pe)) | ((first | apply Ca | (apply Cb; (· exact nxE))); (· first | exact Ok.append1 (row := [DI q]) rfl rfl (by decide) rfl rfl hol rfl rfl rfl (by rfl) (by omega) (by omega) | exact Ok.e0)) | refine Sx ?_ | (refine Sy (fun h => ?_) (fun h => ?_) <;> try (exfalso; omega; done)) | refine Sz (fun h => ?_) (fun h => ?_))
    refine ⟨⟨k + 1, by omega⟩, ?_, by simp only; omega⟩
    (apply Le.headZ [_] rfl)
    all_goals (try dsimp only [srcs])
    (case' hfr | hob => (repeat' (first | refine La ?_ ?_ | exact Lc | refine Lo ?_ | refine ⟨⟨_, rfl, ?_⟩, ?_⟩ | refine Lx ?_)))
    all_goals (first | ((first | (rw [htk, IR_app]; done) | (rw [htk]; simp; done))) | exact Ld)
  ·
    obtain rfl : k = ws.length := by omega
    rw [List.take_length]
    repeat' (first | ((first | apply Ba | (apply Bb; (· rfl); (· rfl)) | (apply Bc; (· exact nxE)) | (apply Bd; (· rfl); (· rfl); (· exact nxE))); (· first | exact Ok.lenD rfl rfl (stR_len ws) | exact Ok.seqS rfl rfl rfl | exact Ok.sneS rfl rfl rfl | exact Ok.slen rfl rfl | exact Ok.pe)) | ((first | apply Ca | (apply Cb; (· exact nxE))); (· first | exact Ok.e0)) | refine Sx ?_ | (refine Sy (fun h => ?_) (fun h => ?_) <;> try (exfalso; omega; done)) | refine Sz (fun h => ?_) (fun h => ?_))
    refine Yb ?_
    (apply Le.head [(⟨0, []⟩, _, _)])
    (case' hfr | hob => (repeat' (first | refine La ?_ ?_ | exact Lc | refine Lo ?_ | refine ⟨⟨_, rfl, ?_⟩, ?_⟩ | refine Lx ?_)))
    all_goals (first | exact Ld | (rfl))
end Go.Proofs.YtofakjlamoigcaaGreatDoor
end

section
namespace Go.Proofs.YtofakjlamoigcaaGreatDoor
set_option linter.unusedSimpArgs false
set_option linter.unusedVariables false
open Go Go.RowKit

/-- How many firings of an event there are. -/
def cnt (fs : List Fi) (e : Int) : Nat := fs.countP fun f => decide (f.e = e)
theorem cnt_snoc [Mode] {fs : List Fi} {f : Fi} {e : Int} : cnt (fs ++ [f]) e = cnt fs e + if f.e = e then 1 else 0 := by
  simp only [cnt, List.countP_append, List.countP_cons, List.countP_nil, Nat.zero_add]
  by_cases h : f.e = e <;> simp [h]
theorem cnt_le [Mode] (fs : List Fi) (e : Int) : cnt fs e ≤ fs.length := List.countP_le_length
/-- The firings of the longest beginning of a text that is a trace; r: what is left. -/
structure RecOf (s : List UInt8) (fs : List Fi) (r : List UInt8) : Prop where
  len : fs.length ≤ 500
  wr : fs.all wrF = true
  num : ∀ (k : Nat) (f : Fi), fs[k]? = some f → f.n = cnt (fs.take k) f.e + 1
  txt : s = trT 1 fs ++ r
  stop : fs.length < 500 → ∀ f, wrF f = true → ∀ b, r ≠ trN (chA 1 fs) f ++ b
theorem wrA_all [Mode] {fs : List Fi} {k : Nat} (h : fs.all wrF = true) : (fs.take k).all wrF = true := List.all_eq_true.2 fun x hx => List.all_eq_true.1 h x (List.mem_of_mem_take hx)
/-- There is such a beginning. -/
theorem rec_from [Mode] (s : List UInt8) : ∀ (m : Nat) (fs : List Fi) (r : List UInt8), 500 - fs.length = m → fs.length ≤ 500 → fs.all wrF = true → (∀ (k : Nat) (f : Fi), fs[k]? = some f → f.n = cnt (fs.take k) f.e + 1) → s = trT 1 fs ++ r → ∃ fs' r', RecOf s fs' r'
  | 0, fs, r, hm, h1, h2, h3, h4 => ⟨fs, r, h1, h2, h3, h4, fun h => by omega⟩
  | m + 1, fs, r, hm, h1, h2, h3, h4 => by
    by_cases hs : ∀ f, wrF f = true → ∀ b, r ≠ trN (chA 1 fs) f ++ b
    · exact ⟨fs, r, h1, h2, h3, h4, fun _ => hs⟩
    · have : ∃ f b, wrF f = true ∧ r = trN (chA 1 fs) f ++ b := by
        refine Classical.byContradiction fun hn => hs fun f hf b e => hn ⟨f, b, hf, e⟩
      obtain ⟨⟨e, n, t⟩, b, hf, hr⟩ := this
      refine rec_from s m (fs ++ [⟨e, cnt fs e + 1, t⟩]) b (by simp; omega) (by simp; omega) ?_ (fun k f hk => ?_) ?_
      · have hf' : wrF ⟨e, cnt fs e + 1, t⟩ = true := hf
        rw [List.all_append, h2, List.all_cons, hf']; rfl
      · rw [List.getElem?_append] at hk
        split at hk
        · rename_i hlt
          rw [List.take_append_of_le_length (by omega)]
          exact h3 k f hk
        · rename_i hge
          have hk0 : k - fs.length = 0 := by
            have := (List.getElem?_eq_some_iff.1 hk).1
            simp at this; omega
          rw [hk0] at hk
          simp only [List.getElem?_cons_zero, Option.some.injEq] at hk
          subst hk
          have : k = fs.length := by omega
          subst this
          simp
      · rw [h4, hr, trT_snoc, List.append_assoc]; rfl
theorem rec_ex [Mode] (s : List UInt8) : ∃ fs r, RecOf s fs r := rec_from s 500 [] s rfl (by decide) rfl (fun k f h => by simp at h) rfl
/-! Lines and words. -/
theorem trL_no10 [Mode] (c : Int) (f : Fi) : (10 : UInt8) ∉ trL c f := by
  have h : (10 : UInt8).toNat < 48 ∨ 57 < (10 : UInt8).toNat := by decide
  simp only [trL, List.mem_append, List.mem_cons, List.not_mem_nil, or_false, not_or]
  exact ⟨⟨⟨⟨dec_no h, by decide⟩, dec_no h⟩, by decide⟩, dec_no h⟩
theorem spl_words [Mode] (a b c : Nat) : spl 32 (dec a ++ [32] ++ dec b ++ [32] ++ dec c) = [dec a, dec b, dec c] := by
  have h : (32 : UInt8).toNat < 48 ∨ 57 < (32 : UInt8).toNat := by decide
  have e : dec a ++ [32] ++ dec b ++ [32] ++ dec c = dec a ++ 32 :: (dec b ++ 32 :: dec c) := by simp
  rw [e, spl_at (dec_no h), spl_at (dec_no h), spl_no (dec_no h)]
theorem spl_trL [Mode] (c : Int) (f : Fi) : spl 32 (trL c f) = [dec f.e.toNat, dec f.t.toNat, dec (nxI c f).toNat] := spl_words _ _ _
/-- The pieces, joined again. -/
theorem spl_three [Mode] {c : UInt8} {l x y z : List UInt8} (h : spl c l = [x, y, z]) : l = x ++ c :: (y ++ c :: z) := by
  rcases first_byte c l with h1 | ⟨a, b, rfl, h1⟩
  · rw [spl_no h1] at h; simp at h
  · rw [spl_at h1] at h
    simp only [List.cons.injEq] at h
    obtain ⟨rfl, h⟩ := h
    rcases first_byte c b with h2 | ⟨a', b', rfl, h2⟩
    · rw [spl_no h2] at h; simp at h
    · rw [spl_at h2] at h
      simp only [List.cons.injEq] at h
      obtain ⟨rfl, h⟩ := h
      rcases first_byte c b' with h3 | ⟨a'', b'', rfl, h3⟩
      · rw [spl_no h3] at h
        simp only [List.cons.injEq, and_true] at h
        rw [h]
      · rw [spl_at h3] at h
        have := spl_ne (c := c) (l := b'')
        simp only [List.cons.injEq] at h
        exact absurd h.2 this
/-- The lines of a trace. -/
def lnS : Int → List Fi → List (List UInt8)
  | _, [] => []
  | c, f :: fs => trL c f :: lnS (nxI c f) fs
theorem lnS_len [Mode] : ∀ {c : Int} {fs : List Fi}, (lnS c fs).length = fs.length
  | _, [] => rfl
  | c, f :: fs => by rw [lnS, List.length_cons, lnS_len, List.length_cons]
theorem spl_trT [Mode] (r : List UInt8) : ∀ (c : Int) (fs : List Fi), spl 10 (trT c fs ++ r) = lnS c fs ++ spl 10 r
  | _, [] => rfl
  | c, f :: fs => by
    rw [trT, lnS, List.cons_append, ← spl_trT r (nxI c f) fs, ← spl_at (trL_no10 c f)]
    simp [trN]
theorem lnS_get [Mode] : ∀ {c : Int} {fs : List Fi} {k : Nat} {f : Fi}, fs[k]? = some f → (lnS c fs)[k]? = some (trL (chA c (fs.take k)) f)
  | c, [], k, f, h => by simp at h
  | c, g :: fs, 0, f, h => by simp at h; subst h; rfl
  | c, g :: fs, k + 1, f, h => by
    rw [lnS, List.getElem?_cons_succ, List.take_succ_cons, chA]
    exact lnS_get (by simpa using h)
theorem trT_drop [Mode] {c : Int} : ∀ {fs : List Fi} {k : Nat}, (trT c fs).drop (trT c (fs.take k)).length = trT (chA c (fs.take k)) (fs.drop k) := by
  intro fs k
  have key : ∀ (a b : List Fi) (c : Int), trT c (a ++ b) = trT c a ++ trT (chA c a) b := by
    intro a
    induction a with
    | nil => intro b c; rfl
    | cons g a ih => intro b c; rw [List.cons_append, trT, trT, chA, ih, List.append_assoc]
  conv => lhs; rw [← List.take_append_drop k fs, key]
  rw [List.take_append_drop, List.drop_left']
  rfl
end Go.Proofs.YtofakjlamoigcaaGreatDoor
end

section
namespace Go.Proofs.YtofakjlamoigcaaGreatDoor
set_option linter.unusedSimpArgs false
set_option linter.unusedVariables false
open Go Go.RowKit
attribute [local irreducible] AL AD AW OpOk Le AC thenQ blockQ EndQ

def entN (t : List (List Int)) (i j : Nat) : Int := (((t[i]?).getD [])[j]?).getD 0
structure Sq (t : List (List Int)) (n : Nat) : Prop where
  l : t.length = n
  r : ∀ r ∈ t, r.length = n
theorem Sq.get [Mode] {t : List (List Int)} {n i j : Nat} (h : Sq t n) (hi : i < n) (hj : j < n) : ∃ r, t[i]? = some r ∧ r[j]? = some (entN t i j) ∧ r.length = n := by
  have h1 : i < t.length := by rw [h.l]; exact hi
  have h2 := h.r t[i] (List.getElem_mem h1)
  refine ⟨t[i], List.getElem?_eq_getElem h1, ?_, h2⟩
  unfold entN
  rw [List.getElem?_eq_getElem h1, Option.getD_some, List.getElem?_eq_getElem (by rw [h2]; exact hj), Option.getD_some]
end Go.Proofs.YtofakjlamoigcaaGreatDoor
end

section
namespace Go.Proofs.YtofakjlamoigcaaGreatDoor
set_option linter.unusedSimpArgs false
set_option linter.unusedVariables false
open Go Go.RowKit
attribute [local irreducible] AL AD AW OpOk Le AC thenQ blockQ EndQ

abbrev mi1 (l : Loc) (R : List (List (List D))) : MI := { l := l, k := 1, R := R, src := l, base := l }
end Go.Proofs.YtofakjlamoigcaaGreatDoor
end

section
namespace Go.Proofs.YtofakjlamoigcaaGreatDoor
set_option linter.unusedSimpArgs false
set_option linter.unusedVariables false
open Go Go.RowKit
attribute [local irreducible] AL AD AW OpOk Le AC thenQ blockQ EndQ

theorem IR_set [Mode] {r : List Int} {j : Nat} {v : Int} : (IR r).set j [DI v] = IR (r.set j v) := by simp [List.map_set]
def okPl (n : Nat) (p : Pl) : Prop := (0 ≤ p.f ∧ p.f < n) ∧ (0 ≤ p.t ∧ p.t < n) ∧ (0 ≤ p.d ∧ p.d ≤ 10000) ∧ (0 ≤ p.k ∧ p.k ≤ 5)
end Go.Proofs.YtofakjlamoigcaaGreatDoor
end
