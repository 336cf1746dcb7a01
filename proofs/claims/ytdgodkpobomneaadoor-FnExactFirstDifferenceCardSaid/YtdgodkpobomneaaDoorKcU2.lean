/-
  Walks in the abstract reading, part 2.
-/
import Derived.Test.YtdgodkpobomneaaDoorKcU1
import Derived.Test.YtdgodkpobomneaaDoorKcA2
import Derived.ChangeMaps5
import Derived.Test.YtdgodkpobomneaaDoorKcA3
import Derived.Lib.ParseIntBTie
import Derived.Lib.SplitLaws
section
namespace Go.Proofs.YtdgodkpobomneaaDoor
set_option linter.unusedSimpArgs false
set_option linter.unusedVariables false
open Go Go.RowKit
attribute [local irreducible] AL AD AW OpOk Le AC thenQ blockQ EndQ

/-- A firing. -/
structure Fi where
  e : Int
  n : Int
  t : Int
  deriving DecidableEq
def Fi.row (f : Fi) : List D := [DI f.e, DI f.n, DI f.t]
abbrev Fi.av (f : Fi) : AV := .agg [I f.e, I f.n, I f.t]
abbrev FL (fs : List Fi) : AV := .d (.sl 3 (fs.map Fi.row))
abbrev FO (fs : List Fi) : AObj := dobj 3 (fs.map Fi.row)
theorem FL_len [Mode] {fs : List Fi} : (fs.map Fi.row).length = fs.length := by simp
/-- A firing that can be written. -/
def wrF (f : Fi) : Bool := wi f.e 0 9 && wi f.t 0 1000000
theorem wrF_iff [Mode] {f : Fi} : wrF f = true ↔ (0 ≤ f.e ∧ f.e ≤ 9) ∧ (0 ≤ f.t ∧ f.t ≤ 1000000) := by simp [wrF, wi]
def wrA (fs : List Fi) : Bool := fs.all wrF && decide (fs.length ≤ 500)
theorem l28Writable_ac [Mode] (f : Fi) : AC Tryd.prog 60 [f.av] H0 (Bo (wrF f)) H0 := by
  obtain ⟨e, n, t⟩ := f
  refine AC.of_body 0 Tryd.func60 rfl (fun l h => absurd rfl h) (fun C hC => ?_)
  have hD : ∀ l, ¬ C.D0 l := fun l h => (hC l).1 h rfl
  simp only [startFr, Tryd.ntmps60, List.length_cons, List.length_nil, Nat.reduceAdd, Nat.reduceSub, List.replicate_succ, List.replicate_zero, List.cons_append, List.nil_append]
  repeat' (first | ((first | apply Ba | (apply Bb; (· rfl); (· rfl)) | (apply Bc; (· exact nxE)) | (apply Bd; (· rfl); (· rfl); (· exact nxE))); (· first | exact Kz rfl rfl (l01In_ac _ _ _) (Ad (Ad (Ad An))) | exact Ok.seqS rfl rfl rfl | exact Ok.sneS rfl rfl rfl | exact Ok.slen rfl rfl | exact Ok.sjoin rfl rfl rfl (by simp only [List.length_append, List.length_cons, List.length_nil]; omega) | exact Ok.pe)) | ((first | apply Ca | (apply Cb; (· exact nxE))); (· first | exact Ok.e0)) | refine Sx ?_ | (refine Sy (fun h => ?_) (fun h => ?_) <;> try (exfalso; omega; done)) | refine Sz (fun h => ?_) (fun h => ?_))
  all_goals
    refine Ya ?_
    (apply Le.headZ (hs := []) [] rfl)
    all_goals (try dsimp only [srcs])
    (case' hfr => (repeat' (first | refine La ?_ ?_ | exact Lc | refine Lo ?_ | refine ⟨⟨_, rfl, ?_⟩, ?_⟩ | refine Lx ?_)))
    all_goals (first | exact Ld | exact trivial | ((simp [wrF, *]; done)))
/-! The program's test. -/
theorem isWrFn_ac [Mode] (f : Fi) : AC Tryd.prog 62 [f.av] H0 (Bo (!wrF f)) H0 := by
  obtain ⟨e, n, t⟩ := f
  refine AC.of_body 0 Tryd.func62 rfl (fun l h => absurd rfl h) (fun C hC => ?_)
  have hD : ∀ l, ¬ C.D0 l := fun l h => (hC l).1 h rfl
  simp only [startFr, Tryd.ntmps62, List.length_cons, List.length_nil, Nat.reduceAdd, Nat.reduceSub, List.replicate_succ, List.replicate_zero, List.cons_append, List.nil_append]
  repeat' (first | ((first | apply Ba | (apply Bb; (· rfl); (· rfl)) | (apply Bc; (· exact nxE)) | (apply Bd; (· rfl); (· rfl); (· exact nxE))); (· first | exact Kz rfl rfl (within_ac _ _ _) (Ad (Ad (Ad An))) | exact Ok.seqS rfl rfl rfl | exact Ok.sneS rfl rfl rfl | exact Ok.slen rfl rfl | exact Ok.sjoin rfl rfl rfl (by simp only [List.length_append, List.length_cons, List.length_nil]; omega) | exact Ok.pe)) | ((first | apply Ca | (apply Cb; (· exact nxE))); (· first | exact Ok.e0)) | refine Sx ?_ | (refine Sy (fun h => ?_) (fun h => ?_) <;> try (exfalso; omega; done)) | refine Sz (fun h => ?_) (fun h => ?_))
  all_goals
    refine Ya ?_
    (apply Le.headZ (hs := []) [] rfl)
    all_goals (try dsimp only [srcs])
    (case' hfr => (repeat' (first | refine La ?_ ?_ | exact Lc | refine Lo ?_ | refine ⟨⟨_, rfl, ?_⟩, ?_⟩ | refine Lx ?_)))
    all_goals (first | exact Ld | exact trivial | ((simp [wrF, *]; done)))
set_option maxHeartbeats 1000000 in
theorem indexFuncFi_ac [Mode] (fs : List Fi) (hn : fs.length ≤ 100000000) : AC Tryd.prog 75 [FL fs, .clo (.func 62) [] []] H0 (I (idxOf (fun f => !wrF f) fs 0)) H0 := by
  refine AC.of_body 0 Tryd.func75 rfl (fun l h => absurd rfl h) (fun C hC => ?_)
  have hD : ∀ l, ¬ C.D0 l := fun l h => (hC l).1 h rfl
  simp only [startFr, Tryd.ntmps75, List.length_cons, List.length_nil, Nat.reduceAdd, Nat.reduceSub, List.replicate_succ, List.replicate_zero, List.cons_append, List.nil_append]
  repeat' (first | ((first | apply Ba | (apply Bb; (· rfl); (· rfl)) | (apply Bc; (· exact nxE)) | (apply Bd; (· rfl); (· rfl); (· exact nxE))); (· first | exact Ok.seqS rfl rfl rfl | exact Ok.sneS rfl rfl rfl | exact Ok.slen rfl rfl | exact Ok.sjoin rfl rfl rfl (by simp only [List.length_append, List.length_cons, List.length_nil]; omega) | exact Ok.pe)) | ((first | apply Ca | (apply Cb; (· exact nxE))); (· first | exact Ok.e0)) | refine Sx ?_ | (refine Sy (fun h => ?_) (fun h => ?_) <;> try (exfalso; omega; done)) | refine Sz (fun h => ?_) (fun h => ?_))
  refine AW.loop (X := {k : Nat // k ≤ fs.length ∧ idxOf (fun f => !wrF f) fs 0 = idxOf (fun f => !wrF f) (fs.drop k) k}) (fun k => ⟨[FL fs, .clo (.func 62) [] [], Oo, Oo, Oo, Oo, Oo, I fs.length, I (k.1 : Nat), Oo, Oo, Oo, Oo, Oo, Oo, Oo, Oo, Oo, Oo], heapL [], 900⟩) (fun k => fs.length - k.1) ⟨0, Nat.zero_le _, by simp⟩ ?_ (fun k => ?_)
  ·
    (apply Le.headZ [] rfl)
    all_goals (try dsimp only [srcs])
    (case' hfr | hob => (repeat' (first | refine La ?_ ?_ | exact Lc | refine Lo ?_ | refine ⟨⟨_, rfl, ?_⟩, ?_⟩ | refine Lx ?_)))
    all_goals (first | (rfl) | exact Ld)
  obtain ⟨k, hk, hall⟩ := k
  simp only
  by_cases hlt : k < fs.length
  · obtain ⟨f, hf⟩ : ∃ f, fs[k]? = some f := ⟨fs[k], List.getElem?_eq_getElem hlt⟩
    have hrow : (fs.map Fi.row)[((k : Nat) : Int).toNat]? = some [DI f.e, DI f.n, DI f.t] := row_get hf
    have hst := idxOf_at (f := fun f => !wrF f) hf k
    rw [← hall] at hst
    have hW := isWrFn_ac f
    cases hb : wrF f with
    | true =>
      rw [hb] at hW hst
      repeat' (first | ((first | apply Ba | (apply Bb; (· rfl); (· rfl)) | (apply Bc; (· exact nxE)) | (apply Bd; (· rfl); (· rfl); (· exact nxE))); (· first | exact Kz rfl rfl (hW) (Aa (Ad (Ad (Ad An))) An) | exact Ok.seqS rfl rfl rfl | exact Ok.sneS rfl rfl rfl | exact Ok.slen rfl rfl | exact Ok.sjoin rfl rfl rfl (by simp only [List.length_append, List.length_cons, List.length_nil]; omega) | exact Ok.pe)) | ((first | apply Ca | (apply Cb; (· exact nxE))); (· first | exact Ok.e0)) | refine Sx ?_ | (refine Sy (fun h => ?_) (fun h => ?_) <;> try (exfalso; omega; done)) | refine Sz (fun h => ?_) (fun h => ?_))
      refine ⟨⟨k + 1, by omega, hst⟩, ?_, by simp only; omega⟩
      (apply Le.headZ [] rfl)
      all_goals (try dsimp only [srcs])
      (case' hfr | hob => (repeat' (first | refine La ?_ ?_ | exact Lc | refine Lo ?_ | refine ⟨⟨_, rfl, ?_⟩, ?_⟩ | refine Lx ?_)))
      all_goals (first | (rfl) | exact Ld)
    | false =>
      rw [hb] at hW hst
      rw [hst]
      repeat' (first | ((first | apply Ba | (apply Bb; (· rfl); (· rfl)) | (apply Bc; (· exact nxE)) | (apply Bd; (· rfl); (· rfl); (· exact nxE))); (· first | exact Kz rfl rfl (hW) (Aa (Ad (Ad (Ad An))) An) | exact Ok.seqS rfl rfl rfl | exact Ok.sneS rfl rfl rfl | exact Ok.slen rfl rfl | exact Ok.sjoin rfl rfl rfl (by simp only [List.length_append, List.length_cons, List.length_nil]; omega) | exact Ok.pe)) | ((first | apply Ca | (apply Cb; (· exact nxE))); (· first | exact Ok.e0)) | refine Sx ?_ | (refine Sy (fun h => ?_) (fun h => ?_) <;> try (exfalso; omega; done)) | refine Sz (fun h => ?_) (fun h => ?_))
      refine Ya ?_
      (apply Le.headZ (hs := []) [] rfl)
      all_goals (try dsimp only [srcs])
      (case' hfr => (repeat' (first | refine La ?_ ?_ | exact Lc | refine Lo ?_ | refine ⟨⟨_, rfl, ?_⟩, ?_⟩ | refine Lx ?_)))
      all_goals (first | exact Ld | exact trivial | (rfl))
  ·
    rw [hall, List.drop_of_length_le (by omega)]
    repeat' (first | ((first | apply Ba | (apply Bb; (· rfl); (· rfl)) | (apply Bc; (· exact nxE)) | (apply Bd; (· rfl); (· rfl); (· exact nxE))); (· first | exact Ok.seqS rfl rfl rfl | exact Ok.sneS rfl rfl rfl | exact Ok.slen rfl rfl | exact Ok.sjoin rfl rfl rfl (by simp only [List.length_append, List.length_cons, List.length_nil]; omega) | exact Ok.pe)) | ((first | apply Ca | (apply Cb; (· exact nxE))); (· first | exact Ok.e0)) | refine Sx ?_ | (refine Sy (fun h => ?_) (fun h => ?_) <;> try (exfalso; omega; done)) | refine Sz (fun h => ?_) (fun h => ?_))
    refine Ya ?_
    (apply Le.headZ (hs := []) [] rfl)
    all_goals (try dsimp only [srcs])
    (case' hfr => (repeat' (first | refine La ?_ ?_ | exact Lc | refine Lo ?_ | refine ⟨⟨_, rfl, ?_⟩, ?_⟩ | refine Lx ?_)))
    all_goals (first | exact Ld | exact trivial | (rfl))
theorem containsFuncFi_ac [Mode] (fs : List Fi) (hn : fs.length ≤ 100000000) : AC Tryd.prog 61 [FL fs, .clo (.func 62) [] []] H0 (Bo (fs.any fun f => !wrF f)) H0 := by
  have hI := indexFuncFi_ac fs hn
  have hA := idxOf_any (f := fun f => !wrF f) fs 0
  rw [← hA]
  refine AC.of_body 0 Tryd.func61 rfl (fun l h => absurd rfl h) (fun C hC => ?_)
  have hD : ∀ l, ¬ C.D0 l := fun l h => (hC l).1 h rfl
  simp only [startFr, Tryd.ntmps61, List.length_cons, List.length_nil, Nat.reduceAdd, Nat.reduceSub, List.replicate_succ, List.replicate_zero, List.cons_append, List.nil_append]
  repeat' (first | ((first | apply Ba | (apply Bb; (· rfl); (· rfl)) | (apply Bc; (· exact nxE)) | (apply Bd; (· rfl); (· rfl); (· exact nxE))); (· first | exact OpOk.call0 [] rfl rfl hI (.inl rfl) (fun _ => by simp [rn]) (ARs.cons (AR.dd _) (ARs.cons (AR.clo' .nil .nil) ARs.nil)) | exact Ok.seqS rfl rfl rfl | exact Ok.sneS rfl rfl rfl | exact Ok.slen rfl rfl | exact Ok.sjoin rfl rfl rfl (by simp only [List.length_append, List.length_cons, List.length_nil]; omega) | exact Ok.pe)) | ((first | apply Ca | (apply Cb; (· exact nxE))); (· first | exact Ok.e0)) | refine Sx ?_ | (refine Sy (fun h => ?_) (fun h => ?_) <;> try (exfalso; omega; done)) | refine Sz (fun h => ?_) (fun h => ?_))
  refine Ya ?_
  (apply Le.headZ (hs := []) [] rfl)
  all_goals (try dsimp only [srcs])
  (case' hfr => (repeat' (first | refine La ?_ ?_ | exact Lc | refine Lo ?_ | refine ⟨⟨_, rfl, ?_⟩, ?_⟩ | refine Lx ?_)))
  all_goals (first | exact Ld | exact trivial | (rfl))
theorem isWritable_ac [Mode] (fs : List Fi) (hn : fs.length ≤ 100000000) : AC Tryd.prog 42 [FL fs] H0 (Bo (wrA fs)) H0 := by
  have hA : (!fs.any fun f => !wrF f) = fs.all wrF := by rw [List.all_eq_not_any_not]
  have hI := containsFuncFi_ac fs hn
  by_cases hl : fs.length ≤ 500
  · have e : wrA fs = !fs.any fun f => !wrF f := by unfold wrA; rw [hA, decide_eq_true hl, Bool.and_true]
    rw [e]
    refine AC.of_body 0 Tryd.func42 rfl (fun l h => absurd rfl h) (fun C hC => ?_)
    have hD : ∀ l, ¬ C.D0 l := fun l h => (hC l).1 h rfl
    simp only [startFr, Tryd.ntmps42, List.length_cons, List.length_nil, Nat.reduceAdd, Nat.reduceSub, List.replicate_succ, List.replicate_zero, List.cons_append, List.nil_append]
    repeat' (first | ((first | apply Ba | (apply Bb; (· rfl); (· rfl)) | (apply Bc; (· exact nxE)) | (apply Bd; (· rfl); (· rfl); (· exact nxE))); (· first | exact OpOk.call0 [] rfl rfl hI (.inl rfl) (fun _ => by simp [rn]) (ARs.cons (AR.dd _) (ARs.cons (AR.clo' .nil .nil) ARs.nil)) | exact Ok.seqS rfl rfl rfl | exact Ok.sneS rfl rfl rfl | exact Ok.slen rfl rfl | exact Ok.sjoin rfl rfl rfl (by simp only [List.length_append, List.length_cons, List.length_nil]; omega) | exact Ok.pe)) | ((first | apply Ca | (apply Cb; (· exact nxE))); (· first | exact Ok.e0)) | refine Sx ?_ | (refine Sy (fun h => ?_) (fun h => ?_) <;> try (exfalso; omega; done)) | refine Sz (fun h => ?_) (fun h => ?_))
    refine Ya ?_
    (apply Le.headZ (hs := []) [] rfl)
    all_goals (try dsimp only [srcs])
    (case' hfr => (repeat' (first | refine La ?_ ?_ | exact Lc | refine Lo ?_ | refine ⟨⟨_, rfl, ?_⟩, ?_⟩ | refine Lx ?_)))
    all_goals (first | exact Ld | exact trivial | (rfl))
  · have e : wrA fs = false := by unfold wrA; rw [decide_eq_false hl, Bool.and_false]
    rw [e]
    refine AC.of_body 0 Tryd.func42 rfl (fun l h => absurd rfl h) (fun C hC => ?_)
    have hD : ∀ l, ¬ C.D0 l := fun l h => (hC l).1 h rfl
    simp only [startFr, Tryd.ntmps42, List.length_cons, List.length_nil, Nat.reduceAdd, Nat.reduceSub, List.replicate_succ, List.replicate_zero, List.cons_append, List.nil_append]
    repeat' (first | ((first | apply Ba | (apply Bb; (· rfl); (· rfl)) | (apply Bc; (· exact nxE)) | (apply Bd; (· rfl); (· rfl); (· exact nxE))); (· first | exact OpOk.call0 [] rfl rfl hI (.inl rfl) (fun _ => by simp [rn]) (ARs.cons (AR.dd _) (ARs.cons (AR.clo' .nil .nil) ARs.nil)) | exact Ok.seqS rfl rfl rfl | exact Ok.sneS rfl rfl rfl | exact Ok.slen rfl rfl | exact Ok.sjoin rfl rfl rfl (by simp only [List.length_append, List.length_cons, List.length_nil]; omega) | exact Ok.pe)) | ((first | apply Ca | (apply Cb; (· exact nxE))); (· first | exact Ok.e0)) | refine Sx ?_ | (refine Sy (fun h => ?_) (fun h => ?_) <;> try (exfalso; omega; done)) | refine Sz (fun h => ?_) (fun h => ?_))
    refine Ya ?_
    (apply Le.headZ (hs := []) [] rfl)
    all_goals (try dsimp only [srcs])
    (case' hfr => (repeat' (first | refine La ?_ ?_ | exact Lc | refine Lo ?_ | refine ⟨⟨_, rfl, ?_⟩, ?_⟩ | refine Lx ?_)))
    all_goals (first | exact Ld | exact trivial | (rfl))
/-! Lines. -/
/-- The chain after a firing. -/
def nxI (c : Int) (f : Fi) : Int := (31 * c + 7 * f.e + f.t).tmod 9973
theorem nxI_bd [Mode] {c : Int} {f : Fi} (h0 : 0 ≤ c) (hf : wrF f = true) : 0 ≤ nxI c f ∧ nxI c f < 9973 := by
  obtain ⟨⟨h1, _⟩, h2, _⟩ := wrF_iff.1 hf
  unfold nxI
  rw [Int.tmod_eq_emod_of_nonneg (by omega)]
  omega
/-- The line of a firing. -/
def trL (c : Int) (f : Fi) : List UInt8 := dec f.e.toNat ++ [32] ++ dec f.t.toNat ++ [32] ++ dec (nxI c f).toNat
def trN (c : Int) (f : Fi) : List UInt8 := trL c f ++ [10]
theorem trN_len [Mode] {c : Int} {f : Fi} (h0 : 0 ≤ c) (hf : wrF f = true) : (trN c f).length ≤ 60 := by
  obtain ⟨⟨h1, h2⟩, h3, h4⟩ := wrF_iff.1 hf
  have hb := nxI_bd h0 hf
  have l1 := dec_len f.e.toNat (by omega)
  have l2 := dec_len f.t.toNat (by omega)
  have l3 := dec_len (nxI c f).toNat (by omega)
  simp only [trN, trL, List.length_append, List.length_cons, List.length_nil]
  omega
theorem l28Next_ac [Mode] (c : Int) (f : Fi) (h0 : 0 ≤ c) (h1 : c < 9973) (hf : wrF f = true) : AC Tryd.prog 40 [I c, f.av] H0 (I (nxI c f)) H0 := by
  obtain ⟨⟨h2, h3⟩, h4, h5⟩ := wrF_iff.1 hf
  obtain ⟨e, n, t⟩ := f
  simp only at h2 h3 h4 h5
  refine AC.of_body 0 Tryd.func40 rfl (fun l h => absurd rfl h) (fun C hC => ?_)
  have hD : ∀ l, ¬ C.D0 l := fun l h => (hC l).1 h rfl
  simp only [startFr, Tryd.ntmps40, List.length_cons, List.length_nil, Nat.reduceAdd, Nat.reduceSub, List.replicate_succ, List.replicate_zero, List.cons_append, List.nil_append]
  repeat' (first | ((first | apply Ba | (apply Bb; (· rfl); (· rfl)) | (apply Bc; (· exact nxE)) | (apply Bd; (· rfl); (· rfl); (· exact nxE))); (· first | exact Ok.rem rfl rfl rfl (by decide) | exact Ok.seqS rfl rfl rfl | exact Ok.sneS rfl rfl rfl | exact Ok.slen rfl rfl | exact Ok.sjoin rfl rfl rfl (by simp only [List.length_append, List.length_cons, List.length_nil]; omega) | exact Ok.pe)) | ((first | apply Ca | (apply Cb; (· exact nxE))); (· first | exact Ok.e0)) | refine Sx ?_ | (refine Sy (fun h => ?_) (fun h => ?_) <;> try (exfalso; omega; done)) | refine Sz (fun h => ?_) (fun h => ?_))
  refine Ya ?_
  (apply Le.headZ (hs := []) [] rfl)
  all_goals (try dsimp only [srcs])
  (case' hfr => (repeat' (first | refine La ?_ ?_ | exact Lc | refine Lo ?_ | refine ⟨⟨_, rfl, ?_⟩, ?_⟩ | refine Lx ?_)))
  all_goals (first | exact Ld | exact trivial | (rfl))
set_option maxHeartbeats 1000000 in
theorem traceLine_ac [Mode] [HasTab] (c : Int) (f : Fi) (h0 : 0 ≤ c) (h1 : c < 9973) (hf : wrF f = true) : AC Tryd.prog 63 [f.av, I c] H0 (.tup [Str (trN c f), I (nxI c f)]) H0 := by
  obtain ⟨⟨h2, h3⟩, h4, h5⟩ := wrF_iff.1 hf
  obtain ⟨h6, h7⟩ := nxI_bd h0 hf
  have l1 := dec_len f.e.toNat (by omega)
  have l2 := dec_len f.t.toNat (by omega)
  have l3 := dec_len (nxI c f).toNat (by omega)
  have k1 := decimalP_ac f.e h2 (by omega)
  have k2 := decimalP_ac f.t h4 (by omega)
  have k3 := decimalP_ac (nxI c f) h6 (by omega)
  unfold trN trL
  unfold nxI at *
  obtain ⟨e, n, t⟩ := f
  simp only at *
  refine AC.of_body 0 Tryd.func63 rfl (fun l h => absurd rfl h) (fun C hC => ?_)
  have hD : ∀ l, ¬ C.D0 l := fun l h => (hC l).1 h rfl
  simp only [startFr, Tryd.ntmps63, List.length_cons, List.length_nil, Nat.reduceAdd, Nat.reduceSub, List.replicate_succ, List.replicate_zero, List.cons_append, List.nil_append]
  repeat' (first | ((first | apply Ba | (apply Bb; (· rfl); (· rfl)) | (apply Bc; (· exact nxE)) | (apply Bd; (· rfl); (· rfl); (· exact nxE))); (· first | exact Kz rfl rfl (k1) (Ad An) | exact Kz rfl rfl (k2) (Ad An) | exact Kz rfl rfl (k3) (Ad An) | exact Ok.rem rfl rfl rfl (by decide) | exact Ok.seqS rfl rfl rfl | exact Ok.sneS rfl rfl rfl | exact Ok.slen rfl rfl | exact Ok.sjoin rfl rfl rfl (by simp only [List.length_append, List.length_cons, List.length_nil]; omega) | exact Ok.pe)) | ((first | apply Ca | (apply Cb; (· exact nxE))); (· first | exact Ok.e0)) | refine Sx ?_ | (refine Sy (fun h => ?_) (fun h => ?_) <;> try (exfalso; omega; done)) | refine Sz (fun h => ?_) (fun h => ?_))
  refine Yb ?_
  (apply Le.headZ (hs := []) [] rfl)
  all_goals (try dsimp only [srcs])
  (case' hfr => (repeat' (first | refine La ?_ ?_ | exact Lc | refine Lo ?_ | refine ⟨⟨_, rfl, ?_⟩, ?_⟩ | refine Lx ?_)))
  all_goals (first | exact Ld | exact trivial | (rfl))
/-- The chain after all firings, and their text. -/
def chA : Int → List Fi → Int
  | c, [] => c
  | c, f :: fs => chA (nxI c f) fs
def trT : Int → List Fi → List UInt8
  | _, [] => []
  | c, f :: fs => trN c f ++ trT (nxI c f) fs
theorem chA_snoc [Mode] {f : Fi} : ∀ {c : Int} {fs : List Fi}, chA c (fs ++ [f]) = nxI (chA c fs) f
  | c, [] => rfl
  | c, g :: fs => by rw [List.cons_append, chA, chA, chA_snoc]
theorem trT_snoc [Mode] {f : Fi} : ∀ {c : Int} {fs : List Fi}, trT c (fs ++ [f]) = trT c fs ++ trN (chA c fs) f
  | c, [] => by simp [trT, chA]
  | c, g :: fs => by rw [List.cons_append, trT, trT, trT_snoc, chA, List.append_assoc]
theorem chA_bd [Mode] : ∀ {c : Int} {fs : List Fi}, 0 ≤ c → c < 9973 → fs.all wrF = true → 0 ≤ chA c fs ∧ chA c fs < 9973
  | c, [], h0, h1, _ => ⟨h0, h1⟩
  | c, f :: fs, h0, h1, hf => by
    rw [List.all_cons, Bool.and_eq_true] at hf
    have := nxI_bd h0 hf.1
    show 0 ≤ chA (nxI c f) fs ∧ chA (nxI c f) fs < 9973
    exact chA_bd this.1 this.2 hf.2
theorem trT_len [Mode] : ∀ {c : Int} {fs : List Fi}, 0 ≤ c → fs.all wrF = true → (trT c fs).length ≤ 60 * fs.length
  | c, [], _, _ => by simp [trT]
  | c, f :: fs, h0, hf => by
    rw [List.all_cons, Bool.and_eq_true] at hf
    have h1 := trN_len h0 hf.1
    have h2 := trT_len (nxI_bd h0 hf.1).1 hf.2
    rw [trT, List.length_append, List.length_cons]
    omega
end Go.Proofs.YtdgodkpobomneaaDoor
end

section
namespace Go.Proofs.YtdgodkpobomneaaDoor
set_option linter.unusedSimpArgs false
set_option linter.unusedVariables false
open Go Go.RowKit

/-- A contract of the reading, used in the machine's terms. -/
theorem AC.at [Mode] {P : Program} {f : FuncId} {args : List AV} {res : AV} {w : World} {vs : List Value} (h : AC P f args H0 res H0) (hg : Glb (fun b => b < w.heap.size) w) (hv : VRs (fun _ => none) (fun b => b < w.heap.size) w args vs) :
    Calls P f vs.toArray w fun e w' => ∃ v ι F, e = .returned v ∧ VR ι F w' res v ∧ Below w.heap.size w w' := by
  refine (h (fun _ => none) (fun b => b < w.heap.size) w vs ⟨fun l o h => (by cases h), fun l l' b s s' h => absurd rfl h, fun l b s h => absurd rfl h, fun b h => h, hg⟩ (fun _ _ => rfl) hv).mono ?_
  rintro e w' ⟨v, ι', F', rfl, hr, _, hst, _⟩
  exact ⟨v, ι', F', rfl, hr, hst.os, hst.tape, hst.output, hst.size, fun b hb => hst.block b hb fun ⟨l, hl, _⟩ => absurd rfl hl⟩
def Fi.enc (f : Fi) : List Value := [.int .i64 f.e, .int .i64 f.n, .int .i64 f.t]
end Go.Proofs.YtdgodkpobomneaaDoor
end

section
namespace Go.Proofs.YtdgodkpobomneaaDoor
set_option linter.unusedSimpArgs false
set_option linter.unusedVariables false
open Go Go.RowKit Go.ChangeShapes Go.WideShapes Go.Deep Go.ChangeMaps

instance : Inhabited Fi := ⟨⟨0, 0, 0⟩⟩
section
variable {H : Type} {enc : TypeId × Value → H} {w : World} {base : Nat} {spare : Nat → Bool} {held : Bool}
set_option maxRecDepth 100000 in
theorem rdt_text {r : Reach} {b0 : Nat} {v : Value} {d : DataW H} {p : List MemPlace} (hv : Value.okWide Tryd.prog w r b0 9 v) (h : DataW.Trod enc Tryd.prog w base spare held 9 v d p) : ∃ l : List UInt8, v = .string ⟨l.toArray⟩ ∧ l.length ≤ maxLen := by
  obtain ⟨s, rfl, _, _, h1⟩ := open_string Tryd.underlying9 hv h
  exact ⟨s.data.toList, congrArg Value.string (mk_eta s), by simpa using h1⟩
end
end Go.Proofs.YtdgodkpobomneaaDoor
end

section
namespace Go.Proofs.YtdgodkpobomneaaDoor
set_option linter.unusedSimpArgs false
set_option linter.unusedVariables false
open Go Go.RowKit
attribute [local irreducible] AL AD AW OpOk Le AC thenQ blockQ EndQ

section
variable {P : Program} {o : Oper} {A : Operand → AV} {H : Heap} {new : Nat} {t t' : TypeId} {x y : Operand} {a : List UInt8}
theorem Ok.sneSame [Mode] (ho : o.op = .binOp .neq t x y t') (hx : A x = Str a) (hy : A y = Str a) : OpOk P o A [] H new (Bo false) [] := by
  have := Ok.sneS (P := P) (H := H) (new := new) ho hx hy
  rwa [decide_eq_false (by simp)] at this
end
/-! The laws' helpers. -/
theorem eqFiring_ac [Mode] (f g : Fi) : AC Tryd.prog 44 [f.av, g.av] H0 (Bo (decide (f = g))) H0 := by
  obtain ⟨e, n, t⟩ := f
  obtain ⟨e', n', t'⟩ := g
  have hd : decide ((⟨e, n, t⟩ : Fi) = ⟨e', n', t'⟩) = (decide (e = e') && (decide (n = n') && decide (t = t'))) := by
    by_cases h1 : e = e' <;> by_cases h2 : n = n' <;> by_cases h3 : t = t' <;> simp [h1, h2, h3]
  rw [hd]
  refine AC.of_body 0 Tryd.func44 rfl (fun l h => absurd rfl h) (fun C hC => ?_)
  have hD : ∀ l, ¬ C.D0 l := fun l h => (hC l).1 h rfl
  simp only [startFr, Tryd.ntmps44, List.length_cons, List.length_nil, Nat.reduceAdd, Nat.reduceSub, List.replicate_succ, List.replicate_zero, List.cons_append, List.nil_append]
  repeat' (first | ((first | apply Ba | (apply Bb; (· rfl); (· rfl)) | (apply Bc; (· exact nxE)) | (apply Bd; (· rfl); (· rfl); (· exact nxE))); (· first | exact Ok.seqS rfl rfl rfl | exact Ok.sneS rfl rfl rfl | exact Ok.slen rfl rfl | exact Ok.sjoin rfl rfl rfl (by simp only [List.length_append, List.length_cons, List.length_nil]; omega) | exact Ok.pe)) | ((first | apply Ca | (apply Cb; (· exact nxE))); (· first | exact Ok.e0)) | refine Sx ?_ | (refine Sy (fun h => ?_) (fun h => ?_) <;> try (exfalso; omega; done)) | refine Sz (fun h => ?_) (fun h => ?_))
  all_goals
    refine Ya ?_
    (apply Le.headZ (hs := []) [] rfl)
    all_goals (try dsimp only [srcs])
    (case' hfr => (repeat' (first | refine La ?_ ?_ | exact Lc | refine Lo ?_ | refine ⟨⟨_, rfl, ?_⟩, ?_⟩ | refine Lx ?_)))
    all_goals (first | exact Ld | exact trivial | ((simp_all; done)))
theorem eqFiringS_refl [Mode] (fs : List Fi) (hn : fs.length ≤ 100000000) : AC Tryd.prog 17 [FL fs, FL fs] H0 (Bo true) H0 := by
  refine AC.of_body 0 Tryd.func17 rfl (fun l h => absurd rfl h) (fun C hC => ?_)
  have hD : ∀ l, ¬ C.D0 l := fun l h => (hC l).1 h rfl
  simp only [startFr, Tryd.ntmps17, List.length_cons, List.length_nil, Nat.reduceAdd, Nat.reduceSub, List.replicate_succ, List.replicate_zero, List.cons_append, List.nil_append]
  repeat' (first | ((first | apply Ba | (apply Bb; (· rfl); (· rfl)) | (apply Bc; (· exact nxE)) | (apply Bd; (· rfl); (· rfl); (· exact nxE))); (· first | exact Ok.lenD rfl rfl FL_len | exact Ok.seqS rfl rfl rfl | exact Ok.sneS rfl rfl rfl | exact Ok.slen rfl rfl | exact Ok.sjoin rfl rfl rfl (by simp only [List.length_append, List.length_cons, List.length_nil]; omega) | exact Ok.pe)) | ((first | apply Ca | (apply Cb; (· exact nxE))); (· first | exact Ok.e0)) | refine Sx ?_ | (refine Sy (fun h => ?_) (fun h => ?_) <;> try (exfalso; omega; done)) | refine Sz (fun h => ?_) (fun h => ?_))
  refine AW.loop (X := {k : Nat // k ≤ fs.length}) (fun k => ⟨[FL fs, FL fs, Oo, Oo, Oo, I (k.1 : Nat), Oo, Oo, Oo, Oo, Oo, Oo, Oo, Oo, Oo, Oo, Oo, Oo, Oo, Oo, Oo, Oo, Oo, Oo, Oo, Oo, Oo], heapL [], 900⟩) (fun k => fs.length - k.1) ⟨0, Nat.zero_le _⟩ ?_ (fun k => ?_)
  ·
    (apply Le.headZ [] rfl)
    all_goals (try dsimp only [srcs])
    (case' hfr | hob => (repeat' (first | refine La ?_ ?_ | exact Lc | refine Lo ?_ | refine ⟨⟨_, rfl, ?_⟩, ?_⟩ | refine Lx ?_)))
    all_goals (first | (rfl) | exact Ld)
  obtain ⟨k, hk⟩ := k
  simp only
  by_cases hlt : k < fs.length
  · obtain ⟨f, hf⟩ : ∃ f, fs[k]? = some f := ⟨fs[k], List.getElem?_eq_getElem hlt⟩
    have hrow : (fs.map Fi.row)[((k : Nat) : Int).toNat]? = some [DI f.e, DI f.n, DI f.t] := row_get hf
    have hE := eqFiring_ac f f
    rw [decide_eq_true rfl] at hE
    repeat' (first | ((first | apply Ba | (apply Bb; (· rfl); (· rfl)) | (apply Bc; (· exact nxE)) | (apply Bd; (· rfl); (· rfl); (· exact nxE))); (· first | exact Ok.lenD rfl rfl FL_len | exact Kz rfl rfl (hE) (Aa (Ad (Ad (Ad An))) (Aa (Ad (Ad (Ad An))) An)) | exact Ok.seqS rfl rfl rfl | exact Ok.sneS rfl rfl rfl | exact Ok.slen rfl rfl | exact Ok.sjoin rfl rfl rfl (by simp only [List.length_append, List.length_cons, List.length_nil]; omega) | exact Ok.pe)) | ((first | apply Ca | (apply Cb; (· exact nxE))); (· first | exact Ok.e0)) | refine Sx ?_ | (refine Sy (fun h => ?_) (fun h => ?_) <;> try (exfalso; omega; done)) | refine Sz (fun h => ?_) (fun h => ?_))
    refine ⟨⟨k + 1, by omega⟩, ?_, by simp only; omega⟩
    (apply Le.headZ [] rfl)
    all_goals (try dsimp only [srcs])
    (case' hfr | hob => (repeat' (first | refine La ?_ ?_ | exact Lc | refine Lo ?_ | refine ⟨⟨_, rfl, ?_⟩, ?_⟩ | refine Lx ?_)))
    all_goals (first | (rfl) | exact Ld)
  ·
    repeat' (first | ((first | apply Ba | (apply Bb; (· rfl); (· rfl)) | (apply Bc; (· exact nxE)) | (apply Bd; (· rfl); (· rfl); (· exact nxE))); (· first | exact Ok.lenD rfl rfl FL_len | exact Ok.seqS rfl rfl rfl | exact Ok.sneS rfl rfl rfl | exact Ok.slen rfl rfl | exact Ok.sjoin rfl rfl rfl (by simp only [List.length_append, List.length_cons, List.length_nil]; omega) | exact Ok.pe)) | ((first | apply Ca | (apply Cb; (· exact nxE))); (· first | exact Ok.e0)) | refine Sx ?_ | (refine Sy (fun h => ?_) (fun h => ?_) <;> try (exfalso; omega; done)) | refine Sz (fun h => ?_) (fun h => ?_))
    refine Ya ?_
    (apply Le.headZ (hs := []) [] rfl)
    all_goals (try dsimp only [srcs])
    (case' hfr => (repeat' (first | refine La ?_ ?_ | exact Lc | refine Lo ?_ | refine ⟨⟨_, rfl, ?_⟩, ?_⟩ | refine Lx ?_)))
    all_goals (first | exact Ld | exact trivial | (rfl))
end Go.Proofs.YtdgodkpobomneaaDoor
end

section
namespace Go.Proofs.YtdgodkpobomneaaDoor
set_option linter.unusedSimpArgs false
set_option linter.unusedVariables false
open Go Go.RowKit
attribute [local irreducible] AL AD AW OpOk Le AC thenQ blockQ EndQ

/-- The marks of firings, counted from k on. -/
def mkF (k : Int) (i : Nat) : Fi := ⟨k + 3 * i, k + 3 * i + 1, k + 3 * i + 1 + 1⟩
def mksF (k : Int) (n : Nat) : List Fi := (List.range n).map (mkF k)
theorem mksF_len [Mode] (k : Int) (n : Nat) : (mksF k n).length = n := by simp [mksF]
theorem mksF_get [Mode] {k : Int} {n i : Nat} (h : i < n) : (mksF k n)[i]? = some (mkF k i) := by simp [mksF, h]
set_option maxHeartbeats 1000000 in
theorem markFiS_ac [Mode] (xs : List Fi) (k0 : Int) (hx : xs.length ≤ 10000000) (hk : 0 ≤ k0 ∧ k0 ≤ 1000000000) : AC Tryd.prog 29 [own1 3 xs.length, I k0] (hp1 (FO xs)) (I (k0 + 3 * xs.length)) (hp1 (FO (mksF k0 xs.length))) := by
  refine AC.of_body 1 Tryd.func29 rfl (fun l h => by simp [upd] at h; simp [h]) (fun C hC => ?_)
  simp only [startFr, Tryd.ntmps29, List.length_cons, List.length_nil, Nat.reduceAdd, Nat.reduceSub, List.replicate_succ, List.replicate_zero, List.cons_append, List.nil_append]
  have hD : ∀ l, C.D0 l → l = ⟨0, []⟩ := fun l h => by have := (hC l).1 h; simp [upd] at this; exact this
  repeat' (first | ((first | apply Ba | (apply Bb; (· rfl); (· rfl)) | (apply Bc; (· exact nxE)) | (apply Bd; (· rfl); (· rfl); (· exact nxE))); (· first | exact Ok.pe)) | ((first | apply Ca | (apply Cb; (· exact nxE))); (· first | exact Ok.e0)) | refine Sx ?_ | (refine Sy (fun h => ?_) (fun h => ?_) <;> try (exfalso; omega; done)) | refine Sz (fun h => ?_) (fun h => ?_))
  refine AW.loop (X := {i : Nat // i ≤ xs.length}) (fun i => ⟨[own1 3 xs.length, I (k0 + 3 * (i.1 : Nat)), Oo, Oo, Oo, I (i.1 : Nat), Oo, Oo, Oo, Oo, Oo, Oo, Oo, Oo, Oo, Oo, Oo, Oo, Oo, Oo, Oo, Oo, Oo, Oo, Oo, Oo, Oo, Oo, Oo, Oo, Oo, Oo, Oo, Oo], heapL [(⟨0, []⟩, ⟨0, []⟩, dobj 3 ((markL (mkF k0) xs i.1).map Fi.row))], 50⟩) (fun i => xs.length - i.1) ⟨0, Nat.zero_le _⟩ ?_ (fun i => ?_)
  ·
    refine Le.head ([(⟨0, []⟩, ⟨0, []⟩, dobj 3 ((markL (mkF k0) xs 0).map Fi.row))]) (by first | exact fun l h => absurd h (hD l) | (intro l h; rcases hD l h with rfl; simp [tauL]) | (intro l h; rcases hD l h with rfl | rfl <;> simp [tauL]; done) | (intro l h; rcases hD l h with rfl | rfl | rfl <;> simp [tauL])) ?_ ?_ (by simp) (by simp) (by simp [AllP]) <;> (repeat' (first | exact trivial | exact ARs.nil | refine ARs.cons ?_ ?_ | exact AR.dead _ | exact AR.dd _ | exact AR.i (by (try dsimp only); omega) | exact AR.ptr _ _ _ _ (by simp [heapL, upd]) | exact AR.own _ _ _ _ (by simp [heapL, upd]) | refine AR.ownE _ _ _ ?_ (by simp [heapL, upd]) | refine ⟨⟨_, rfl, ?_⟩, ?_⟩ | exact ObA.data | refine ObA.box ?_ | refine ObA.frE ?_ | refine ObA.dataE ?_ | refine ARs.agg ?_ | refine ARs.tup ?_ | exact AR.clo' ARs.nil ARs.nil | exact AR.clo' ARs.nil (hca _ _)))
    all_goals (rw [markL_0])
  obtain ⟨i, hi⟩ := i
  simp only
  by_cases hlt : i < xs.length
  · obtain ⟨p, hp⟩ : ∃ p, xs[i]? = some p := ⟨xs[i], by simp⟩
    have hL : 0 + ((i : Nat) : Int).toNat < (rowsA Fi.row (markL (mkF k0) xs i)).length := by rw [rowsA_len, markL_len (by omega)]; omega
    rw [mark_open hp]
    simp only [Fi.row, List.map_cons, List.map_nil]
    repeat' (first | ((first | apply Ba | (apply Bb; (· rfl); (· rfl)) | (apply Bc; (· exact nxE)) | (apply Bd; (· rfl); (· rfl); (· exact nxE))); (· first | exact Ok.storeR rfl rfl rfl hL (by simp only [List.length_cons, List.length_nil, Nat.reduceAdd, Nat.reduceLT]) (by conv => lhs; whnf) (by rfl) (by rfl) (by simp only [List.set_cons_succ, List.set_cons_zero]; exact rfl) | exact Ok.pe)) | ((first | apply Ca | (apply Cb; (· exact nxE))); (· first | exact Ok.storeR rfl rfl rfl hL (by simp only [List.length_cons, List.length_nil, Nat.reduceAdd, Nat.reduceLT]) (by conv => lhs; whnf) (by rfl) (by rfl) (by simp only [List.set_cons_succ, List.set_cons_zero]; exact rfl) | exact Ok.e0)) | refine Sx ?_ | (refine Sy (fun h => ?_) (fun h => ?_) <;> try (exfalso; omega; done)) | refine Sz (fun h => ?_) (fun h => ?_))
    · refine ⟨⟨i + 1, by omega⟩, ?_, by simp only; omega⟩
      refine Le.head ([(⟨0, []⟩, ⟨0, []⟩, dobj 3 ((markL (mkF k0) xs (i + 1)).map Fi.row))]) (by first | exact fun l h => absurd h (hD l) | (intro l h; rcases hD l h with rfl; simp [tauL]) | (intro l h; rcases hD l h with rfl | rfl <;> simp [tauL]; done) | (intro l h; rcases hD l h with rfl | rfl | rfl <;> simp [tauL])) ?_ ?_ (by simp) (by simp) (by simp [AllP]) <;> (repeat' (first | exact trivial | exact ARs.nil | refine ARs.cons ?_ ?_ | exact AR.dead _ | exact AR.dd _ | exact AR.i (by (try dsimp only); omega) | exact AR.ptr _ _ _ _ (by simp [heapL, upd]) | exact AR.own _ _ _ _ (by simp [heapL, upd]) | refine AR.ownE _ _ _ ?_ (by simp [heapL, upd]) | refine ⟨⟨_, rfl, ?_⟩, ?_⟩ | exact ObA.data | refine ObA.box ?_ | refine ObA.frE ?_ | refine ObA.dataE ?_ | refine ARs.agg ?_ | refine ARs.tup ?_ | exact AR.clo' ARs.nil ARs.nil | exact AR.clo' ARs.nil (hca _ _)))
      all_goals (exact mark_shut hlt rfl)
  have hi2 : i = xs.length := by omega
  repeat' (first | ((first | apply Ba | (apply Bb; (· rfl); (· rfl)) | (apply Bc; (· exact nxE)) | (apply Bd; (· rfl); (· rfl); (· exact nxE))); (· first | exact Ok.pe)) | ((first | apply Ca | (apply Cb; (· exact nxE))); (· first | exact Ok.e0)) | refine Sx ?_ | (refine Sy (fun h => ?_) (fun h => ?_) <;> try (exfalso; omega; done)) | refine Sz (fun h => ?_) (fun h => ?_))
  (refine end1p (by first | exact .inl rfl | exact .inr rfl) rfl (by first | exact rT rfl | exact rCA rfl rfl rfl rfl (by simp) | exact rCC rfl rfl rfl rfl rfl) ?_ (Le.head ([(⟨0, []⟩, ⟨0, []⟩, dobj 3 ((mksF k0 xs.length).map Fi.row))]) (by first | exact fun l h => absurd h (hD l) | (intro l h; rcases hD l h with rfl; simp [tauL]) | (intro l h; rcases hD l h with rfl | rfl <;> simp [tauL]; done) | (intro l h; rcases hD l h with rfl | rfl | rfl <;> simp [tauL])) ?_ ?_ (by simp) (by simp) (by simp [AllP]) (n' := 1000)); (· rw [hi2])) <;> (repeat' (first | exact trivial | exact ARs.nil | refine ARs.cons ?_ ?_ | exact AR.dead _ | exact AR.dd _ | exact AR.i (by (try dsimp only); omega) | exact AR.ptr _ _ _ _ (by simp [heapL, upd]) | exact AR.own _ _ _ _ (by simp [heapL, upd]) | refine AR.ownE _ _ _ ?_ (by simp [heapL, upd]) | refine ⟨⟨_, rfl, ?_⟩, ?_⟩ | exact ObA.data | refine ObA.box ?_ | refine ObA.frE ?_ | refine ObA.dataE ?_ | refine ARs.agg ?_ | refine ARs.tup ?_ | exact AR.clo' ARs.nil ARs.nil | exact AR.clo' ARs.nil (hca _ _)))
  all_goals (rw [markL_all hi2]; rfl)
theorem heldFiS_ac [Mode] (n : Nat) (k0 : Int) (hx : n ≤ 10000000) (hk : 0 ≤ k0 ∧ k0 ≤ 1000000000) : AC Tryd.prog 30 [FL (mksF k0 n), I k0] H0 (I (k0 + 3 * n)) H0 := by
  refine AC.of_body 0 Tryd.func30 rfl (fun l h => absurd rfl h) (fun C hC => ?_)
  have hD : ∀ l, ¬ C.D0 l := fun l h => (hC l).1 h rfl
  simp only [startFr, Tryd.ntmps30, List.length_cons, List.length_nil, Nat.reduceAdd, Nat.reduceSub, List.replicate_succ, List.replicate_zero, List.cons_append, List.nil_append]
  repeat' (first | ((first | apply Ba | (apply Bb; (· rfl); (· rfl)) | (apply Bc; (· exact nxE)) | (apply Bd; (· rfl); (· rfl); (· exact nxE))); (· first | exact Ok.pe)) | ((first | apply Ca | (apply Cb; (· exact nxE))); (· first | exact Ok.e0)) | refine Sx ?_ | (refine Sy (fun h => ?_) (fun h => ?_) <;> try (exfalso; omega; done)) | refine Sz (fun h => ?_) (fun h => ?_))
  have hl := mksF_len k0 n
  refine AW.loop (X := {i : Nat // i ≤ n}) (fun i => ⟨[FL (mksF k0 n), I (k0 + 3 * (i.1 : Nat)), Oo, Oo, Oo, I (i.1 : Nat), Oo, Oo, Oo, Oo, Oo, Oo, Oo, Oo, Oo, Oo, Oo, Oo, Oo, Oo, Oo, Oo, Oo, Oo, Oo, Oo, Oo, Oo, Oo, Oo, Oo, Oo, Oo, Oo, Oo, Oo, Oo, Oo, Oo, Oo], heapL [], 50⟩) (fun i => n - i.1) ⟨0, Nat.zero_le _⟩ ?_ (fun i => ?_)
  ·
    refine Le.head ([]) (by first | exact fun l h => absurd h (hD l) | (intro l h; rcases hD l h with rfl; simp [tauL]) | (intro l h; rcases hD l h with rfl | rfl <;> simp [tauL]; done) | (intro l h; rcases hD l h with rfl | rfl | rfl <;> simp [tauL])) ?_ ?_ (by simp) (by simp) (by simp [AllP]) <;> (repeat' (first | exact trivial | exact ARs.nil | refine ARs.cons ?_ ?_ | exact AR.dead _ | exact AR.dd _ | exact AR.i (by (try dsimp only); omega) | exact AR.ptr _ _ _ _ (by simp [heapL, upd]) | exact AR.own _ _ _ _ (by simp [heapL, upd]) | refine AR.ownE _ _ _ ?_ (by simp [heapL, upd]) | refine ⟨⟨_, rfl, ?_⟩, ?_⟩ | exact ObA.data | refine ObA.box ?_ | refine ObA.frE ?_ | refine ObA.dataE ?_ | refine ARs.agg ?_ | refine ARs.tup ?_ | exact AR.clo' ARs.nil ARs.nil | exact AR.clo' ARs.nil (hca _ _)))
  obtain ⟨i, hi⟩ := i
  simp only
  by_cases hlt : i < n
  · have hrow : ((mksF k0 n).map Fi.row)[((i : Nat) : Int).toNat]? = some [DI (k0 + 3 * i), DI (k0 + 3 * i + 1), DI (k0 + 3 * i + 1 + 1)] := row_get (mksF_get hlt)
    repeat' (first | ((first | apply Ba | (apply Bb; (· rfl); (· rfl)) | (apply Bc; (· exact nxE)) | (apply Bd; (· rfl); (· rfl); (· exact nxE))); (· first | exact Ok.pe)) | ((first | apply Ca | (apply Cb; (· exact nxE))); (· first | exact Ok.e0)) | refine Sx ?_ | (refine Sy (fun h => ?_) (fun h => ?_) <;> try (exfalso; omega; done)) | refine Sz (fun h => ?_) (fun h => ?_))
    · refine ⟨⟨i + 1, by omega⟩, ?_, by simp only; omega⟩
      refine Le.head ([]) (by first | exact fun l h => absurd h (hD l) | (intro l h; rcases hD l h with rfl; simp [tauL]) | (intro l h; rcases hD l h with rfl | rfl <;> simp [tauL]; done) | (intro l h; rcases hD l h with rfl | rfl | rfl <;> simp [tauL])) ?_ ?_ (by simp) (by simp) (by simp [AllP]) <;> (repeat' (first | exact trivial | exact ARs.nil | refine ARs.cons ?_ ?_ | exact AR.dead _ | exact AR.dd _ | exact AR.i (by (try dsimp only); omega) | exact AR.ptr _ _ _ _ (by simp [heapL, upd]) | exact AR.own _ _ _ _ (by simp [heapL, upd]) | refine AR.ownE _ _ _ ?_ (by simp [heapL, upd]) | refine ⟨⟨_, rfl, ?_⟩, ?_⟩ | exact ObA.data | refine ObA.box ?_ | refine ObA.frE ?_ | refine ObA.dataE ?_ | refine ARs.agg ?_ | refine ARs.tup ?_ | exact AR.clo' ARs.nil ARs.nil | exact AR.clo' ARs.nil (hca _ _)))
  have hi2 : i = n := by omega
  repeat' (first | ((first | apply Ba | (apply Bb; (· rfl); (· rfl)) | (apply Bc; (· exact nxE)) | (apply Bd; (· rfl); (· rfl); (· exact nxE))); (· first | exact Ok.pe)) | ((first | apply Ca | (apply Cb; (· exact nxE))); (· first | exact Ok.e0)) | refine Sx ?_ | (refine Sy (fun h => ?_) (fun h => ?_) <;> try (exfalso; omega; done)) | refine Sz (fun h => ?_) (fun h => ?_))
  (refine end1p (by first | exact .inl rfl | exact .inr rfl) rfl (by first | exact rT rfl | exact rCA rfl rfl rfl rfl (by simp) | exact rCC rfl rfl rfl rfl rfl) ?_ (Le.head ([]) (by first | exact fun l h => absurd h (hD l) | (intro l h; rcases hD l h with rfl; simp [tauL]) | (intro l h; rcases hD l h with rfl | rfl <;> simp [tauL]; done) | (intro l h; rcases hD l h with rfl | rfl | rfl <;> simp [tauL])) ?_ ?_ (by simp) (by simp) (by simp [AllP]) (n' := 1000)); (· rw [hi2])) <;> (repeat' (first | exact trivial | exact ARs.nil | refine ARs.cons ?_ ?_ | exact AR.dead _ | exact AR.dd _ | exact AR.i (by (try dsimp only); omega) | exact AR.ptr _ _ _ _ (by simp [heapL, upd]) | exact AR.own _ _ _ _ (by simp [heapL, upd]) | refine AR.ownE _ _ _ ?_ (by simp [heapL, upd]) | refine ⟨⟨_, rfl, ?_⟩, ?_⟩ | exact ObA.data | refine ObA.box ?_ | refine ObA.frE ?_ | refine ObA.dataE ?_ | refine ARs.agg ?_ | refine ARs.tup ?_ | exact AR.clo' ARs.nil ARs.nil | exact AR.clo' ARs.nil (hca _ _)))
/-- No firing at all. -/
theorem markFiS_none [Mode] (k0 : Int) : AC Tryd.prog 29 [FL [], I k0] H0 (I k0) H0 := by
  refine AC.of_body 0 Tryd.func29 rfl (fun l h => absurd rfl h) (fun C hC => ?_)
  have hD : ∀ l, ¬ C.D0 l := fun l h => (hC l).1 h rfl
  simp only [startFr, Tryd.ntmps29, List.length_cons, List.length_nil, Nat.reduceAdd, Nat.reduceSub, List.replicate_succ, List.replicate_zero, List.cons_append, List.nil_append]
  repeat' (first | ((first | apply Ba | (apply Bb; (· rfl); (· rfl)) | (apply Bc; (· exact nxE)) | (apply Bd; (· rfl); (· rfl); (· exact nxE))); (· first | exact Ok.pe)) | ((first | apply Ca | (apply Cb; (· exact nxE))); (· first | exact Ok.e0)) | refine Sx ?_ | (refine Sy (fun h => ?_) (fun h => ?_) <;> try (exfalso; omega; done)) | refine Sz (fun h => ?_) (fun h => ?_))
  refine AW.loop (X := {i : Nat // i ≤ 0}) (fun i => ⟨[FL [], I k0, Oo, Oo, Oo, I 0, Oo, Oo, Oo, Oo, Oo, Oo, Oo, Oo, Oo, Oo, Oo, Oo, Oo, Oo, Oo, Oo, Oo, Oo, Oo, Oo, Oo, Oo, Oo, Oo, Oo, Oo, Oo, Oo], heapL [], 50⟩) (fun i => 0) ⟨0, Nat.zero_le _⟩ ?_ (fun i => ?_)
  ·
    refine Le.head ([]) (by first | exact fun l h => absurd h (hD l) | (intro l h; rcases hD l h with rfl; simp [tauL]) | (intro l h; rcases hD l h with rfl | rfl <;> simp [tauL]; done) | (intro l h; rcases hD l h with rfl | rfl | rfl <;> simp [tauL])) ?_ ?_ (by simp) (by simp) (by simp [AllP]) <;> (repeat' (first | exact trivial | exact ARs.nil | refine ARs.cons ?_ ?_ | exact AR.dead _ | exact AR.dd _ | exact AR.i (by (try dsimp only); omega) | exact AR.ptr _ _ _ _ (by simp [heapL, upd]) | exact AR.own _ _ _ _ (by simp [heapL, upd]) | refine AR.ownE _ _ _ ?_ (by simp [heapL, upd]) | refine ⟨⟨_, rfl, ?_⟩, ?_⟩ | exact ObA.data | refine ObA.box ?_ | refine ObA.frE ?_ | refine ObA.dataE ?_ | refine ARs.agg ?_ | refine ARs.tup ?_ | exact AR.clo' ARs.nil ARs.nil | exact AR.clo' ARs.nil (hca _ _)))
  repeat' (first | ((first | apply Ba | (apply Bb; (· rfl); (· rfl)) | (apply Bc; (· exact nxE)) | (apply Bd; (· rfl); (· rfl); (· exact nxE))); (· first | exact Ok.pe)) | ((first | apply Ca | (apply Cb; (· exact nxE))); (· first | exact Ok.e0)) | refine Sx ?_ | (refine Sy (fun h => ?_) (fun h => ?_) <;> try (exfalso; omega; done)) | refine Sz (fun h => ?_) (fun h => ?_))
  (refine end1p (by first | exact .inl rfl | exact .inr rfl) rfl (by first | exact rT rfl | exact rCA rfl rfl rfl rfl (by simp) | exact rCC rfl rfl rfl rfl rfl) ?_ (Le.head ([]) (by first | exact fun l h => absurd h (hD l) | (intro l h; rcases hD l h with rfl; simp [tauL]) | (intro l h; rcases hD l h with rfl | rfl <;> simp [tauL]; done) | (intro l h; rcases hD l h with rfl | rfl | rfl <;> simp [tauL])) ?_ ?_ (by simp) (by simp) (by simp [AllP]) (n' := 1000)); (· rfl)) <;> (repeat' (first | exact trivial | exact ARs.nil | refine ARs.cons ?_ ?_ | exact AR.dead _ | exact AR.dd _ | exact AR.i (by (try dsimp only); omega) | exact AR.ptr _ _ _ _ (by simp [heapL, upd]) | exact AR.own _ _ _ _ (by simp [heapL, upd]) | refine AR.ownE _ _ _ ?_ (by simp [heapL, upd]) | refine ⟨⟨_, rfl, ?_⟩, ?_⟩ | exact ObA.data | refine ObA.box ?_ | refine ObA.frE ?_ | refine ObA.dataE ?_ | refine ARs.agg ?_ | refine ARs.tup ?_ | exact AR.clo' ARs.nil ARs.nil | exact AR.clo' ARs.nil (hca _ _)))
end Go.Proofs.YtdgodkpobomneaaDoor
end

section
namespace Go.Proofs.YtdgodkpobomneaaDoor
set_option linter.unusedSimpArgs false
set_option linter.unusedVariables false
open Go Go.RowKit
attribute [local irreducible] AL AD AW OpOk Le AC thenQ blockQ EndQ

abbrev SL (ss : List (List UInt8)) : AV := .d (.sl 1 (stR ss))
abbrev SO (ss : List (List UInt8)) : AObj := dobj 1 (stR ss)
theorem stR_app [Mode] (a b : List (List UInt8)) : stR (a ++ b) = stR a ++ stR b := by simp [stR]
theorem stR_get [Mode] {ss : List (List UInt8)} {i : Nat} {s : List UInt8} (h : ss[i]? = some s) : (stR ss)[i]? = some [StrD s] := by simp [stR, h]
theorem stR_getI [Mode] {ss : List (List UInt8)} {i : Nat} {s : List UInt8} (h : ss[i]? = some s) : (stR ss)[((i : Nat) : Int).toNat]? = some [StrD s] := by rw [Int.toNat_natCast]; exact stR_get h
set_option maxHeartbeats 2000000 in
theorem l01Split_ac [Mode] (l : List UInt8) (c : UInt8) (hl : l.length ≤ 100000000) : AC Tryd.prog 46 [Str l, Byt c] H0 (own1 1 (spl c l).length) (hp1 (SO (spl c l))) := by
  rw [← stS_end]
  refine AC.of_body 0 Tryd.func46 rfl (fun l h => absurd rfl h) (fun C hC => ?_)
  have hD : ∀ l, ¬ C.D0 l := fun l h => (hC l).1 h rfl
  simp only [startFr, Tryd.ntmps46, List.length_cons, List.length_nil, Nat.reduceAdd, Nat.reduceSub, List.replicate_succ, List.replicate_zero, List.cons_append, List.nil_append]
  repeat' (first | ((first | apply Ba | (apply Bb; (· rfl); (· rfl)) | (apply Bc; (· exact nxE)) | (apply Bd; (· rfl); (· rfl); (· exact nxE))); (· first | exact Ok.seqS rfl rfl rfl | exact Ok.sneS rfl rfl rfl | exact Ok.slen rfl rfl | exact Ok.pe)) | ((first | apply Ca | (apply Cb; (· exact nxE))); (· first | exact Ok.e0)) | refine Sx ?_ | (refine Sy (fun h => ?_) (fun h => ?_) <;> try (exfalso; omega; done)) | refine Sz (fun h => ?_) (fun h => ?_))
  refine AW.loop (X := {k : Nat // k ≤ l.length + 1}) (fun k => ⟨[Str l, Byt c, Oo, Oo, Oo, .own 1 ⟨0, []⟩ 0 (stS c l (k.1 : Nat)).2.length, I ((stS c l (k.1 : Nat)).1 : Nat), I (k.1 : Nat), Oo, Oo, Oo, Oo, Oo, Oo, Oo, Oo, Oo, Oo, Oo, Oo, Oo, Oo, Oo, Oo, Oo, Oo, Oo, Oo, Oo, Oo, Oo, Oo, Oo, Oo, Oo, Oo], heapL [(⟨0, []⟩, ⟨0, []⟩, SO (stS c l k.1).2)], 900⟩) (fun k => l.length + 1 - k.1) ⟨0, Nat.zero_le _⟩ ?_ (fun k => ?_)
  ·
    (apply Le.headZ [_] rfl)
    all_goals (try dsimp only [srcs])
    (case' hfr | hob => (repeat' (first | refine La ?_ ?_ | exact Lc | refine Lo ?_ | refine ⟨⟨_, rfl, ?_⟩, ?_⟩ | refine Lx ?_)))
    all_goals (first | (rfl) | exact Ld)
  obtain ⟨k, hk⟩ := k
  simp only
  have hle := stS_le c l k
  have hsl := stS_len c l k
  have hol : (stR (stS c l k).2).length = (stS c l k).2.length := stR_len _
  by_cases hlt : k < l.length + 1
  · by_cases hkl : k = l.length
    · have hs : stS c l (k + 1) = (k + 1, (stS c l k).2 ++ [(l.drop (stS c l k).1).take (k - (stS c l k).1)]) := by rw [stS, if_pos (.inl hkl)]
      repeat' (first | ((first | apply Ba | (apply Bb; (· rfl); (· rfl)) | (apply Bc; (· exact nxE)) | (apply Bd; (· rfl); (· rfl); (· exact nxE))); (· first | exact Ok.sBoth rfl rfl rfl rfl rfl rfl (by omega) (by omega) | exact Ok.seqS rfl rfl rfl | exact Ok.sneS rfl rfl rfl | exact Ok.slen rfl rfl | exact Ok.append1 (row := [StrD ((l.drop (stS c l k).1).take (k - (stS c l k).1))]) rfl rfl (by decide) rfl rfl hol rfl rfl rfl (by rfl) (by omega) (by omega) | exact Ok.pe)) | ((first | apply Ca | (apply Cb; (· exact nxE))); (· first | exact Ok.append1 (row := [StrD ((l.drop (stS c l k).1).take (k - (stS c l k).1))]) rfl rfl (by decide) rfl rfl hol rfl rfl rfl (by rfl) (by omega) (by omega) | exact Ok.e0)) | refine Sx ?_ | (refine Sy (fun h => ?_) (fun h => ?_) <;> try (exfalso; omega; done)) | refine Sz (fun h => ?_) (fun h => ?_))
      refine ⟨⟨k + 1, by omega⟩, ?_, by simp only; omega⟩
      (apply Le.headZ [_] rfl)
      all_goals (try dsimp only [srcs])
      (case' hfr | hob => (repeat' (first | refine La ?_ ?_ | exact Lc | refine Lo ?_ | refine ⟨⟨_, rfl, ?_⟩, ?_⟩ | refine Lx ?_)))
      all_goals (first | ((first | (rw [hs, List.length_append, List.length_singleton]; done) | (rw [hs]; rfl) | (rw [hs, stR_app]; rfl))) | exact Ld)
    · obtain ⟨x, hx⟩ : ∃ x, l[k]? = some x := ⟨l[k], List.getElem?_eq_getElem (by omega)⟩
      have hx' : l[((k : Nat) : Int).toNat]? = some x := by rw [Int.toNat_natCast]; exact hx
      by_cases hc : x = c
      · have hs : stS c l (k + 1) = (k + 1, (stS c l k).2 ++ [(l.drop (stS c l k).1).take (k - (stS c l k).1)]) := by rw [stS, if_pos (.inr (by rw [hx, hc]))]
        subst hc
        repeat' (first | ((first | apply Ba | (apply Bb; (· rfl); (· rfl)) | (apply Bc; (· exact nxE)) | (apply Bd; (· rfl); (· rfl); (· exact nxE))); (· first | exact Ok.sidx rfl rfl rfl (by omega) hx' | exact Ok.sBoth rfl rfl rfl rfl rfl rfl (by omega) (by omega) | exact Ok.seqS rfl rfl rfl | exact Ok.sneS rfl rfl rfl | exact Ok.slen rfl rfl | exact Ok.append1 (row := [StrD ((l.drop (stS x l k).1).take (k - (stS x l k).1))]) rfl rfl (by decide) rfl rfl hol rfl rfl rfl (by rfl) (by omega) (by omega) | exact Ok.pe)) | ((first | apply Ca | (apply Cb; (· exact nxE))); (· first | exact Ok.append1 (row := [StrD ((l.drop (stS x l k).1).take (k - (stS x l k).1))]) rfl rfl (by decide) rfl rfl hol rfl rfl rfl (by rfl) (by omega) (by omega) | exact Ok.e0)) | refine Sx ?_ | (refine Sy (fun h => ?_) (fun h => ?_) <;> try (exfalso; omega; done)) | refine Sz (fun h => ?_) (fun h => ?_))
        refine ⟨⟨k + 1, by omega⟩, ?_, by simp only; omega⟩
        (apply Le.headZ [_] rfl)
        all_goals (try dsimp only [srcs])
        (case' hfr | hob => (repeat' (first | refine La ?_ ?_ | exact Lc | refine Lo ?_ | refine ⟨⟨_, rfl, ?_⟩, ?_⟩ | refine Lx ?_)))
        all_goals (first | ((first | (rw [hs, List.length_append, List.length_singleton]; done) | (rw [hs]; rfl) | (rw [hs, stR_app]; rfl))) | exact Ld)
      · have hs : stS c l (k + 1) = stS c l k := by rw [stS, if_neg (by rw [hx]; simp [hc]; exact hkl)]
        have hne : ¬ ((x.toNat : Int) = c.toNat) := fun e => hc (UInt8.toNat_inj.1 (by omega))
        repeat' (first | ((first | apply Ba | (apply Bb; (· rfl); (· rfl)) | (apply Bc; (· exact nxE)) | (apply Bd; (· rfl); (· rfl); (· exact nxE))); (· first | exact Ok.sidx rfl rfl rfl (by omega) hx' | exact Ok.seqS rfl rfl rfl | exact Ok.sneS rfl rfl rfl | exact Ok.slen rfl rfl | exact Ok.pe)) | ((first | apply Ca | (apply Cb; (· exact nxE))); (· first | exact Ok.e0)) | refine Sx ?_ | (refine Sy (fun h => ?_) (fun h => ?_) <;> try (exfalso; omega; done)) | refine Sz (fun h => ?_) (fun h => ?_))
        refine ⟨⟨k + 1, by omega⟩, ?_, by simp only; omega⟩
        (apply Le.headZ [_] rfl)
        all_goals (try dsimp only [srcs])
        (case' hfr | hob => (repeat' (first | refine La ?_ ?_ | exact Lc | refine Lo ?_ | refine ⟨⟨_, rfl, ?_⟩, ?_⟩ | refine Lx ?_)))
        all_goals (first | ((rw [hs]; done)) | exact Ld)
  ·
    obtain rfl : k = l.length + 1 := by omega
    repeat' (first | ((first | apply Ba | (apply Bb; (· rfl); (· rfl)) | (apply Bc; (· exact nxE)) | (apply Bd; (· rfl); (· rfl); (· exact nxE))); (· first | exact Ok.seqS rfl rfl rfl | exact Ok.sneS rfl rfl rfl | exact Ok.slen rfl rfl | exact Ok.pe)) | ((first | apply Ca | (apply Cb; (· exact nxE))); (· first | exact Ok.e0)) | refine Sx ?_ | (refine Sy (fun h => ?_) (fun h => ?_) <;> try (exfalso; omega; done)) | refine Sz (fun h => ?_) (fun h => ?_))
    refine Ya ?_
    (apply Le.head [(⟨0, []⟩, _, _)])
    (case' hfr | hob => (repeat' (first | refine La ?_ ?_ | exact Lc | refine Lo ?_ | refine ⟨⟨_, rfl, ?_⟩, ?_⟩ | refine Lx ?_)))
    all_goals (first | exact Ld | (rfl))
end Go.Proofs.YtdgodkpobomneaaDoor
end

section
namespace Go.Proofs.YtdgodkpobomneaaDoor
set_option linter.unusedSimpArgs false
set_option linter.unusedVariables false
open Go Go.RowKit

theorem var_below [Mode] {w w' : World} {P : Program} {name : String} {cs : Array Value} (h : w.var? P name = some cs) (hb : Below w.heap.size w w') : w'.var? P name = some cs := by
  unfold World.var? at h ⊢
  rw [Option.bind_eq_some_iff] at h ⊢
  obtain ⟨g, h1, h2⟩ := h
  refine ⟨g, h1, ?_⟩
  have hlt : g < w.heap.size := by
    refine Nat.lt_of_not_le fun hn => ?_
    have hb : w.heap[g]? = none := by simp [hn]
    simp [hb] at h2
  rw [hb.block _ hlt]; exact h2
theorem decimal_calls [Mode] (n : Int) (h0 : -9223372036854775808 ≤ n) (h1 : n ≤ 9223372036854775807) (w : World) (ht : Lib.TabIs Tryd.prog w "internal/strconv.uint64pow10" .u64 Lib.pow10Tab) :
    Calls Tryd.prog 37 #[.int .i64 n] w fun e w' => e = .returned (.string ⟨(Lib.itoa n).toArray⟩) ∧ Below w.heap.size w w' := by
  go_enter Tryd.func37, Tryd.ntmps37
  go_wp2_with (go_at_call 59; refine (Tryd.strconv_FormatInt_10 n h0 h1 w ht).mono ?_; rintro e w' ⟨rfl, k, os, rfl⟩)
  go_ret
  exact ⟨rfl, Lib.below_grow _ _ (Nat.le_refl _) _ _⟩
set_option maxRecDepth 8000 in
set_option maxHeartbeats 1600000 in
theorem readNumber_calls [Mode] (l : List UInt8) (hl : l.length ≤ 100000000) (w : World) (ht : Lib.TabIs Tryd.prog w "internal/strconv.uint64pow10" .u64 Lib.pow10Tab)
    (e1 : ∃ t p, w.var? Tryd.prog "strconv.ErrSyntax" = some #[.iface t p]) (e2 : ∃ t p, w.var? Tryd.prog "strconv.ErrRange" = some #[.iface t p]) :
    Calls Tryd.prog 50 #[.string ⟨l.toArray⟩] w fun e w' => e = .returned (.tuple #[.int .i64 (rdN l).1, .bool (rdN l).2]) ∧ Below w.heap.size w w' := by
  have hsz := size_mk l
  cases h : Lib.parseIntB 64 l with
  | ok v =>
    have hbd := Lib.parseIntB_bounds (B := 64) (l := l) (v := v) h
    have h' : Lib.parseIntB 64 (ByteArray.mk l.toArray).data.toList = .ok v := by simpa using h
    by_cases hq : Lib.itoa v = l
    · have hr : rdN l = (v, true) := by unfold rdN; rw [h]; simp [hq]
      rw [hr]
      go_enter Tryd.func50, Tryd.ntmps50
      go_wp2_with (first
        | (go_at_call 68; refine (Tryd.strconv_ParseInt_10_at64_ok ⟨l.toArray⟩ (by rw [hsz]; omega) v h' w).mono ?_; rintro e w1 ⟨rfl, hw1⟩; have hb1 : Below w.heap.size w w1 := (by rcases hw1 with rfl | ⟨t, rfl⟩; (· exact Below.refl _ _); (· exact Lib.bytesWorld_below _ _ _)); clear hw1)
        | (go_at_call 37; refine (decimal_calls v (by omega) (by omega) _ (var_below ht hb1)).mono ?_; rintro e w2 ⟨rfl, hb2⟩))
      go_ret2
      exact ⟨rfl, hb1.trans (hb2.mono hb1.size)⟩
    · have hr : rdN l = (0, false) := by unfold rdN; rw [h]; simp [hq]
      rw [hr]
      have hq2 : (Lib.itoa v == l) = false := by simp [hq]
      go_enter Tryd.func50, Tryd.ntmps50
      go_wp2_with (first
        | (go_at_call 68; refine (Tryd.strconv_ParseInt_10_at64_ok ⟨l.toArray⟩ (by rw [hsz]; omega) v h' w).mono ?_; rintro e w1 ⟨rfl, hw1⟩; have hb1 : Below w.heap.size w w1 := (by rcases hw1 with rfl | ⟨t, rfl⟩; (· exact Below.refl _ _); (· exact Lib.bytesWorld_below _ _ _)); clear hw1)
        | (go_at_call 37; refine (decimal_calls v (by omega) (by omega) _ (var_below ht hb1)).mono ?_; rintro e w2 ⟨rfl, hb2⟩))
      go_ret2
      exact ⟨rfl, hb1.trans (hb2.mono hb1.size)⟩
  | «syntax» =>
    obtain ⟨tp, p, hv⟩ := e1
    have hr : rdN l = (0, false) := by unfold rdN; rw [h]
    rw [hr]
    have h' : Lib.parseIntB 64 (ByteArray.mk l.toArray).data.toList = .«syntax» := by simpa using h
    have hcell : w.cell? ⟨2, 0, none⟩ = some (.iface tp p) := by
      refine (World.var?_cell ?h hv 0).trans ?t
      case h => kernel_rfl
      case t => simp
    go_enter Tryd.func50, Tryd.ntmps50
    go_wp2_with (go_at_call 68; refine (Tryd.strconv_ParseInt_10_at64_syntax ⟨l.toArray⟩ (by rw [hsz]; omega) h' _ w hcell (.inr ⟨_, _, rfl⟩)).mono ?_; rintro e w1 ⟨N, rfl, _, _, hb1⟩)
    go_ret2
    exact ⟨rfl, hb1⟩
  | range =>
    obtain ⟨tp, p, hv⟩ := e2
    have hr : rdN l = (0, false) := by unfold rdN; rw [h]
    rw [hr]
    have h' : Lib.parseIntB 64 (ByteArray.mk l.toArray).data.toList = .range := by simpa using h
    have hcell : w.cell? ⟨3, 0, none⟩ = some (.iface tp p) := by
      refine (World.var?_cell ?h hv 0).trans ?t
      case h => kernel_rfl
      case t => simp
    go_enter Tryd.func50, Tryd.ntmps50
    go_wp2_with (go_at_call 68; refine (Tryd.strconv_ParseInt_10_at64_range ⟨l.toArray⟩ (by rw [hsz]; omega) h' _ w hcell (.inr ⟨_, _, rfl⟩)).mono ?_; rintro e w1 ⟨N, rfl, _, _, hb1⟩)
    go_ret2
    exact ⟨rfl, hb1⟩
theorem readNumber_ac [Mode] [HasTab] [HasErr] (l : List UInt8) (hl : l.length ≤ 100000000) : AC Tryd.prog 50 [Str l] H0 (.tup [I (rdN l).1, Bo (rdN l).2]) H0 := AC.ofCalls fun ι F w vs hs hv => by
  obtain ⟨hvl, hvv⟩ := hv
  match vs, hvl with
  | [v], _ =>
    have := (hvv 0 _ v rfl rfl).v_inv
    subst this
    obtain ⟨w0, hg, _, hvar⟩ := hs.gl.held
    obtain ⟨⟨t1, p1, k1⟩, t2, p2, k2⟩ := HasErr.err w0 hg
    refine (readNumber_calls l hl w (hvar _ _ _ (HasTab.tab w0 hg)) ⟨t1, p1, hvar _ _ _ k1⟩ ⟨t2, p2, hvar _ _ _ k2⟩).mono ?_
    rintro e w' ⟨rfl, hb⟩
    exact ⟨_, rfl, fun _ _ => VRs.tup (.cons (.d (.v _)) (.cons (.d (.v _)) .nil)), hb⟩
/-- A contract of a function that lays one new row and hands it back. -/
theorem AC.ofRow [Mode] {P : Program} {f : FuncId} {args : List AV} {rows : List (List D)} {k : Nat}
    (h : ∀ (ι : Iota) (F : Nat → Prop) (w : World) (vs : List Value), Sim ι F H0 w → VRs ι F w args vs → Calls P f vs.toArray w fun e w' => ∃ (cs : List Value) (T : TypeId) (cap : Nat), e = .returned (.slice (some ⟨w.heap.size, 0, none⟩) rows.length cap) ∧ w' = w.alloc (.cells cs.toArray T) ∧ rows.length ≤ cap ∧ cap * k ≤ cs.length ∧
      ∀ (i : Nat) r, rows[i]? = some r → r.length = k ∧ ∀ (j : Nat) c, r[j]? = some c → ∃ v, cs[i * k + j]? = some v ∧ DR F w c v) : AC P f args H0 (own1 k rows.length) (hp1 (dobj k rows)) := by
  intro ι F w vs hs hdom hv
  refine (h ι F w vs hs hv).mono ?_
  rintro e w' ⟨cs, T, cap, rfl, rfl, hcap, hlen, hrows⟩
  have hp := Post.alloc hs (new := 0) (fun k => hdom _ rfl) cs T (dobj k rows) (by simp only [dobj, List.length_map]; exact Nat.le_trans (Nat.mul_le_mul_right _ hcap) hlen) (fun i r hr => by
    simp only [dobj, List.getElem?_map, Option.map_eq_some_iff] at hr
    obtain ⟨r', hr', rfl⟩ := hr
    obtain ⟨h1, h2⟩ := hrows i r' hr'
    refine ⟨by show (r'.map AV.d).length = k; rw [List.length_map]; exact h1, fun j c hc => ?_⟩
    simp only [List.getElem?_map, Option.map_eq_some_iff] at hc
    obtain ⟨c', hc', rfl⟩ := hc
    obtain ⟨v, h3, h4⟩ := h2 j c' hc'
    exact ⟨v, h3, .d h4⟩) []
  refine ⟨_, _, _, rfl, ?_, hp.sim, hp.step.mono fun b ⟨l, hl, _⟩ => absurd hl Cov.nil, hp.sub, fun b hb => ?_, fun b ⟨l, h1, s, e1⟩ => ?_, fun l x h1 => absurd rfl h1⟩
  · have := VR.own (ι := updι ι ⟨0, []⟩ (some (w.heap.size, cs.length))) (F := F) (w := w.alloc (.cells cs.toArray T)) k ⟨0, []⟩ 0 rows.length w.heap.size cs.length cap (by simp [updι]) hcap (by simpa using hlen)
    simpa using this
  · rcases hp.sup b hb with h1 | ⟨l, hl, _⟩ | h1
    · exact .inl h1
    · exact absurd hl Cov.nil
    · exact .inr (.inr h1)
  · rcases hp.own l b s h1 e1 with ⟨l0, h2, _⟩ | h2
    · exact absurd rfl h2
    · exact .inr h2
theorem split_lists [Mode] (l : List UInt8) (c : UInt8) : ∃ ss : List ByteArray, Lib.splitB ⟨#[c]⟩ 0 (Lib.countB ⟨l.toArray⟩ ⟨#[c]⟩) ⟨l.toArray⟩ = ss ∧ ss.map (·.data.toList) = spl c l ∧ Lib.countB ⟨l.toArray⟩ ⟨#[c]⟩ + 1 = (spl c l).length := by
  refine ⟨_, rfl, ?_, ?_⟩
  · rw [Lib.splitB_data]
    have := split_spl c l
    exact this
  · have h1 := Lib.splitB_all ⟨#[c]⟩ (show 1 ≤ 1 from Nat.le_refl 1) 0 _ ⟨l.toArray⟩ rfl
    rw [← h1, ← split_spl c l]
    have h2 := Lib.splitB_data ⟨#[c]⟩ 0 (Lib.countB ⟨l.toArray⟩ ⟨#[c]⟩) ⟨l.toArray⟩
    have h3 := congrArg List.length h2
    rw [List.length_map] at h3
    exact h3
theorem iSplit_ac [Mode] [HasLen] (l : List UInt8) (c : UInt8) (hl : l.length ≤ 100000000) : AC Tryd.prog 70 [Str l, Str [c]] H0 (own1 1 (spl c l).length) (hp1 (SO (spl c l))) := by
  have hrl : (stR (spl c l)).length = (spl c l).length := stR_len _
  rw [← hrl]
  refine AC.ofRow fun ι F w vs hs hv => ?_
  have := hv.inv2; subst this
  obtain ⟨w0, hg, _, hvar⟩ := hs.gl.held
  obtain ⟨m, hm⟩ := HasLen.len w0 hg
  have hm' := hvar _ _ _ hm
  obtain ⟨ss, e1, e2, e3⟩ := split_lists l c
  refine (Tryd.strings_Split ⟨l.toArray⟩ ⟨[c].toArray⟩ m w (by rw [size_mk]; omega) (by refine (World.var?_cell ?h hm' 0).trans ?t; (· kernel_rfl); (· simp)) (show 1 ≤ 1 from Nat.le_refl 1)).mono ?_
  rintro e w' ⟨rfl, rfl⟩
  have hsl : ss.length = (spl c l).length := by rw [← e2, List.length_map]
  refine ⟨ss.map Value.string, 9, (spl c l).length, by rw [hrl]; exact congrArg Ending.returned (by rw [show ([c].toArray : Array UInt8) = #[c] from rfl, e3]), by rw [show ([c].toArray : Array UInt8) = #[c] from rfl, e1], by rw [hrl]; exact Nat.le_refl _, by simp [hsl], fun i r hr => ?_⟩
  simp only [stR, List.getElem?_map, Option.map_eq_some_iff] at hr
  obtain ⟨p, hp, rfl⟩ := hr
  rw [← e2, List.getElem?_map, Option.map_eq_some_iff] at hp
  obtain ⟨s, hs', rfl⟩ := hp
  refine ⟨rfl, fun j c' hc' => ?_⟩
  cases j with
  | succ j => simp at hc'
  | zero =>
    simp only [List.getElem?_cons_zero, Option.some.injEq] at hc'
    subst hc'
    refine ⟨.string s, by simp [hs'], ?_⟩
    have e : Value.string s = Value.string ⟨s.data.toList.toArray⟩ := congrArg Value.string (mk_eta s)
    rw [e]
    exact .v _
end Go.Proofs.YtdgodkpobomneaaDoor
end
