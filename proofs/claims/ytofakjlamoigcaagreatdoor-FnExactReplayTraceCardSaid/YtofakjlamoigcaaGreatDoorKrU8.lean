/-
  Walks in the abstract reading, part 8.
-/
import Derived.Test.YtofakjlamoigcaaGreatDoorKrU7
import Derived.Test.YtofakjlamoigcaaGreatDoorKrA3
import Derived.Test.YtofakjlamoigcaaGreatDoorRows
import Derived.Test.YtofakjlamoigcaaGreatDoorKrU3
import Derived.ProofKit
import Derived.LaidMore
import Derived.OpenShut
import Derived.Stop.Joined
import Derived.Stop.LaidErr
section
namespace Go.Proofs.YtofakjlamoigcaaGreatDoor
set_option linter.unusedSimpArgs false
set_option linter.unusedVariables false
open Go Go.RowKit
attribute [local irreducible] AL AD AW OpOk Le AC thenQ blockQ EndQ

def mkF (k : Int) : Nat → Int := fun j => k + (j : Int)
def mixR (f g : Nat → Int) (K : Nat) : Nat → Int := fun j => if j < K then f j else g j
theorem mixR_0 [Mode] {f g : Nat → Int} {n : Nat} : rowF n (mixR f g 0) = rowF n g := rowF_congr fun j _ => by simp [mixR]
theorem mixR_all [Mode] {f g : Nat → Int} {n : Nat} : rowF n (mixR f g n) = rowF n f := rowF_congr fun j hj => by simp [mixR, hj]
theorem mixR_set [Mode] {f g : Nat → Int} {n K : Nat} : (rowF n (mixR f g K)).set K (f K) = rowF n (mixR f g (K + 1)) := by
  rw [rowF_set]
  refine rowF_congr fun b _ => ?_
  unfold mixR
  by_cases e : b = K
  · subst e; simp
  · rw [if_neg e]
    by_cases h : b < K
    · rw [if_pos h, if_pos (by omega)]
    · rw [if_neg h, if_neg (by omega)]
theorem IR_setR [Mode] {f g : Nat → Int} {n K : Nat} : (IR (rowF n (mixR f g K))).set K [DI (f K)] = IR (rowF n (mixR f g (K + 1))) := by rw [IR_set, mixR_set]
set_option maxHeartbeats 1000000 in
theorem markInt64S_ac [Mode] (g : Nat → Int) (n : Nat) (k0 : Int) (hn : n ≤ 10000000) (hk : 0 ≤ k0 ∧ k0 ≤ 10000000000000000) : AC Tryz.prog 25 [own1 1 n, I k0] (hp1 (IO (rowF n g))) (I (k0 + n)) (hp1 (IO (rowF n (mkF k0)))) := by
  refine AC.of_body 1 Tryz.func25 rfl (fun l h => by simp [upd] at h; simp [h]) (fun C hC => ?_)
  simp only [startFr, Tryz.ntmps25, List.length_cons, List.length_nil, Nat.reduceAdd, Nat.reduceSub, List.replicate_succ, List.replicate_zero, List.cons_append, List.nil_append]
  have hD : ∀ l, C.D0 l → l = ⟨0, []⟩ := fun l h => by have := (hC l).1 h; simp [upd] at this; exact this
  repeat' (first | ((first | apply Ba | (apply Bb; (· rfl); (· rfl)) | (apply Bc; (· exact nxE)) | (apply Bd; (· rfl); (· rfl); (· exact nxE))); (· first | exact Ok.pe)) | ((first | apply Ca | (apply Cb; (· exact nxE))); (· first | exact Ok.e0)) | refine Sx ?_ | (refine Sy (fun h => ?_) (fun h => ?_) <;> try (exfalso; omega; done)) | refine Sz (fun h => ?_) (fun h => ?_))
  refine AW.loop (X := {k : Nat // k ≤ n}) (fun k => ⟨[own1 1 n, I (k0 + (k.1 : Nat)), Oo, Oo, Oo, I (k.1 : Nat), Oo, Oo, Oo, Oo, Oo, Oo, Oo, Oo, Oo, Oo, Oo, Oo, Oo], heapL [(⟨0, []⟩, ⟨0, []⟩, IO (rowF n (mixR (mkF k0) g k.1)))], 900⟩) (fun k => n - k.1) ⟨0, Nat.zero_le _⟩ ?_ (fun k => ?_)
  ·
    (apply Le.headZ [_] rfl)
    all_goals (try dsimp only [srcs])
    (case' hfr | hob => (repeat' (first | refine La ?_ ?_ | exact Lc | refine Lo ?_ | refine ⟨⟨_, rfl, ?_⟩, ?_⟩ | refine Lx ?_)))
    all_goals (first | (first | (rw [mixR_0]; done) | (simp; done)) | exact Ld)
  obtain ⟨k, hkk⟩ := k
  simp only
  by_cases hlt : k < n
  ·
    repeat' (first | ((first | apply Ba | (apply Bb; (· rfl); (· rfl)) | (apply Bc; (· exact nxE)) | (apply Bd; (· rfl); (· rfl); (· exact nxE))); (· first | exact Ok.st1 (c := DI (mkF k0 k)) rfl rfl rfl (by simp [rowF_len]; omega) (by rw [IRF_get hlt]; rfl) rfl rfl IR_setR | exact Ok.pe)) | ((first | apply Ca | (apply Cb; (· exact nxE))); (· first | exact Ok.st1 (c := DI (mkF k0 k)) rfl rfl rfl (by simp [rowF_len]; omega) (by rw [IRF_get hlt]; rfl) rfl rfl IR_setR | exact Ok.e0)) | refine Sx ?_ | (refine Sy (fun h => ?_) (fun h => ?_) <;> try (exfalso; omega; done)) | refine Sz (fun h => ?_) (fun h => ?_))
    refine ⟨⟨k + 1, by omega⟩, ?_, by simp only; omega⟩
    (apply Le.headZ [_] rfl)
    all_goals (try dsimp only [srcs])
    (case' hfr | hob => (repeat' (first | refine La ?_ ?_ | exact Lc | refine Lo ?_ | refine ⟨⟨_, rfl, ?_⟩, ?_⟩ | refine Lx ?_)))
    all_goals (first | (rfl) | exact Ld)
  ·
    have hkn : k = n := by omega
    subst hkn
    rw [mixR_all]
    repeat' (first | ((first | apply Ba | (apply Bb; (· rfl); (· rfl)) | (apply Bc; (· exact nxE)) | (apply Bd; (· rfl); (· rfl); (· exact nxE))); (· first | exact Ok.pe)) | ((first | apply Ca | (apply Cb; (· exact nxE))); (· first | exact Ok.e0)) | refine Sx ?_ | (refine Sy (fun h => ?_) (fun h => ?_) <;> try (exfalso; omega; done)) | refine Sz (fun h => ?_) (fun h => ?_))
    (refine end1p (by first | exact .inl rfl | exact .inr rfl) rfl (by first | exact rT rfl | exact rCA rfl rfl rfl rfl (by simp) | exact rCC rfl rfl rfl rfl rfl) ?_ (Le.head ([(⟨0, []⟩, ⟨0, []⟩, IO (rowF k (mkF k0)))]) (by first | exact fun l h => absurd h (hD l) | (intro l h; rcases hD l h with rfl; simp [tauL]) | (intro l h; rcases hD l h with rfl | rfl <;> simp [tauL]; done) | (intro l h; rcases hD l h with rfl | rfl | rfl <;> simp [tauL])) ?_ ?_ (by simp) (by simp) (by simp [AllP]) (n' := 1000)); (· rfl)) <;> (repeat' (first | exact trivial | exact ARs.nil | refine ARs.cons ?_ ?_ | exact AR.dead _ | exact AR.dd _ | exact AR.i (by (try dsimp only); omega) | exact AR.ptr _ _ _ _ (by simp [heapL, upd]) | exact AR.own _ _ _ _ (by simp [heapL, upd]) | refine AR.ownE _ _ _ ?_ (by simp [heapL, upd]) | refine ⟨⟨_, rfl, ?_⟩, ?_⟩ | exact ObA.data | refine ObA.box ?_ | refine ObA.frE ?_ | refine ObA.dataE ?_ | refine ARs.agg ?_ | refine ARs.tup ?_ | exact AR.clo' ARs.nil ARs.nil | exact AR.clo' ARs.nil (hca _ _)))
theorem mkRow_get [Mode] {n j : Nat} {k0 : Int} (h : j < n) : (IR (rowF n (mkF k0)))[((j : Nat) : Int).toNat]? = some [DI (k0 + j)] := IRF_get h
theorem heldInt64S_ac [Mode] (n : Nat) (k0 : Int) (hn : n ≤ 10000000) (hk : 0 ≤ k0 ∧ k0 ≤ 10000000000000000) : AC Tryz.prog 26 [IL (rowF n (mkF k0)), I k0] H0 (I (k0 + n)) H0 := by
  have hl : (IR (rowF n (mkF k0))).length = n := by rw [IR_len, rowF_len]
  have hl2 : (rowF n (mkF k0)).length = n := rowF_len
  refine AC.of_body 0 Tryz.func26 rfl (fun l h => absurd rfl h) (fun C hC => ?_)
  have hD : ∀ l, ¬ C.D0 l := fun l h => (hC l).1 h rfl
  simp only [startFr, Tryz.ntmps26, List.length_cons, List.length_nil, Nat.reduceAdd, Nat.reduceSub, List.replicate_succ, List.replicate_zero, List.cons_append, List.nil_append]
  repeat' (first | ((first | apply Ba | (apply Bb; (· rfl); (· rfl)) | (apply Bc; (· exact nxE)) | (apply Bd; (· rfl); (· rfl); (· exact nxE))); (· first | exact Ok.pe)) | ((first | apply Ca | (apply Cb; (· exact nxE))); (· first | exact Ok.e0)) | refine Sx ?_ | (refine Sy (fun h => ?_) (fun h => ?_) <;> try (exfalso; omega; done)) | refine Sz (fun h => ?_) (fun h => ?_))
  refine AW.loop (X := {k : Nat // k ≤ n}) (fun k => ⟨[IL (rowF n (mkF k0)), I (k0 + (k.1 : Nat)), Oo, Oo, Oo, I (k.1 : Nat), Oo, Oo, Oo, Oo, Oo, Oo, Oo, Oo, Oo, Oo, Oo, Oo, Oo, Oo, Oo], heapL [], 900⟩) (fun k => n - k.1) ⟨0, Nat.zero_le _⟩ ?_ (fun k => ?_)
  ·
    (apply Le.headZ [] rfl)
    all_goals (try dsimp only [srcs])
    (case' hfr | hob => (repeat' (first | refine La ?_ ?_ | exact Lc | refine Lo ?_ | refine ⟨⟨_, rfl, ?_⟩, ?_⟩ | refine Lx ?_)))
    all_goals (first | ((simp; done)) | exact Ld)
  obtain ⟨k, hkk⟩ := k
  simp only
  by_cases hlt : k < n
  ·
    have hrow := mkRow_get (k0 := k0) hlt
    repeat' (first | ((first | apply Ba | (apply Bb; (· rfl); (· rfl)) | (apply Bc; (· exact nxE)) | (apply Bd; (· rfl); (· rfl); (· exact nxE))); (· first | exact Ok.pe)) | ((first | apply Ca | (apply Cb; (· exact nxE))); (· first | exact Ok.e0)) | refine Sx ?_ | (refine Sy (fun h => ?_) (fun h => ?_) <;> try (exfalso; omega; done)) | refine Sz (fun h => ?_) (fun h => ?_))
    refine ⟨⟨k + 1, by omega⟩, ?_, by simp only; omega⟩
    (apply Le.headZ [] rfl)
    all_goals (try dsimp only [srcs])
    (case' hfr | hob => (repeat' (first | refine La ?_ ?_ | exact Lc | refine Lo ?_ | refine ⟨⟨_, rfl, ?_⟩, ?_⟩ | refine Lx ?_)))
    all_goals (first | (rfl) | exact Ld)
  ·
    have hkn : k = n := by omega
    subst hkn
    repeat' (first | ((first | apply Ba | (apply Bb; (· rfl); (· rfl)) | (apply Bc; (· exact nxE)) | (apply Bd; (· rfl); (· rfl); (· exact nxE))); (· first | exact Ok.pe)) | ((first | apply Ca | (apply Cb; (· exact nxE))); (· first | exact Ok.e0)) | refine Sx ?_ | (refine Sy (fun h => ?_) (fun h => ?_) <;> try (exfalso; omega; done)) | refine Sz (fun h => ?_) (fun h => ?_))
    refine Ya ?_
    (apply Le.headZ (hs := []) [] rfl)
    all_goals (try dsimp only [srcs])
    (case' hfr => (repeat' (first | refine La ?_ ?_ | exact Lc | refine Lo ?_ | refine ⟨⟨_, rfl, ?_⟩, ?_⟩ | refine Lx ?_)))
    all_goals (first | exact Ld | exact trivial | (rfl))
/-! ### Tables marked -/
def offT (t : List (List Int)) (i : Nat) : Nat := ((t.take i).map List.length).sum
def mkRow (k : Int) (r : List Int) : List Int := rowF r.length (mkF k)
def mkAt (t : List (List Int)) (k : Int) (i : Nat) : List (List Int) := t.mapIdx fun j r => if j < i then mkRow (k + offT t j) r else r
theorem mkAt_len [Mode] {t : List (List Int)} {k : Int} {i : Nat} : (mkAt t k i).length = t.length := by simp [mkAt]
end Go.Proofs.YtofakjlamoigcaaGreatDoor
end

section
namespace Go.Proofs.YtofakjlamoigcaaGreatDoor
set_option linter.unusedSimpArgs false
set_option linter.unusedVariables false
open Go Go.RowKit
attribute [local irreducible] AL AD AW OpOk Le AC thenQ blockQ EndQ

theorem markInts_ac [Mode] (xs : List Int) (k0 : Int) (hn : xs.length ≤ 10000000) (hk : 0 ≤ k0 ∧ k0 ≤ 10000000000000000) : AC Tryz.prog 25 [own1 1 xs.length, I k0] (hp1 (IO xs)) (I (k0 + xs.length)) (hp1 (IO (rowF xs.length (mkF k0)))) := by
  have := markInt64S_ac (fun j => (xs[j]?).getD 0) xs.length k0 hn hk
  rwa [rowF_self rfl] at this
end Go.Proofs.YtofakjlamoigcaaGreatDoor
end

section
namespace Go.Proofs.YtofakjlamoigcaaGreatDoor
set_option linter.unusedSimpArgs false
set_option linter.unusedVariables false
open Go Go.RowKit
attribute [local irreducible] AL AD AW OpOk Le AC thenQ blockQ EndQ

set_option maxHeartbeats 8000000 in
theorem lawReplayTrace_ac [Mode] [HasTab] [HasErr] [HasLen] (ev : Int) (xs : List Pl) (s : List UInt8) (hx : xs.length ≤ 9223372036854775807) (_hn : s.length ≤ 9223372036854775807) : AC Tryz.prog 4 [grD ev xs, Str s] H0 (Bo true) H0 := by
  by_cases h0 : (s.length : Int) ≤ 1048576
  case neg =>
    refine AC.of_body 0 Tryz.func4 rfl (fun l h => absurd rfl h) (fun C hC => ?_)
    have hD : ∀ l, ¬ C.D0 l := fun l h => (hC l).1 h rfl
    simp only [startFr, Tryz.ntmps4, List.length_cons, List.length_nil, Nat.reduceAdd, Nat.reduceSub, List.replicate_succ, List.replicate_zero, List.cons_append, List.nil_append]
    repeat' (first | ((first | apply Ba | (apply Bb; (· rfl); (· rfl)) | (apply Bc; (· exact nxE)) | (apply Bd; (· rfl); (· rfl); (· exact nxE))); (· first | exact Ok.slen rfl rfl | exact Ok.pe)) | ((first | apply Ca | (apply Cb; (· exact nxE))); (· first | exact Ok.e0)) | refine Sx ?_ | (refine Sy (fun h => ?_) (fun h => ?_) <;> try (exfalso; omega; done)) | refine Sz (fun h => ?_) (fun h => ?_))
    refine Ya ?_
    (apply Le.headZ (hs := []) [] rfl)
    all_goals (try dsimp only [srcs])
    (case' hfr => (repeat' (first | refine La ?_ ?_ | exact Lc | refine Lo ?_ | refine ⟨⟨_, rfl, ?_⟩, ?_⟩ | refine Lx ?_)))
    all_goals (first | exact Ld | exact trivial | (rfl))
  by_cases h1 : (xs.length : Int) ≤ 1048576
  case neg =>
    refine AC.of_body 0 Tryz.func4 rfl (fun l h => absurd rfl h) (fun C hC => ?_)
    have hD : ∀ l, ¬ C.D0 l := fun l h => (hC l).1 h rfl
    simp only [startFr, Tryz.ntmps4, List.length_cons, List.length_nil, Nat.reduceAdd, Nat.reduceSub, List.replicate_succ, List.replicate_zero, List.cons_append, List.nil_append]
    repeat' (first | ((first | apply Ba | (apply Bb; (· rfl); (· rfl)) | (apply Bc; (· exact nxE)) | (apply Bd; (· rfl); (· rfl); (· exact nxE))); (· first | exact Ez rfl rfl (szEG_no _ _ _ hx (by omega) h1) (Sa (Sd (Sd Sn)) (Sd Sn)) | exact Ok.slen rfl rfl | exact Ok.pe)) | ((first | apply Ca | (apply Cb; (· exact nxE))); (· first | exact Ok.e0)) | refine Sx ?_ | (refine Sy (fun h => ?_) (fun h => ?_) <;> try (exfalso; omega; done)) | refine Sz (fun h => ?_) (fun h => ?_))
    refine Ya ?_
    (apply Le.headZ (hs := []) [] rfl)
    all_goals (try dsimp only [srcs])
    (case' hfr => (repeat' (first | refine La ?_ ?_ | exact Lc | refine Lo ?_ | refine ⟨⟨_, rfl, ?_⟩, ?_⟩ | refine Lx ?_)))
    all_goals (first | exact Ld | exact trivial | (rfl))
  obtain ⟨fs, r, hf⟩ := rec_ex s
  have hS := sReplayTrace_ac ev xs s fs r hf (by omega) (by omega)
  have hI := iReplayTrace_ac ev xs s fs r hf (by omega) (by omega)
  have hol := rpL_len ev xs s fs
  generalize rpL ev xs s fs = out at *
  generalize rpC ev xs s fs = c at *
  refine AC.of_body 0 Tryz.func4 rfl (fun l h => absurd rfl h) (fun C hC => ?_)
  have hD : ∀ l, ¬ C.D0 l := fun l h => (hC l).1 h rfl
  simp only [startFr, Tryz.ntmps4, List.length_cons, List.length_nil, Nat.reduceAdd, Nat.reduceSub, List.replicate_succ, List.replicate_zero, List.cons_append, List.nil_append]
  repeat' (first | ((first | apply Ba | (apply Bb; (· rfl); (· rfl)) | (apply Bc; (· exact nxE)) | (apply Bd; (· rfl); (· rfl); (· exact nxE))); (· first | exact Ez rfl rfl (szEG_ok _ _ _ (by omega) h1) (Sa (Sd (Sd Sn)) (Sd Sn)) | exact Zf rfl rfl (hS) (Sa (Sd (Sw Sn)) (Sd Sn)) | exact Ez rfl rfl (eqInt64S_ac out (by omega)) (Sw (Sd Sn)) | exact Ez rfl rfl (eqEG_refl ev xs (by omega)) (Sa (Sd (Sw Sn)) (Sa (Sd (Sw Sn)) Sn)) | exact Ez rfl rfl (heldInt64S_ac out.length _ (by omega) (by omega)) (Sw (Sd Sn)) | exact Ok.slen rfl rfl | exact Eo rfl rfl (toEventGraph_ac ev xs (by omega)) (Sa (Sd (Sd Sn)) Sn) | exact Eo rfl rfl (hI) (Sa (Sd (Sw Sn)) (Sd Sn)) | exact OpOk.callM rfl rfl (markEventGraph_ac ev xs _ (by omega) (by omega)) rfl rfl (.cons (ARs.agg (.cons (.dd _) (.cons (.own _ _ _ _ rfl) .nil))) (.cons (.dd _) .nil)) | exact OpOk.callM rfl rfl (markInts_ac out _ (by omega) (by omega)) rfl rfl (.cons (.own _ _ _ _ rfl) (.cons (.dd _) .nil)) | exact Ok.pe)) | ((first | apply Ca | (apply Cb; (· exact nxE))); (· first | exact Eo rfl rfl (toEventGraph_ac ev xs (by omega)) (Sa (Sd (Sd Sn)) Sn) | exact Eo rfl rfl (hI) (Sa (Sd (Sw Sn)) (Sd Sn)) | exact OpOk.callM rfl rfl (markEventGraph_ac ev xs _ (by omega) (by omega)) rfl rfl (.cons (ARs.agg (.cons (.dd _) (.cons (.own _ _ _ _ rfl) .nil))) (.cons (.dd _) .nil)) | exact OpOk.callM rfl rfl (markInts_ac out _ (by omega) (by omega)) rfl rfl (.cons (.own _ _ _ _ rfl) (.cons (.dd _) .nil)) | exact Ok.e0)) | refine Sx ?_ | (refine Sy (fun h => ?_) (fun h => ?_) <;> try (exfalso; omega; done)) | refine Sz (fun h => ?_) (fun h => ?_))
  all_goals
    refine Ya ?_
    (apply Le.headZ (hs := []) [] rfl)
    all_goals (try dsimp only [srcs])
    (case' hfr => (repeat' (first | refine La ?_ ?_ | exact Lc | refine Lo ?_ | refine ⟨⟨_, rfl, ?_⟩, ?_⟩ | refine Lx ?_)))
    all_goals (first | exact Ld | exact trivial | (rfl))
end Go.Proofs.YtofakjlamoigcaaGreatDoor
end

section
namespace Go.Proofs.YtofakjlamoigcaaGreatDoor
set_option linter.unusedSimpArgs false
set_option linter.unusedVariables false
open Go Go.ChangeShapes Go.WideShapes Go.ChangeAt Go.RowKit

/-- The way from a contract to the row's promise, with the world's shape handed to the contract. -/
theorem handed_shaped {H : Type} {enc : TypeId × Value → H} {a : Assume} {C : Checked} {os : Os} {f : FuncId} {fn : Func} {s : ChangeSpec} {conds : List PathCond} {apart fresh handsOn again : Bool} {X : World → Array Value → Prop}
    (hX : ∀ (w w' : World) (args : Array Value), w.heap = w'.heap → X w args → X w' args)
    (own : ownKnob C.prog.godebug = none) (started : os.Started) (noInit : C.prog.inits.idxOf? f = none) (hfn : C.prog.funcs[f]? = some fn)
    (witness : ∃ (w : World) (tape : Tape) (i : Input), w.os = os ∧ (w.forCall tape i).Shaped C.prog ∧ i.vars = [] ∧ Input.okWide C.prog (w.forCall tape i) .any w.heap.size f i ∧
      ((s.pre enc C.prog fn conds apart (w.forCall tape i).memory i.args ∧ X (w.forCall tape i).memory i.args) ∧ sizedMet enc C.prog fn (OpenSpec.ofChange s) apart (w.forCall tape i).memory i.args) ∧ a.holds C.prog (lone (Frame.enter C.prog f i.args .normal) [] (w.forCall tape i)))
    (contract : ∀ (W : World) (base : Nat) (args : Array Value) (ds gs : List (DataW H)) (before : List MemPlace),
      (∀ (j : Nat) t v, fn.params[j]? = some t → args[j]? = some v → Value.okWide C.prog W .any base t v) →
      DataW.Whole enc C.prog fn.params.toList s.vars apart W args.toList ds gs before →
      conds.all (PathCond.test C.prog ⟨fn.params.toList, ds, s.plain.varTypes C.prog, gs⟩) = true →
      (DataW.weightsEach C.prog (fn.params.toList ++ s.plain.varTypes C.prog) (ds ++ gs)).all (· ≤ reachBytes) = true → X W args →
      a.holds C.prog (lone (Frame.enter C.prog f args .normal) [] W) → W.ShapedOpen C.prog →
      Calls C.prog f args W fun e W' => ∃ v, e = .returned v ∧ s.post enc C.prog fn apart fresh handsOn again W args v W') :
    ReturnsInHanded a C os f .any (fun w args => (s.pre enc C.prog fn conds apart w args ∧ X w args) ∧ sizedMet enc C.prog fn (OpenSpec.ofChange s) apart w args) (s.post enc C.prog fn apart fresh handsOn again) := by
  refine returnsInHanded_of_calls own started noInit witness ?_
  intro w tape i _ hshape _ hok hpre hholds
  obtain ⟨_, _, _, fn', hfn', _, _, _, _, hval⟩ := hok
  have e : fn' = fn := Option.some.inj (hfn'.symm.trans hfn)
  subst e
  obtain ⟨⟨⟨ds, gs, before, hw, hc⟩, hx⟩, hz⟩ := hpre
  have hw' := DataW.Whole.of_heap (w' := w.forCall tape i) (by rfl) hw
  refine (contract (w.forCall tape i) w.heap.size i.args ds gs before hval hw' hc (hz.weights hw) (hX _ _ _ (by rfl) hx) hholds hshape).mono fun e W' ⟨v, he, hp⟩ => ?_
  subst he
  exact ChangeSpec.post_blind hp
theorem var_of_shaped {P : Program} {w : World} {n : String} {g : Nat} {t : TypeId} {zero : Array Value} {k : IntKind} (h : w.ShapedOpen P) (hn : P.globalNamed n = some g) (hg : g < P.globals.size)
    (h0 : ((begin P (fun _ _ => 0) default).world.heap[g]?).bind Obj.row? = some (zero, t)) (hz : zero.size = 1)
    (hb : P.buildable t = true) (hc : P.cellTypes P.depth t = some [t]) (hu : P.underlying t = some (.int k)) : ∃ m, w.var? P n = some #[.int k m] := by
  obtain ⟨cs, hh, hs, hr⟩ := h.1 g zero t hg h0
  obtain ⟨ts, hts, _, hall⟩ := hr hb
  rw [hc] at hts
  cases hts
  have h1 : cs.size = 1 := hs.trans hz
  obtain ⟨u, hu', hok⟩ := hall 0 cs[0] (by simp [h1])
  have : u = t := by simpa using hu'.symm
  subst this
  have hcs : cs = #[cs[0]] := by
    apply Array.ext
    · simp [h1]
    · intro i hi hi'
      have : i = 0 := by omega
      subst this
      simp
  have hv : w.var? P n = some cs := by
    unfold World.var?
    rw [hn]
    simp [hh]
  rw [hv]
  unfold Cell.ok at hok
  rw [hu] at hok
  cases hc : cs[0] <;> rw [hc] at hok <;> simp at hok
  case int k' n => exact ⟨n, by rw [hcs, hc, hok.1]⟩
theorem var_maxLen {w : World} (h : w.ShapedOpen Tryz.prog) : ∃ m, w.var? Tryz.prog "internal/bytealg.MaxLen" = some #[.int .i64 m] :=
  var_of_shaped (g := 0) (zero := #[.int .i64 0]) (t := 3) h (by kernel_rfl) (of_decide_eq_true (by kernel_rfl)) (by kernel_rfl) rfl (by kernel_rfl) (by kernel_rfl) Tryz.underlying3
theorem star_err : "*" ++ "errors.errorString" = "*errors.errorString" := by decide
theorem row_err (u : TypeId) (h : Tryz.prog.typeName? 3 u = some "*errors.errorString") : u = 178 :=
  typeName_ptr_named (nm := "errors.errorString") (by rw [star_err]; kernel_rfl) (by kernel_rfl) (by decide) u (by rw [star_err]; exact h)
theorem sentinel_syntax {W : World} {r : List (String × DataW Unit)} (h : laidMet Tryz.prog (("strconv.ErrSyntax", Rows.laid_strconv_ErrSyntax) :: r) W) :
    ∃ (a : Addr) (s : ByteArray), W.var? Tryz.prog "strconv.ErrSyntax" = some #[.iface 178 (.pointer (some a))] ∧ True := by
  obtain ⟨a, s, hv, _⟩ := laid_sentinel h (g := 1) (by kernel_rfl) (ti := 97) (by kernel_rfl) Tryz.underlying97 row_err Tryz.underlying178 Tryz.underlying180 rfl rfl Tryz.underlying9 (by kernel_rfl) (by kernel_rfl)
  exact ⟨a, s, hv, True.intro⟩
theorem sentinel_range {W : World} {r : List (String × DataW Unit)} (h : laidMet Tryz.prog (("strconv.ErrRange", Rows.laid_strconv_ErrRange) :: r) W) :
    ∃ (a : Addr) (s : ByteArray), W.var? Tryz.prog "strconv.ErrRange" = some #[.iface 178 (.pointer (some a))] ∧ True := by
  obtain ⟨a, s, hv, _⟩ := laid_sentinel h (g := 2) (by kernel_rfl) (ti := 97) (by kernel_rfl) Tryz.underlying97 row_err Tryz.underlying178 Tryz.underlying180 rfl rfl Tryz.underlying9 (by kernel_rfl) (by kernel_rfl)
  exact ⟨a, s, hv, True.intro⟩
end Go.Proofs.YtofakjlamoigcaaGreatDoor
end
