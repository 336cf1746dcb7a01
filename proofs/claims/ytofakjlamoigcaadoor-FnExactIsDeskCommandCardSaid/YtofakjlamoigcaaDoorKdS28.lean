/-
  Walks in the abstract reading: a command read by the reference. (Printed by wip/gen/g_s27.py.)
-/
import Derived.Test.YtofakjlamoigcaaDoorKdS27
namespace Go.Proofs.YtofakjlamoigcaaDoor
set_option linter.unusedSimpArgs false
set_option linter.unusedVariables false
open Go Go.RowKit
attribute [local irreducible] AL AD AW OpOk Le AC thenQ blockQ EndQ

set_option maxHeartbeats 1000000 in
theorem parse_run_n [Mode] (a : List UInt8) (ha : (32 : UInt8) ∉ a) (hs : (a).length ≤ 2000000) (hw : a = [114, 117, 110]) (ns : List Int) (hns : ns.length ≤ 2000001) (ok : Bool) (hN : AC Tryd.prog 53 [SL (spl 32 [])] H0 (.tup [IL ns, Bo ok]) H0) : AC Tryd.prog 22 [Str (a)] H0 (.tup [Str a, Str [], IL ns, Bo (ok && decide ((ns.length : Int) = 1))]) H0 := by
  have hSp := split_frz [] 32 (by decide)
  have hnl : (IR ns).length = ns.length := IR_len
  have hrun : ∀ k, k < a.length → ∃ x, a[((k : Nat) : Int).toNat]? = some x ∧ x ≠ 32 := fun k hk => by
    rw [Int.toNat_natCast]
    exact ⟨a[k], List.getElem?_eq_getElem hk, fun e => ha (e ▸ List.getElem_mem hk)⟩
  refine AC.of_body 0 Tryd.func22 rfl (fun l h => absurd rfl h) (fun C hC => ?_)
  have hD : ∀ l, ¬ C.D0 l := fun l h => (hC l).1 h rfl
  simp only [startFr, Tryd.ntmps22, List.length_cons, List.length_nil, Nat.reduceAdd, Nat.reduceSub, List.replicate_succ, List.replicate_zero, List.cons_append, List.nil_append]
  repeat' (first | ((first | apply Ba | (apply Bb; (· rfl); (· rfl)) | (apply Bc; (· exact nxE)) | (apply Bd; (· rfl); (· rfl); (· exact nxE))); (· first | exact Ok.slen rfl rfl | exact Ok.pe)) | ((first | apply Ca | (apply Cb; (· exact nxE))); (· first | exact Ok.e0)) | refine Sx ?_ | (refine Sy (fun h => ?_) (fun h => ?_) <;> try (exfalso; omega; done)) | refine Sz (fun h => ?_) (fun h => ?_))
  refine AW.loop (X := {k : Nat // k ≤ a.length}) (fun k => ⟨[Str a, Oo, Oo, Oo, Oo, Oo, Str a, Str [], Bo false, I (k.1 : Nat), Oo, Oo, Oo, Oo, Oo, Oo, Oo, Oo, Oo, Oo, Oo, Oo, Oo, Oo, Oo, Oo, Oo, Oo, Oo, Oo, Oo, Oo, Oo, Oo, Oo, Oo, Oo, Oo, Oo, Oo, Oo, Oo, Oo, Oo, Oo, Oo, Oo, Oo, Oo, Oo, Oo, Oo, Oo, Oo, Oo, Oo, Oo, Oo, Oo, Oo, Oo, Oo, Oo, Oo, Oo, Oo, Oo, Oo, Oo, Oo, Oo, Oo, Oo, Oo, Oo, Oo, Oo, Oo, Oo, Oo, Oo, Oo, Oo, Oo, Oo, Oo, Oo, Oo], heapL [], 900⟩) (fun k => a.length - k.1) ⟨0, Nat.zero_le _⟩ ?_ (fun k => ?_)
  ·
    (apply Le.headZ [] rfl)
    all_goals (try dsimp only [srcs])
    (case' hfr | hob => (repeat' (first | refine La ?_ ?_ | exact Lc | refine Lo ?_ | refine ⟨⟨_, rfl, ?_⟩, ?_⟩ | refine Lx ?_)))
    all_goals (first | (rfl) | exact Ld)
  obtain ⟨k, hk⟩ := k
  simp only
  by_cases hlt : k < a.length
  · obtain ⟨x, hx, hne⟩ := hrun k hlt
    have hn2 : ¬((x.toNat : Int) = 32) := fun e => hne (UInt8.toNat_inj.1 (by simpa using (by omega : x.toNat = 32)))
    repeat' (first | ((first | apply Ba | (apply Bb; (· rfl); (· rfl)) | (apply Bc; (· exact nxE)) | (apply Bd; (· rfl); (· rfl); (· exact nxE))); (· first | exact Ok.sidx (c := x) rfl rfl rfl (by omega) hx | exact Ok.slen rfl rfl | exact Ok.pe)) | ((first | apply Ca | (apply Cb; (· exact nxE))); (· first | exact Ok.e0)) | refine Sx ?_ | (refine Sy (fun h => ?_) (fun h => ?_) <;> try (exfalso; omega; done)) | refine Sz (fun h => ?_) (fun h => ?_))
    refine ⟨⟨k + 1, by omega⟩, ?_, by simp only; omega⟩
    (apply Le.headZ [] rfl)
    all_goals (try dsimp only [srcs])
    (case' hfr | hob => (repeat' (first | refine La ?_ ?_ | exact Lc | refine Lo ?_ | refine ⟨⟨_, rfl, ?_⟩, ?_⟩ | refine Lx ?_)))
    all_goals (first | (rfl) | exact Ld)
  · obtain rfl : k = a.length := by omega
    cases ok
    all_goals
      repeat' (first | ((first | apply Ba | (apply Bb; (· rfl); (· rfl)) | (apply Bc; (· exact nxE)) | (apply Bd; (· rfl); (· rfl); (· exact nxE))); (· first | exact Ok.seqN rfl rfl rfl (by rw [hw]; decide) | exact Ok.seqY rfl rfl rfl (by rw [hw]) | exact Kz rfl rfl (hSp) (Ad (Ad An)) | exact Kz rfl rfl (hN) (Ad An) | exact Ok.lenD rfl rfl hnl | exact Ok.slen rfl rfl | exact Ok.pe)) | ((first | apply Ca | (apply Cb; (· exact nxE))); (· first | exact Ok.e0)) | refine Sx ?_ | (refine Sy (fun h => ?_) (fun h => ?_) <;> try (exfalso; omega; done)) | refine Sz (fun h => ?_) (fun h => ?_))
    all_goals
      refine Yd ?_
      (apply Le.headZ (hs := []) [] rfl)
      all_goals (try dsimp only [srcs])
      (case' hfr => (repeat' (first | refine La ?_ ?_ | exact Lc | refine Lo ?_ | refine ⟨⟨_, rfl, ?_⟩, ?_⟩ | refine Lx ?_)))
      all_goals (first | exact Ld | exact trivial | (rfl))
set_option maxHeartbeats 1000000 in
theorem parse_run_y [Mode] (a r : List UInt8) (ha : (32 : UInt8) ∉ a) (hs : (a ++ 32 :: r).length ≤ 2000000) (hw : a = [114, 117, 110]) (ns : List Int) (hns : ns.length ≤ 2000001) (ok : Bool) (hN : AC Tryd.prog 53 [SL (spl 32 r)] H0 (.tup [IL ns, Bo ok]) H0) : AC Tryd.prog 22 [Str (a ++ 32 :: r)] H0 (.tup [Str a, Str [], IL ns, Bo (ok && decide ((ns.length : Int) = 1))]) H0 := by
  have hSp := split_frz r 32 (by simp at hs; omega)
  have hnl : (IR ns).length = ns.length := IR_len
  obtain ⟨hrun, hat, htk, hdr, hln⟩ := blank_facts a r ha
  generalize a ++ 32 :: r = s at *
  refine AC.of_body 0 Tryd.func22 rfl (fun l h => absurd rfl h) (fun C hC => ?_)
  have hD : ∀ l, ¬ C.D0 l := fun l h => (hC l).1 h rfl
  simp only [startFr, Tryd.ntmps22, List.length_cons, List.length_nil, Nat.reduceAdd, Nat.reduceSub, List.replicate_succ, List.replicate_zero, List.cons_append, List.nil_append]
  repeat' (first | ((first | apply Ba | (apply Bb; (· rfl); (· rfl)) | (apply Bc; (· exact nxE)) | (apply Bd; (· rfl); (· rfl); (· exact nxE))); (· first | exact Ok.slen rfl rfl | exact Ok.pe)) | ((first | apply Ca | (apply Cb; (· exact nxE))); (· first | exact Ok.e0)) | refine Sx ?_ | (refine Sy (fun h => ?_) (fun h => ?_) <;> try (exfalso; omega; done)) | refine Sz (fun h => ?_) (fun h => ?_))
  refine AW.loop (X := {k : Nat // k ≤ a.length}) (fun k => ⟨[Str s, Oo, Oo, Oo, Oo, Oo, Str s, Str [], Bo false, I (k.1 : Nat), Oo, Oo, Oo, Oo, Oo, Oo, Oo, Oo, Oo, Oo, Oo, Oo, Oo, Oo, Oo, Oo, Oo, Oo, Oo, Oo, Oo, Oo, Oo, Oo, Oo, Oo, Oo, Oo, Oo, Oo, Oo, Oo, Oo, Oo, Oo, Oo, Oo, Oo, Oo, Oo, Oo, Oo, Oo, Oo, Oo, Oo, Oo, Oo, Oo, Oo, Oo, Oo, Oo, Oo, Oo, Oo, Oo, Oo, Oo, Oo, Oo, Oo, Oo, Oo, Oo, Oo, Oo, Oo, Oo, Oo, Oo, Oo, Oo, Oo, Oo, Oo, Oo, Oo], heapL [], 900⟩) (fun k => a.length - k.1) ⟨0, Nat.zero_le _⟩ ?_ (fun k => ?_)
  ·
    (apply Le.headZ [] rfl)
    all_goals (try dsimp only [srcs])
    (case' hfr | hob => (repeat' (first | refine La ?_ ?_ | exact Lc | refine Lo ?_ | refine ⟨⟨_, rfl, ?_⟩, ?_⟩ | refine Lx ?_)))
    all_goals (first | (rfl) | exact Ld)
  obtain ⟨k, hk⟩ := k
  simp only
  by_cases hlt : k < a.length
  · obtain ⟨x, hx, hne⟩ := hrun k hlt
    have hn2 : ¬((x.toNat : Int) = 32) := fun e => hne (UInt8.toNat_inj.1 (by simpa using (by omega : x.toNat = 32)))
    repeat' (first | ((first | apply Ba | (apply Bb; (· rfl); (· rfl)) | (apply Bc; (· exact nxE)) | (apply Bd; (· rfl); (· rfl); (· exact nxE))); (· first | exact Ok.sidx (c := x) rfl rfl rfl (by omega) hx | exact Ok.slen rfl rfl | exact Ok.pe)) | ((first | apply Ca | (apply Cb; (· exact nxE))); (· first | exact Ok.e0)) | refine Sx ?_ | (refine Sy (fun h => ?_) (fun h => ?_) <;> try (exfalso; omega; done)) | refine Sz (fun h => ?_) (fun h => ?_))
    refine ⟨⟨k + 1, by omega⟩, ?_, by simp only; omega⟩
    (apply Le.headZ [] rfl)
    all_goals (try dsimp only [srcs])
    (case' hfr | hob => (repeat' (first | refine La ?_ ?_ | exact Lc | refine Lo ?_ | refine ⟨⟨_, rfl, ?_⟩, ?_⟩ | refine Lx ?_)))
    all_goals (first | (rfl) | exact Ld)
  · obtain rfl : k = a.length := by omega
    cases ok
    all_goals
      repeat' (first | ((first | apply Ba | (apply Bb; (· rfl); (· rfl)) | (apply Bc; (· exact nxE)) | (apply Bd; (· rfl); (· rfl); (· exact nxE))); (· first | exact Ok.sidx (c := 32) rfl rfl rfl (by omega) hat | exact Ok.sToE (j := a.length) htk (by omega) rfl rfl rfl rfl | exact Ok.sFromE (j := a.length + 1) hdr (by omega) rfl rfl rfl (by first | rfl | omega | (push_cast; rfl)) | exact Ok.seqN rfl rfl rfl (by rw [hw]; decide) | exact Ok.seqY rfl rfl rfl (by rw [hw]) | exact Kz rfl rfl (hSp) (Ad (Ad An)) | exact Kz rfl rfl (hN) (Ad An) | exact Ok.lenD rfl rfl hnl | exact Ok.slen rfl rfl | exact Ok.pe)) | ((first | apply Ca | (apply Cb; (· exact nxE))); (· first | exact Ok.e0)) | refine Sx ?_ | (refine Sy (fun h => ?_) (fun h => ?_) <;> try (exfalso; omega; done)) | refine Sz (fun h => ?_) (fun h => ?_))
    all_goals
      refine Yd ?_
      (apply Le.headZ (hs := []) [] rfl)
      all_goals (try dsimp only [srcs])
      (case' hfr => (repeat' (first | refine La ?_ ?_ | exact Lc | refine Lo ?_ | refine ⟨⟨_, rfl, ?_⟩, ?_⟩ | refine Lx ?_)))
      all_goals (first | exact Ld | exact trivial | (rfl))
set_option maxHeartbeats 1000000 in
theorem parse_start_n [Mode] (a : List UInt8) (ha : (32 : UInt8) ∉ a) (hs : (a).length ≤ 2000000) (hw : a = [115, 116, 97, 114, 116]) (ns : List Int) (hns : ns.length ≤ 2000001) (ok : Bool) (hN : AC Tryd.prog 53 [SL (spl 32 [])] H0 (.tup [IL ns, Bo ok]) H0) : AC Tryd.prog 22 [Str (a)] H0 (.tup [Str a, Str [], IL ns, Bo (ok && decide ((ns.length : Int) = 1))]) H0 := by
  have hSp := split_frz [] 32 (by decide)
  have hnl : (IR ns).length = ns.length := IR_len
  have hrun : ∀ k, k < a.length → ∃ x, a[((k : Nat) : Int).toNat]? = some x ∧ x ≠ 32 := fun k hk => by
    rw [Int.toNat_natCast]
    exact ⟨a[k], List.getElem?_eq_getElem hk, fun e => ha (e ▸ List.getElem_mem hk)⟩
  refine AC.of_body 0 Tryd.func22 rfl (fun l h => absurd rfl h) (fun C hC => ?_)
  have hD : ∀ l, ¬ C.D0 l := fun l h => (hC l).1 h rfl
  simp only [startFr, Tryd.ntmps22, List.length_cons, List.length_nil, Nat.reduceAdd, Nat.reduceSub, List.replicate_succ, List.replicate_zero, List.cons_append, List.nil_append]
  repeat' (first | ((first | apply Ba | (apply Bb; (· rfl); (· rfl)) | (apply Bc; (· exact nxE)) | (apply Bd; (· rfl); (· rfl); (· exact nxE))); (· first | exact Ok.slen rfl rfl | exact Ok.pe)) | ((first | apply Ca | (apply Cb; (· exact nxE))); (· first | exact Ok.e0)) | refine Sx ?_ | (refine Sy (fun h => ?_) (fun h => ?_) <;> try (exfalso; omega; done)) | refine Sz (fun h => ?_) (fun h => ?_))
  refine AW.loop (X := {k : Nat // k ≤ a.length}) (fun k => ⟨[Str a, Oo, Oo, Oo, Oo, Oo, Str a, Str [], Bo false, I (k.1 : Nat), Oo, Oo, Oo, Oo, Oo, Oo, Oo, Oo, Oo, Oo, Oo, Oo, Oo, Oo, Oo, Oo, Oo, Oo, Oo, Oo, Oo, Oo, Oo, Oo, Oo, Oo, Oo, Oo, Oo, Oo, Oo, Oo, Oo, Oo, Oo, Oo, Oo, Oo, Oo, Oo, Oo, Oo, Oo, Oo, Oo, Oo, Oo, Oo, Oo, Oo, Oo, Oo, Oo, Oo, Oo, Oo, Oo, Oo, Oo, Oo, Oo, Oo, Oo, Oo, Oo, Oo, Oo, Oo, Oo, Oo, Oo, Oo, Oo, Oo, Oo, Oo, Oo, Oo], heapL [], 900⟩) (fun k => a.length - k.1) ⟨0, Nat.zero_le _⟩ ?_ (fun k => ?_)
  ·
    (apply Le.headZ [] rfl)
    all_goals (try dsimp only [srcs])
    (case' hfr | hob => (repeat' (first | refine La ?_ ?_ | exact Lc | refine Lo ?_ | refine ⟨⟨_, rfl, ?_⟩, ?_⟩ | refine Lx ?_)))
    all_goals (first | (rfl) | exact Ld)
  obtain ⟨k, hk⟩ := k
  simp only
  by_cases hlt : k < a.length
  · obtain ⟨x, hx, hne⟩ := hrun k hlt
    have hn2 : ¬((x.toNat : Int) = 32) := fun e => hne (UInt8.toNat_inj.1 (by simpa using (by omega : x.toNat = 32)))
    repeat' (first | ((first | apply Ba | (apply Bb; (· rfl); (· rfl)) | (apply Bc; (· exact nxE)) | (apply Bd; (· rfl); (· rfl); (· exact nxE))); (· first | exact Ok.sidx (c := x) rfl rfl rfl (by omega) hx | exact Ok.slen rfl rfl | exact Ok.pe)) | ((first | apply Ca | (apply Cb; (· exact nxE))); (· first | exact Ok.e0)) | refine Sx ?_ | (refine Sy (fun h => ?_) (fun h => ?_) <;> try (exfalso; omega; done)) | refine Sz (fun h => ?_) (fun h => ?_))
    refine ⟨⟨k + 1, by omega⟩, ?_, by simp only; omega⟩
    (apply Le.headZ [] rfl)
    all_goals (try dsimp only [srcs])
    (case' hfr | hob => (repeat' (first | refine La ?_ ?_ | exact Lc | refine Lo ?_ | refine ⟨⟨_, rfl, ?_⟩, ?_⟩ | refine Lx ?_)))
    all_goals (first | (rfl) | exact Ld)
  · obtain rfl : k = a.length := by omega
    cases ok
    all_goals
      repeat' (first | ((first | apply Ba | (apply Bb; (· rfl); (· rfl)) | (apply Bc; (· exact nxE)) | (apply Bd; (· rfl); (· rfl); (· exact nxE))); (· first | exact Ok.seqN rfl rfl rfl (by rw [hw]; decide) | exact Ok.seqY rfl rfl rfl (by rw [hw]) | exact Kz rfl rfl (hSp) (Ad (Ad An)) | exact Kz rfl rfl (hN) (Ad An) | exact Ok.lenD rfl rfl hnl | exact Ok.slen rfl rfl | exact Ok.pe)) | ((first | apply Ca | (apply Cb; (· exact nxE))); (· first | exact Ok.e0)) | refine Sx ?_ | (refine Sy (fun h => ?_) (fun h => ?_) <;> try (exfalso; omega; done)) | refine Sz (fun h => ?_) (fun h => ?_))
    all_goals
      refine Yd ?_
      (apply Le.headZ (hs := []) [] rfl)
      all_goals (try dsimp only [srcs])
      (case' hfr => (repeat' (first | refine La ?_ ?_ | exact Lc | refine Lo ?_ | refine ⟨⟨_, rfl, ?_⟩, ?_⟩ | refine Lx ?_)))
      all_goals (first | exact Ld | exact trivial | (rfl))
set_option maxHeartbeats 1000000 in
theorem parse_start_y [Mode] (a r : List UInt8) (ha : (32 : UInt8) ∉ a) (hs : (a ++ 32 :: r).length ≤ 2000000) (hw : a = [115, 116, 97, 114, 116]) (ns : List Int) (hns : ns.length ≤ 2000001) (ok : Bool) (hN : AC Tryd.prog 53 [SL (spl 32 r)] H0 (.tup [IL ns, Bo ok]) H0) : AC Tryd.prog 22 [Str (a ++ 32 :: r)] H0 (.tup [Str a, Str [], IL ns, Bo (ok && decide ((ns.length : Int) = 1))]) H0 := by
  have hSp := split_frz r 32 (by simp at hs; omega)
  have hnl : (IR ns).length = ns.length := IR_len
  obtain ⟨hrun, hat, htk, hdr, hln⟩ := blank_facts a r ha
  generalize a ++ 32 :: r = s at *
  refine AC.of_body 0 Tryd.func22 rfl (fun l h => absurd rfl h) (fun C hC => ?_)
  have hD : ∀ l, ¬ C.D0 l := fun l h => (hC l).1 h rfl
  simp only [startFr, Tryd.ntmps22, List.length_cons, List.length_nil, Nat.reduceAdd, Nat.reduceSub, List.replicate_succ, List.replicate_zero, List.cons_append, List.nil_append]
  repeat' (first | ((first | apply Ba | (apply Bb; (· rfl); (· rfl)) | (apply Bc; (· exact nxE)) | (apply Bd; (· rfl); (· rfl); (· exact nxE))); (· first | exact Ok.slen rfl rfl | exact Ok.pe)) | ((first | apply Ca | (apply Cb; (· exact nxE))); (· first | exact Ok.e0)) | refine Sx ?_ | (refine Sy (fun h => ?_) (fun h => ?_) <;> try (exfalso; omega; done)) | refine Sz (fun h => ?_) (fun h => ?_))
  refine AW.loop (X := {k : Nat // k ≤ a.length}) (fun k => ⟨[Str s, Oo, Oo, Oo, Oo, Oo, Str s, Str [], Bo false, I (k.1 : Nat), Oo, Oo, Oo, Oo, Oo, Oo, Oo, Oo, Oo, Oo, Oo, Oo, Oo, Oo, Oo, Oo, Oo, Oo, Oo, Oo, Oo, Oo, Oo, Oo, Oo, Oo, Oo, Oo, Oo, Oo, Oo, Oo, Oo, Oo, Oo, Oo, Oo, Oo, Oo, Oo, Oo, Oo, Oo, Oo, Oo, Oo, Oo, Oo, Oo, Oo, Oo, Oo, Oo, Oo, Oo, Oo, Oo, Oo, Oo, Oo, Oo, Oo, Oo, Oo, Oo, Oo, Oo, Oo, Oo, Oo, Oo, Oo, Oo, Oo, Oo, Oo, Oo, Oo], heapL [], 900⟩) (fun k => a.length - k.1) ⟨0, Nat.zero_le _⟩ ?_ (fun k => ?_)
  ·
    (apply Le.headZ [] rfl)
    all_goals (try dsimp only [srcs])
    (case' hfr | hob => (repeat' (first | refine La ?_ ?_ | exact Lc | refine Lo ?_ | refine ⟨⟨_, rfl, ?_⟩, ?_⟩ | refine Lx ?_)))
    all_goals (first | (rfl) | exact Ld)
  obtain ⟨k, hk⟩ := k
  simp only
  by_cases hlt : k < a.length
  · obtain ⟨x, hx, hne⟩ := hrun k hlt
    have hn2 : ¬((x.toNat : Int) = 32) := fun e => hne (UInt8.toNat_inj.1 (by simpa using (by omega : x.toNat = 32)))
    repeat' (first | ((first | apply Ba | (apply Bb; (· rfl); (· rfl)) | (apply Bc; (· exact nxE)) | (apply Bd; (· rfl); (· rfl); (· exact nxE))); (· first | exact Ok.sidx (c := x) rfl rfl rfl (by omega) hx | exact Ok.slen rfl rfl | exact Ok.pe)) | ((first | apply Ca | (apply Cb; (· exact nxE))); (· first | exact Ok.e0)) | refine Sx ?_ | (refine Sy (fun h => ?_) (fun h => ?_) <;> try (exfalso; omega; done)) | refine Sz (fun h => ?_) (fun h => ?_))
    refine ⟨⟨k + 1, by omega⟩, ?_, by simp only; omega⟩
    (apply Le.headZ [] rfl)
    all_goals (try dsimp only [srcs])
    (case' hfr | hob => (repeat' (first | refine La ?_ ?_ | exact Lc | refine Lo ?_ | refine ⟨⟨_, rfl, ?_⟩, ?_⟩ | refine Lx ?_)))
    all_goals (first | (rfl) | exact Ld)
  · obtain rfl : k = a.length := by omega
    cases ok
    all_goals
      repeat' (first | ((first | apply Ba | (apply Bb; (· rfl); (· rfl)) | (apply Bc; (· exact nxE)) | (apply Bd; (· rfl); (· rfl); (· exact nxE))); (· first | exact Ok.sidx (c := 32) rfl rfl rfl (by omega) hat | exact Ok.sToE (j := a.length) htk (by omega) rfl rfl rfl rfl | exact Ok.sFromE (j := a.length + 1) hdr (by omega) rfl rfl rfl (by first | rfl | omega | (push_cast; rfl)) | exact Ok.seqN rfl rfl rfl (by rw [hw]; decide) | exact Ok.seqY rfl rfl rfl (by rw [hw]) | exact Kz rfl rfl (hSp) (Ad (Ad An)) | exact Kz rfl rfl (hN) (Ad An) | exact Ok.lenD rfl rfl hnl | exact Ok.slen rfl rfl | exact Ok.pe)) | ((first | apply Ca | (apply Cb; (· exact nxE))); (· first | exact Ok.e0)) | refine Sx ?_ | (refine Sy (fun h => ?_) (fun h => ?_) <;> try (exfalso; omega; done)) | refine Sz (fun h => ?_) (fun h => ?_))
    all_goals
      refine Yd ?_
      (apply Le.headZ (hs := []) [] rfl)
      all_goals (try dsimp only [srcs])
      (case' hfr => (repeat' (first | refine La ?_ ?_ | exact Lc | refine Lo ?_ | refine ⟨⟨_, rfl, ?_⟩, ?_⟩ | refine Lx ?_)))
      all_goals (first | exact Ld | exact trivial | (rfl))
set_option maxHeartbeats 1000000 in
theorem parse_fire_n [Mode] (a : List UInt8) (ha : (32 : UInt8) ∉ a) (hs : (a).length ≤ 2000000) (hw : a = [102, 105, 114, 101]) (ns : List Int) (hns : ns.length ≤ 2000001) (ok : Bool) (hN : AC Tryd.prog 53 [SL (spl 32 [])] H0 (.tup [IL ns, Bo ok]) H0) : AC Tryd.prog 22 [Str (a)] H0 (.tup [Str a, Str [], IL ns, Bo (ok && decide ((ns.length : Int) = 2))]) H0 := by
  have hSp := split_frz [] 32 (by decide)
  have hnl : (IR ns).length = ns.length := IR_len
  have hrun : ∀ k, k < a.length → ∃ x, a[((k : Nat) : Int).toNat]? = some x ∧ x ≠ 32 := fun k hk => by
    rw [Int.toNat_natCast]
    exact ⟨a[k], List.getElem?_eq_getElem hk, fun e => ha (e ▸ List.getElem_mem hk)⟩
  refine AC.of_body 0 Tryd.func22 rfl (fun l h => absurd rfl h) (fun C hC => ?_)
  have hD : ∀ l, ¬ C.D0 l := fun l h => (hC l).1 h rfl
  simp only [startFr, Tryd.ntmps22, List.length_cons, List.length_nil, Nat.reduceAdd, Nat.reduceSub, List.replicate_succ, List.replicate_zero, List.cons_append, List.nil_append]
  repeat' (first | ((first | apply Ba | (apply Bb; (· rfl); (· rfl)) | (apply Bc; (· exact nxE)) | (apply Bd; (· rfl); (· rfl); (· exact nxE))); (· first | exact Ok.slen rfl rfl | exact Ok.pe)) | ((first | apply Ca | (apply Cb; (· exact nxE))); (· first | exact Ok.e0)) | refine Sx ?_ | (refine Sy (fun h => ?_) (fun h => ?_) <;> try (exfalso; omega; done)) | refine Sz (fun h => ?_) (fun h => ?_))
  refine AW.loop (X := {k : Nat // k ≤ a.length}) (fun k => ⟨[Str a, Oo, Oo, Oo, Oo, Oo, Str a, Str [], Bo false, I (k.1 : Nat), Oo, Oo, Oo, Oo, Oo, Oo, Oo, Oo, Oo, Oo, Oo, Oo, Oo, Oo, Oo, Oo, Oo, Oo, Oo, Oo, Oo, Oo, Oo, Oo, Oo, Oo, Oo, Oo, Oo, Oo, Oo, Oo, Oo, Oo, Oo, Oo, Oo, Oo, Oo, Oo, Oo, Oo, Oo, Oo, Oo, Oo, Oo, Oo, Oo, Oo, Oo, Oo, Oo, Oo, Oo, Oo, Oo, Oo, Oo, Oo, Oo, Oo, Oo, Oo, Oo, Oo, Oo, Oo, Oo, Oo, Oo, Oo, Oo, Oo, Oo, Oo, Oo, Oo], heapL [], 900⟩) (fun k => a.length - k.1) ⟨0, Nat.zero_le _⟩ ?_ (fun k => ?_)
  ·
    (apply Le.headZ [] rfl)
    all_goals (try dsimp only [srcs])
    (case' hfr | hob => (repeat' (first | refine La ?_ ?_ | exact Lc | refine Lo ?_ | refine ⟨⟨_, rfl, ?_⟩, ?_⟩ | refine Lx ?_)))
    all_goals (first | (rfl) | exact Ld)
  obtain ⟨k, hk⟩ := k
  simp only
  by_cases hlt : k < a.length
  · obtain ⟨x, hx, hne⟩ := hrun k hlt
    have hn2 : ¬((x.toNat : Int) = 32) := fun e => hne (UInt8.toNat_inj.1 (by simpa using (by omega : x.toNat = 32)))
    repeat' (first | ((first | apply Ba | (apply Bb; (· rfl); (· rfl)) | (apply Bc; (· exact nxE)) | (apply Bd; (· rfl); (· rfl); (· exact nxE))); (· first | exact Ok.sidx (c := x) rfl rfl rfl (by omega) hx | exact Ok.slen rfl rfl | exact Ok.pe)) | ((first | apply Ca | (apply Cb; (· exact nxE))); (· first | exact Ok.e0)) | refine Sx ?_ | (refine Sy (fun h => ?_) (fun h => ?_) <;> try (exfalso; omega; done)) | refine Sz (fun h => ?_) (fun h => ?_))
    refine ⟨⟨k + 1, by omega⟩, ?_, by simp only; omega⟩
    (apply Le.headZ [] rfl)
    all_goals (try dsimp only [srcs])
    (case' hfr | hob => (repeat' (first | refine La ?_ ?_ | exact Lc | refine Lo ?_ | refine ⟨⟨_, rfl, ?_⟩, ?_⟩ | refine Lx ?_)))
    all_goals (first | (rfl) | exact Ld)
  · obtain rfl : k = a.length := by omega
    cases ok
    all_goals
      repeat' (first | ((first | apply Ba | (apply Bb; (· rfl); (· rfl)) | (apply Bc; (· exact nxE)) | (apply Bd; (· rfl); (· rfl); (· exact nxE))); (· first | exact Ok.seqN rfl rfl rfl (by rw [hw]; decide) | exact Ok.seqY rfl rfl rfl (by rw [hw]) | exact Kz rfl rfl (hSp) (Ad (Ad An)) | exact Kz rfl rfl (hN) (Ad An) | exact Ok.lenD rfl rfl hnl | exact Ok.slen rfl rfl | exact Ok.pe)) | ((first | apply Ca | (apply Cb; (· exact nxE))); (· first | exact Ok.e0)) | refine Sx ?_ | (refine Sy (fun h => ?_) (fun h => ?_) <;> try (exfalso; omega; done)) | refine Sz (fun h => ?_) (fun h => ?_))
    all_goals
      refine Yd ?_
      (apply Le.headZ (hs := []) [] rfl)
      all_goals (try dsimp only [srcs])
      (case' hfr => (repeat' (first | refine La ?_ ?_ | exact Lc | refine Lo ?_ | refine ⟨⟨_, rfl, ?_⟩, ?_⟩ | refine Lx ?_)))
      all_goals (first | exact Ld | exact trivial | (rfl))
set_option maxHeartbeats 1000000 in
theorem parse_fire_y [Mode] (a r : List UInt8) (ha : (32 : UInt8) ∉ a) (hs : (a ++ 32 :: r).length ≤ 2000000) (hw : a = [102, 105, 114, 101]) (ns : List Int) (hns : ns.length ≤ 2000001) (ok : Bool) (hN : AC Tryd.prog 53 [SL (spl 32 r)] H0 (.tup [IL ns, Bo ok]) H0) : AC Tryd.prog 22 [Str (a ++ 32 :: r)] H0 (.tup [Str a, Str [], IL ns, Bo (ok && decide ((ns.length : Int) = 2))]) H0 := by
  have hSp := split_frz r 32 (by simp at hs; omega)
  have hnl : (IR ns).length = ns.length := IR_len
  obtain ⟨hrun, hat, htk, hdr, hln⟩ := blank_facts a r ha
  generalize a ++ 32 :: r = s at *
  refine AC.of_body 0 Tryd.func22 rfl (fun l h => absurd rfl h) (fun C hC => ?_)
  have hD : ∀ l, ¬ C.D0 l := fun l h => (hC l).1 h rfl
  simp only [startFr, Tryd.ntmps22, List.length_cons, List.length_nil, Nat.reduceAdd, Nat.reduceSub, List.replicate_succ, List.replicate_zero, List.cons_append, List.nil_append]
  repeat' (first | ((first | apply Ba | (apply Bb; (· rfl); (· rfl)) | (apply Bc; (· exact nxE)) | (apply Bd; (· rfl); (· rfl); (· exact nxE))); (· first | exact Ok.slen rfl rfl | exact Ok.pe)) | ((first | apply Ca | (apply Cb; (· exact nxE))); (· first | exact Ok.e0)) | refine Sx ?_ | (refine Sy (fun h => ?_) (fun h => ?_) <;> try (exfalso; omega; done)) | refine Sz (fun h => ?_) (fun h => ?_))
  refine AW.loop (X := {k : Nat // k ≤ a.length}) (fun k => ⟨[Str s, Oo, Oo, Oo, Oo, Oo, Str s, Str [], Bo false, I (k.1 : Nat), Oo, Oo, Oo, Oo, Oo, Oo, Oo, Oo, Oo, Oo, Oo, Oo, Oo, Oo, Oo, Oo, Oo, Oo, Oo, Oo, Oo, Oo, Oo, Oo, Oo, Oo, Oo, Oo, Oo, Oo, Oo, Oo, Oo, Oo, Oo, Oo, Oo, Oo, Oo, Oo, Oo, Oo, Oo, Oo, Oo, Oo, Oo, Oo, Oo, Oo, Oo, Oo, Oo, Oo, Oo, Oo, Oo, Oo, Oo, Oo, Oo, Oo, Oo, Oo, Oo, Oo, Oo, Oo, Oo, Oo, Oo, Oo, Oo, Oo, Oo, Oo, Oo, Oo], heapL [], 900⟩) (fun k => a.length - k.1) ⟨0, Nat.zero_le _⟩ ?_ (fun k => ?_)
  ·
    (apply Le.headZ [] rfl)
    all_goals (try dsimp only [srcs])
    (case' hfr | hob => (repeat' (first | refine La ?_ ?_ | exact Lc | refine Lo ?_ | refine ⟨⟨_, rfl, ?_⟩, ?_⟩ | refine Lx ?_)))
    all_goals (first | (rfl) | exact Ld)
  obtain ⟨k, hk⟩ := k
  simp only
  by_cases hlt : k < a.length
  · obtain ⟨x, hx, hne⟩ := hrun k hlt
    have hn2 : ¬((x.toNat : Int) = 32) := fun e => hne (UInt8.toNat_inj.1 (by simpa using (by omega : x.toNat = 32)))
    repeat' (first | ((first | apply Ba | (apply Bb; (· rfl); (· rfl)) | (apply Bc; (· exact nxE)) | (apply Bd; (· rfl); (· rfl); (· exact nxE))); (· first | exact Ok.sidx (c := x) rfl rfl rfl (by omega) hx | exact Ok.slen rfl rfl | exact Ok.pe)) | ((first | apply Ca | (apply Cb; (· exact nxE))); (· first | exact Ok.e0)) | refine Sx ?_ | (refine Sy (fun h => ?_) (fun h => ?_) <;> try (exfalso; omega; done)) | refine Sz (fun h => ?_) (fun h => ?_))
    refine ⟨⟨k + 1, by omega⟩, ?_, by simp only; omega⟩
    (apply Le.headZ [] rfl)
    all_goals (try dsimp only [srcs])
    (case' hfr | hob => (repeat' (first | refine La ?_ ?_ | exact Lc | refine Lo ?_ | refine ⟨⟨_, rfl, ?_⟩, ?_⟩ | refine Lx ?_)))
    all_goals (first | (rfl) | exact Ld)
  · obtain rfl : k = a.length := by omega
    cases ok
    all_goals
      repeat' (first | ((first | apply Ba | (apply Bb; (· rfl); (· rfl)) | (apply Bc; (· exact nxE)) | (apply Bd; (· rfl); (· rfl); (· exact nxE))); (· first | exact Ok.sidx (c := 32) rfl rfl rfl (by omega) hat | exact Ok.sToE (j := a.length) htk (by omega) rfl rfl rfl rfl | exact Ok.sFromE (j := a.length + 1) hdr (by omega) rfl rfl rfl (by first | rfl | omega | (push_cast; rfl)) | exact Ok.seqN rfl rfl rfl (by rw [hw]; decide) | exact Ok.seqY rfl rfl rfl (by rw [hw]) | exact Kz rfl rfl (hSp) (Ad (Ad An)) | exact Kz rfl rfl (hN) (Ad An) | exact Ok.lenD rfl rfl hnl | exact Ok.slen rfl rfl | exact Ok.pe)) | ((first | apply Ca | (apply Cb; (· exact nxE))); (· first | exact Ok.e0)) | refine Sx ?_ | (refine Sy (fun h => ?_) (fun h => ?_) <;> try (exfalso; omega; done)) | refine Sz (fun h => ?_) (fun h => ?_))
    all_goals
      refine Yd ?_
      (apply Le.headZ (hs := []) [] rfl)
      all_goals (try dsimp only [srcs])
      (case' hfr => (repeat' (first | refine La ?_ ?_ | exact Lc | refine Lo ?_ | refine ⟨⟨_, rfl, ?_⟩, ?_⟩ | refine Lx ?_)))
      all_goals (first | exact Ld | exact trivial | (rfl))
set_option maxHeartbeats 1000000 in
theorem parse_room_n [Mode] (a : List UInt8) (ha : (32 : UInt8) ∉ a) (hs : (a).length ≤ 2000000) (hw : a = [114, 111, 111, 109]) (ns : List Int) (hns : ns.length ≤ 2000001) (ok : Bool) (hN : AC Tryd.prog 53 [SL (spl 32 [])] H0 (.tup [IL ns, Bo ok]) H0) : AC Tryd.prog 22 [Str (a)] H0 (.tup [Str a, Str [], IL ns, Bo (ok && decide ((ns.length : Int) = 3))]) H0 := by
  have hSp := split_frz [] 32 (by decide)
  have hnl : (IR ns).length = ns.length := IR_len
  have hrun : ∀ k, k < a.length → ∃ x, a[((k : Nat) : Int).toNat]? = some x ∧ x ≠ 32 := fun k hk => by
    rw [Int.toNat_natCast]
    exact ⟨a[k], List.getElem?_eq_getElem hk, fun e => ha (e ▸ List.getElem_mem hk)⟩
  refine AC.of_body 0 Tryd.func22 rfl (fun l h => absurd rfl h) (fun C hC => ?_)
  have hD : ∀ l, ¬ C.D0 l := fun l h => (hC l).1 h rfl
  simp only [startFr, Tryd.ntmps22, List.length_cons, List.length_nil, Nat.reduceAdd, Nat.reduceSub, List.replicate_succ, List.replicate_zero, List.cons_append, List.nil_append]
  repeat' (first | ((first | apply Ba | (apply Bb; (· rfl); (· rfl)) | (apply Bc; (· exact nxE)) | (apply Bd; (· rfl); (· rfl); (· exact nxE))); (· first | exact Ok.slen rfl rfl | exact Ok.pe)) | ((first | apply Ca | (apply Cb; (· exact nxE))); (· first | exact Ok.e0)) | refine Sx ?_ | (refine Sy (fun h => ?_) (fun h => ?_) <;> try (exfalso; omega; done)) | refine Sz (fun h => ?_) (fun h => ?_))
  refine AW.loop (X := {k : Nat // k ≤ a.length}) (fun k => ⟨[Str a, Oo, Oo, Oo, Oo, Oo, Str a, Str [], Bo false, I (k.1 : Nat), Oo, Oo, Oo, Oo, Oo, Oo, Oo, Oo, Oo, Oo, Oo, Oo, Oo, Oo, Oo, Oo, Oo, Oo, Oo, Oo, Oo, Oo, Oo, Oo, Oo, Oo, Oo, Oo, Oo, Oo, Oo, Oo, Oo, Oo, Oo, Oo, Oo, Oo, Oo, Oo, Oo, Oo, Oo, Oo, Oo, Oo, Oo, Oo, Oo, Oo, Oo, Oo, Oo, Oo, Oo, Oo, Oo, Oo, Oo, Oo, Oo, Oo, Oo, Oo, Oo, Oo, Oo, Oo, Oo, Oo, Oo, Oo, Oo, Oo, Oo, Oo, Oo, Oo], heapL [], 900⟩) (fun k => a.length - k.1) ⟨0, Nat.zero_le _⟩ ?_ (fun k => ?_)
  ·
    (apply Le.headZ [] rfl)
    all_goals (try dsimp only [srcs])
    (case' hfr | hob => (repeat' (first | refine La ?_ ?_ | exact Lc | refine Lo ?_ | refine ⟨⟨_, rfl, ?_⟩, ?_⟩ | refine Lx ?_)))
    all_goals (first | (rfl) | exact Ld)
  obtain ⟨k, hk⟩ := k
  simp only
  by_cases hlt : k < a.length
  · obtain ⟨x, hx, hne⟩ := hrun k hlt
    have hn2 : ¬((x.toNat : Int) = 32) := fun e => hne (UInt8.toNat_inj.1 (by simpa using (by omega : x.toNat = 32)))
    repeat' (first | ((first | apply Ba | (apply Bb; (· rfl); (· rfl)) | (apply Bc; (· exact nxE)) | (apply Bd; (· rfl); (· rfl); (· exact nxE))); (· first | exact Ok.sidx (c := x) rfl rfl rfl (by omega) hx | exact Ok.slen rfl rfl | exact Ok.pe)) | ((first | apply Ca | (apply Cb; (· exact nxE))); (· first | exact Ok.e0)) | refine Sx ?_ | (refine Sy (fun h => ?_) (fun h => ?_) <;> try (exfalso; omega; done)) | refine Sz (fun h => ?_) (fun h => ?_))
    refine ⟨⟨k + 1, by omega⟩, ?_, by simp only; omega⟩
    (apply Le.headZ [] rfl)
    all_goals (try dsimp only [srcs])
    (case' hfr | hob => (repeat' (first | refine La ?_ ?_ | exact Lc | refine Lo ?_ | refine ⟨⟨_, rfl, ?_⟩, ?_⟩ | refine Lx ?_)))
    all_goals (first | (rfl) | exact Ld)
  · obtain rfl : k = a.length := by omega
    cases ok
    all_goals
      repeat' (first | ((first | apply Ba | (apply Bb; (· rfl); (· rfl)) | (apply Bc; (· exact nxE)) | (apply Bd; (· rfl); (· rfl); (· exact nxE))); (· first | exact Ok.seqN rfl rfl rfl (by rw [hw]; decide) | exact Ok.seqY rfl rfl rfl (by rw [hw]) | exact Kz rfl rfl (hSp) (Ad (Ad An)) | exact Kz rfl rfl (hN) (Ad An) | exact Ok.lenD rfl rfl hnl | exact Ok.slen rfl rfl | exact Ok.pe)) | ((first | apply Ca | (apply Cb; (· exact nxE))); (· first | exact Ok.e0)) | refine Sx ?_ | (refine Sy (fun h => ?_) (fun h => ?_) <;> try (exfalso; omega; done)) | refine Sz (fun h => ?_) (fun h => ?_))
    all_goals
      refine Yd ?_
      (apply Le.headZ (hs := []) [] rfl)
      all_goals (try dsimp only [srcs])
      (case' hfr => (repeat' (first | refine La ?_ ?_ | exact Lc | refine Lo ?_ | refine ⟨⟨_, rfl, ?_⟩, ?_⟩ | refine Lx ?_)))
      all_goals (first | exact Ld | exact trivial | (rfl))
set_option maxHeartbeats 1000000 in
theorem parse_room_y [Mode] (a r : List UInt8) (ha : (32 : UInt8) ∉ a) (hs : (a ++ 32 :: r).length ≤ 2000000) (hw : a = [114, 111, 111, 109]) (ns : List Int) (hns : ns.length ≤ 2000001) (ok : Bool) (hN : AC Tryd.prog 53 [SL (spl 32 r)] H0 (.tup [IL ns, Bo ok]) H0) : AC Tryd.prog 22 [Str (a ++ 32 :: r)] H0 (.tup [Str a, Str [], IL ns, Bo (ok && decide ((ns.length : Int) = 3))]) H0 := by
  have hSp := split_frz r 32 (by simp at hs; omega)
  have hnl : (IR ns).length = ns.length := IR_len
  obtain ⟨hrun, hat, htk, hdr, hln⟩ := blank_facts a r ha
  generalize a ++ 32 :: r = s at *
  refine AC.of_body 0 Tryd.func22 rfl (fun l h => absurd rfl h) (fun C hC => ?_)
  have hD : ∀ l, ¬ C.D0 l := fun l h => (hC l).1 h rfl
  simp only [startFr, Tryd.ntmps22, List.length_cons, List.length_nil, Nat.reduceAdd, Nat.reduceSub, List.replicate_succ, List.replicate_zero, List.cons_append, List.nil_append]
  repeat' (first | ((first | apply Ba | (apply Bb; (· rfl); (· rfl)) | (apply Bc; (· exact nxE)) | (apply Bd; (· rfl); (· rfl); (· exact nxE))); (· first | exact Ok.slen rfl rfl | exact Ok.pe)) | ((first | apply Ca | (apply Cb; (· exact nxE))); (· first | exact Ok.e0)) | refine Sx ?_ | (refine Sy (fun h => ?_) (fun h => ?_) <;> try (exfalso; omega; done)) | refine Sz (fun h => ?_) (fun h => ?_))
  refine AW.loop (X := {k : Nat // k ≤ a.length}) (fun k => ⟨[Str s, Oo, Oo, Oo, Oo, Oo, Str s, Str [], Bo false, I (k.1 : Nat), Oo, Oo, Oo, Oo, Oo, Oo, Oo, Oo, Oo, Oo, Oo, Oo, Oo, Oo, Oo, Oo, Oo, Oo, Oo, Oo, Oo, Oo, Oo, Oo, Oo, Oo, Oo, Oo, Oo, Oo, Oo, Oo, Oo, Oo, Oo, Oo, Oo, Oo, Oo, Oo, Oo, Oo, Oo, Oo, Oo, Oo, Oo, Oo, Oo, Oo, Oo, Oo, Oo, Oo, Oo, Oo, Oo, Oo, Oo, Oo, Oo, Oo, Oo, Oo, Oo, Oo, Oo, Oo, Oo, Oo, Oo, Oo, Oo, Oo, Oo, Oo, Oo, Oo], heapL [], 900⟩) (fun k => a.length - k.1) ⟨0, Nat.zero_le _⟩ ?_ (fun k => ?_)
  ·
    (apply Le.headZ [] rfl)
    all_goals (try dsimp only [srcs])
    (case' hfr | hob => (repeat' (first | refine La ?_ ?_ | exact Lc | refine Lo ?_ | refine ⟨⟨_, rfl, ?_⟩, ?_⟩ | refine Lx ?_)))
    all_goals (first | (rfl) | exact Ld)
  obtain ⟨k, hk⟩ := k
  simp only
  by_cases hlt : k < a.length
  · obtain ⟨x, hx, hne⟩ := hrun k hlt
    have hn2 : ¬((x.toNat : Int) = 32) := fun e => hne (UInt8.toNat_inj.1 (by simpa using (by omega : x.toNat = 32)))
    repeat' (first | ((first | apply Ba | (apply Bb; (· rfl); (· rfl)) | (apply Bc; (· exact nxE)) | (apply Bd; (· rfl); (· rfl); (· exact nxE))); (· first | exact Ok.sidx (c := x) rfl rfl rfl (by omega) hx | exact Ok.slen rfl rfl | exact Ok.pe)) | ((first | apply Ca | (apply Cb; (· exact nxE))); (· first | exact Ok.e0)) | refine Sx ?_ | (refine Sy (fun h => ?_) (fun h => ?_) <;> try (exfalso; omega; done)) | refine Sz (fun h => ?_) (fun h => ?_))
    refine ⟨⟨k + 1, by omega⟩, ?_, by simp only; omega⟩
    (apply Le.headZ [] rfl)
    all_goals (try dsimp only [srcs])
    (case' hfr | hob => (repeat' (first | refine La ?_ ?_ | exact Lc | refine Lo ?_ | refine ⟨⟨_, rfl, ?_⟩, ?_⟩ | refine Lx ?_)))
    all_goals (first | (rfl) | exact Ld)
  · obtain rfl : k = a.length := by omega
    cases ok
    all_goals
      repeat' (first | ((first | apply Ba | (apply Bb; (· rfl); (· rfl)) | (apply Bc; (· exact nxE)) | (apply Bd; (· rfl); (· rfl); (· exact nxE))); (· first | exact Ok.sidx (c := 32) rfl rfl rfl (by omega) hat | exact Ok.sToE (j := a.length) htk (by omega) rfl rfl rfl rfl | exact Ok.sFromE (j := a.length + 1) hdr (by omega) rfl rfl rfl (by first | rfl | omega | (push_cast; rfl)) | exact Ok.seqN rfl rfl rfl (by rw [hw]; decide) | exact Ok.seqY rfl rfl rfl (by rw [hw]) | exact Kz rfl rfl (hSp) (Ad (Ad An)) | exact Kz rfl rfl (hN) (Ad An) | exact Ok.lenD rfl rfl hnl | exact Ok.slen rfl rfl | exact Ok.pe)) | ((first | apply Ca | (apply Cb; (· exact nxE))); (· first | exact Ok.e0)) | refine Sx ?_ | (refine Sy (fun h => ?_) (fun h => ?_) <;> try (exfalso; omega; done)) | refine Sz (fun h => ?_) (fun h => ?_))
    all_goals
      refine Yd ?_
      (apply Le.headZ (hs := []) [] rfl)
      all_goals (try dsimp only [srcs])
      (case' hfr => (repeat' (first | refine La ?_ ?_ | exact Lc | refine Lo ?_ | refine ⟨⟨_, rfl, ?_⟩, ?_⟩ | refine Lx ?_)))
      all_goals (first | exact Ld | exact trivial | (rfl))
set_option maxHeartbeats 1000000 in
theorem parse_none_n [Mode] (a : List UInt8) (ha : (32 : UInt8) ∉ a) (hs : (a).length ≤ 2000000) (h0 : a ≠ [103, 114, 97, 112, 104]) (h1 : a ≠ [108, 105, 110, 101, 115]) (h2 : a ≠ [101, 100, 105, 116]) (h3 : a ≠ [109, 101, 97, 110]) (h4 : a ≠ [117, 110, 100, 111]) (h5 : a ≠ [116, 101, 120, 116]) (h6 : a ≠ [108, 105, 118, 101]) (h7 : a ≠ [116, 105, 109, 101]) (h8 : a ≠ [99, 105, 114, 99, 117, 105, 116]) (h9 : a ≠ [112, 101, 114, 105, 111, 100]) (h10 : a ≠ [109, 97, 114, 103, 105, 110, 115]) (h11 : a ≠ [114, 117, 110]) (h12 : a ≠ [115, 116, 97, 114, 116]) (h13 : a ≠ [102, 105, 114, 101]) (h14 : a ≠ [114, 111, 111, 109]) (ns : List Int) (ok : Bool) (hN : AC Tryd.prog 53 [SL (spl 32 [])] H0 (.tup [IL ns, Bo ok]) H0) : AC Tryd.prog 22 [Str (a)] H0 (.tup [Str [], Str [], IL [], Bo false]) H0 := by
  have hSp := split_frz [] 32 (by decide)
  have hnl : (IR ns).length = ns.length := IR_len
  have hrun : ∀ k, k < a.length → ∃ x, a[((k : Nat) : Int).toNat]? = some x ∧ x ≠ 32 := fun k hk => by
    rw [Int.toNat_natCast]
    exact ⟨a[k], List.getElem?_eq_getElem hk, fun e => ha (e ▸ List.getElem_mem hk)⟩
  refine AC.of_body 0 Tryd.func22 rfl (fun l h => absurd rfl h) (fun C hC => ?_)
  have hD : ∀ l, ¬ C.D0 l := fun l h => (hC l).1 h rfl
  simp only [startFr, Tryd.ntmps22, List.length_cons, List.length_nil, Nat.reduceAdd, Nat.reduceSub, List.replicate_succ, List.replicate_zero, List.cons_append, List.nil_append]
  repeat' (first | ((first | apply Ba | (apply Bb; (· rfl); (· rfl)) | (apply Bc; (· exact nxE)) | (apply Bd; (· rfl); (· rfl); (· exact nxE))); (· first | exact Ok.slen rfl rfl | exact Ok.pe)) | ((first | apply Ca | (apply Cb; (· exact nxE))); (· first | exact Ok.e0)) | refine Sx ?_ | (refine Sy (fun h => ?_) (fun h => ?_) <;> try (exfalso; omega; done)) | refine Sz (fun h => ?_) (fun h => ?_))
  refine AW.loop (X := {k : Nat // k ≤ a.length}) (fun k => ⟨[Str a, Oo, Oo, Oo, Oo, Oo, Str a, Str [], Bo false, I (k.1 : Nat), Oo, Oo, Oo, Oo, Oo, Oo, Oo, Oo, Oo, Oo, Oo, Oo, Oo, Oo, Oo, Oo, Oo, Oo, Oo, Oo, Oo, Oo, Oo, Oo, Oo, Oo, Oo, Oo, Oo, Oo, Oo, Oo, Oo, Oo, Oo, Oo, Oo, Oo, Oo, Oo, Oo, Oo, Oo, Oo, Oo, Oo, Oo, Oo, Oo, Oo, Oo, Oo, Oo, Oo, Oo, Oo, Oo, Oo, Oo, Oo, Oo, Oo, Oo, Oo, Oo, Oo, Oo, Oo, Oo, Oo, Oo, Oo, Oo, Oo, Oo, Oo, Oo, Oo], heapL [], 900⟩) (fun k => a.length - k.1) ⟨0, Nat.zero_le _⟩ ?_ (fun k => ?_)
  ·
    (apply Le.headZ [] rfl)
    all_goals (try dsimp only [srcs])
    (case' hfr | hob => (repeat' (first | refine La ?_ ?_ | exact Lc | refine Lo ?_ | refine ⟨⟨_, rfl, ?_⟩, ?_⟩ | refine Lx ?_)))
    all_goals (first | (rfl) | exact Ld)
  obtain ⟨k, hk⟩ := k
  simp only
  by_cases hlt : k < a.length
  · obtain ⟨x, hx, hne⟩ := hrun k hlt
    have hn2 : ¬((x.toNat : Int) = 32) := fun e => hne (UInt8.toNat_inj.1 (by simpa using (by omega : x.toNat = 32)))
    repeat' (first | ((first | apply Ba | (apply Bb; (· rfl); (· rfl)) | (apply Bc; (· exact nxE)) | (apply Bd; (· rfl); (· rfl); (· exact nxE))); (· first | exact Ok.sidx (c := x) rfl rfl rfl (by omega) hx | exact Ok.slen rfl rfl | exact Ok.pe)) | ((first | apply Ca | (apply Cb; (· exact nxE))); (· first | exact Ok.e0)) | refine Sx ?_ | (refine Sy (fun h => ?_) (fun h => ?_) <;> try (exfalso; omega; done)) | refine Sz (fun h => ?_) (fun h => ?_))
    refine ⟨⟨k + 1, by omega⟩, ?_, by simp only; omega⟩
    (apply Le.headZ [] rfl)
    all_goals (try dsimp only [srcs])
    (case' hfr | hob => (repeat' (first | refine La ?_ ?_ | exact Lc | refine Lo ?_ | refine ⟨⟨_, rfl, ?_⟩, ?_⟩ | refine Lx ?_)))
    all_goals (first | (rfl) | exact Ld)
  · obtain rfl : k = a.length := by omega
    repeat' (first | ((first | apply Ba | (apply Bb; (· rfl); (· rfl)) | (apply Bc; (· exact nxE)) | (apply Bd; (· rfl); (· rfl); (· exact nxE))); (· first | exact Ok.seqN rfl rfl rfl (by assumption) | exact Kz rfl rfl (hSp) (Ad (Ad An)) | exact Kz rfl rfl (hN) (Ad An) | exact Ok.slen rfl rfl | exact Ok.pe)) | ((first | apply Ca | (apply Cb; (· exact nxE))); (· first | exact Ok.e0)) | refine Sx ?_ | (refine Sy (fun h => ?_) (fun h => ?_) <;> try (exfalso; omega; done)) | refine Sz (fun h => ?_) (fun h => ?_))
    all_goals
      refine Yd ?_
      (apply Le.headZ (hs := []) [] rfl)
      all_goals (try dsimp only [srcs])
      (case' hfr => (repeat' (first | refine La ?_ ?_ | exact Lc | refine Lo ?_ | refine ⟨⟨_, rfl, ?_⟩, ?_⟩ | refine Lx ?_)))
      all_goals (first | exact Ld | exact trivial | (rfl))
set_option maxHeartbeats 1000000 in
theorem parse_none_y [Mode] (a r : List UInt8) (ha : (32 : UInt8) ∉ a) (hs : (a ++ 32 :: r).length ≤ 2000000) (h0 : a ≠ [103, 114, 97, 112, 104]) (h1 : a ≠ [108, 105, 110, 101, 115]) (h2 : a ≠ [101, 100, 105, 116]) (h3 : a ≠ [109, 101, 97, 110]) (h4 : a ≠ [117, 110, 100, 111]) (h5 : a ≠ [116, 101, 120, 116]) (h6 : a ≠ [108, 105, 118, 101]) (h7 : a ≠ [116, 105, 109, 101]) (h8 : a ≠ [99, 105, 114, 99, 117, 105, 116]) (h9 : a ≠ [112, 101, 114, 105, 111, 100]) (h10 : a ≠ [109, 97, 114, 103, 105, 110, 115]) (h11 : a ≠ [114, 117, 110]) (h12 : a ≠ [115, 116, 97, 114, 116]) (h13 : a ≠ [102, 105, 114, 101]) (h14 : a ≠ [114, 111, 111, 109]) (ns : List Int) (ok : Bool) (hN : AC Tryd.prog 53 [SL (spl 32 r)] H0 (.tup [IL ns, Bo ok]) H0) : AC Tryd.prog 22 [Str (a ++ 32 :: r)] H0 (.tup [Str [], Str [], IL [], Bo false]) H0 := by
  have hSp := split_frz r 32 (by simp at hs; omega)
  have hnl : (IR ns).length = ns.length := IR_len
  obtain ⟨hrun, hat, htk, hdr, hln⟩ := blank_facts a r ha
  generalize a ++ 32 :: r = s at *
  refine AC.of_body 0 Tryd.func22 rfl (fun l h => absurd rfl h) (fun C hC => ?_)
  have hD : ∀ l, ¬ C.D0 l := fun l h => (hC l).1 h rfl
  simp only [startFr, Tryd.ntmps22, List.length_cons, List.length_nil, Nat.reduceAdd, Nat.reduceSub, List.replicate_succ, List.replicate_zero, List.cons_append, List.nil_append]
  repeat' (first | ((first | apply Ba | (apply Bb; (· rfl); (· rfl)) | (apply Bc; (· exact nxE)) | (apply Bd; (· rfl); (· rfl); (· exact nxE))); (· first | exact Ok.slen rfl rfl | exact Ok.pe)) | ((first | apply Ca | (apply Cb; (· exact nxE))); (· first | exact Ok.e0)) | refine Sx ?_ | (refine Sy (fun h => ?_) (fun h => ?_) <;> try (exfalso; omega; done)) | refine Sz (fun h => ?_) (fun h => ?_))
  refine AW.loop (X := {k : Nat // k ≤ a.length}) (fun k => ⟨[Str s, Oo, Oo, Oo, Oo, Oo, Str s, Str [], Bo false, I (k.1 : Nat), Oo, Oo, Oo, Oo, Oo, Oo, Oo, Oo, Oo, Oo, Oo, Oo, Oo, Oo, Oo, Oo, Oo, Oo, Oo, Oo, Oo, Oo, Oo, Oo, Oo, Oo, Oo, Oo, Oo, Oo, Oo, Oo, Oo, Oo, Oo, Oo, Oo, Oo, Oo, Oo, Oo, Oo, Oo, Oo, Oo, Oo, Oo, Oo, Oo, Oo, Oo, Oo, Oo, Oo, Oo, Oo, Oo, Oo, Oo, Oo, Oo, Oo, Oo, Oo, Oo, Oo, Oo, Oo, Oo, Oo, Oo, Oo, Oo, Oo, Oo, Oo, Oo, Oo], heapL [], 900⟩) (fun k => a.length - k.1) ⟨0, Nat.zero_le _⟩ ?_ (fun k => ?_)
  ·
    (apply Le.headZ [] rfl)
    all_goals (try dsimp only [srcs])
    (case' hfr | hob => (repeat' (first | refine La ?_ ?_ | exact Lc | refine Lo ?_ | refine ⟨⟨_, rfl, ?_⟩, ?_⟩ | refine Lx ?_)))
    all_goals (first | (rfl) | exact Ld)
  obtain ⟨k, hk⟩ := k
  simp only
  by_cases hlt : k < a.length
  · obtain ⟨x, hx, hne⟩ := hrun k hlt
    have hn2 : ¬((x.toNat : Int) = 32) := fun e => hne (UInt8.toNat_inj.1 (by simpa using (by omega : x.toNat = 32)))
    repeat' (first | ((first | apply Ba | (apply Bb; (· rfl); (· rfl)) | (apply Bc; (· exact nxE)) | (apply Bd; (· rfl); (· rfl); (· exact nxE))); (· first | exact Ok.sidx (c := x) rfl rfl rfl (by omega) hx | exact Ok.slen rfl rfl | exact Ok.pe)) | ((first | apply Ca | (apply Cb; (· exact nxE))); (· first | exact Ok.e0)) | refine Sx ?_ | (refine Sy (fun h => ?_) (fun h => ?_) <;> try (exfalso; omega; done)) | refine Sz (fun h => ?_) (fun h => ?_))
    refine ⟨⟨k + 1, by omega⟩, ?_, by simp only; omega⟩
    (apply Le.headZ [] rfl)
    all_goals (try dsimp only [srcs])
    (case' hfr | hob => (repeat' (first | refine La ?_ ?_ | exact Lc | refine Lo ?_ | refine ⟨⟨_, rfl, ?_⟩, ?_⟩ | refine Lx ?_)))
    all_goals (first | (rfl) | exact Ld)
  · obtain rfl : k = a.length := by omega
    repeat' (first | ((first | apply Ba | (apply Bb; (· rfl); (· rfl)) | (apply Bc; (· exact nxE)) | (apply Bd; (· rfl); (· rfl); (· exact nxE))); (· first | exact Ok.sidx (c := 32) rfl rfl rfl (by omega) hat | exact Ok.sToE (j := a.length) htk (by omega) rfl rfl rfl rfl | exact Ok.sFromE (j := a.length + 1) hdr (by omega) rfl rfl rfl (by first | rfl | omega | (push_cast; rfl)) | exact Ok.seqN rfl rfl rfl (by assumption) | exact Kz rfl rfl (hSp) (Ad (Ad An)) | exact Kz rfl rfl (hN) (Ad An) | exact Ok.slen rfl rfl | exact Ok.pe)) | ((first | apply Ca | (apply Cb; (· exact nxE))); (· first | exact Ok.e0)) | refine Sx ?_ | (refine Sy (fun h => ?_) (fun h => ?_) <;> try (exfalso; omega; done)) | refine Sz (fun h => ?_) (fun h => ?_))
    all_goals
      refine Yd ?_
      (apply Le.headZ (hs := []) [] rfl)
      all_goals (try dsimp only [srcs])
      (case' hfr => (repeat' (first | refine La ?_ ?_ | exact Lc | refine Lo ?_ | refine ⟨⟨_, rfl, ?_⟩, ?_⟩ | refine Lx ?_)))
      all_goals (first | exact Ld | exact trivial | (rfl))
end Go.Proofs.YtofakjlamoigcaaDoor
