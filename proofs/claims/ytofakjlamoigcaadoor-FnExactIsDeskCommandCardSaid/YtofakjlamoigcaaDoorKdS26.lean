/-
  Walks in the abstract reading: a command's numbers read by the program.
-/
import Derived.Test.YtofakjlamoigcaaDoorKdS25
namespace Go.Proofs.YtofakjlamoigcaaDoor
set_option linter.unusedSimpArgs false
set_option linter.unusedVariables false
open Go Go.RowKit
attribute [local irreducible] AL AD AW OpOk Le AC thenQ blockQ EndQ

theorem isplit_data [Mode] [HasLen] (l : List UInt8) (c : UInt8) (hl : l.length ≤ 100000000) : AC Tryd.prog 55 [Str l, Str [c]] H0 (SL (spl c l)) H0 :=
  (iSplit_ac l c hl).frz (AR.whole rfl trivial (stR_len _))
/-- The numbers of words. -/
def nsW (ws : List (List UInt8)) : List Int := ws.map fun w => (rdN w).1
theorem nsW_snoc [Mode] (ws : List (List UInt8)) (w : List UInt8) : nsW (ws ++ [w]) = nsW ws ++ [(rdN w).1] := by simp [nsW]
theorem nsW_len [Mode] (ws : List (List UInt8)) : (nsW ws).length = ws.length := by simp [nsW]
set_option maxHeartbeats 4000000 in
theorem readC_bad [Mode] [HasTab] [HasErr] [HasLen] (s w r : List UInt8) (n : Int) (hn : 1 ≤ n ∧ n ≤ 3) (hr : r.length ≤ 2000000) (j : Nat) (v : List UInt8) (hj : (spl 32 r)[j]? = some v)
    (hv : ¬((rdN v).2 = true ∧ (trm v).length ≤ 10)) (hb : ∀ (i : Nat) u, i < j → (spl 32 r)[i]? = some u → (rdN u).2 = true ∧ (trm u).length ≤ 10)
    (hCt : AC Tryd.prog 37 [Str s, Str [32]] H0 (.tup [Str w, Str r, Bo true]) H0) (hF : AC Tryd.prog 54 [Str w] H0 (I n) H0) :
    AC Tryd.prog 23 [Str s] H0 (.tup [Str [], IL [], Bo false]) H0 := by
  have hS := isplit_data r 32 (by omega)
  have hwn : (stR (spl 32 r)).length = (spl 32 r).length := stR_len _
  have hjl := (List.getElem?_eq_some_iff.1 hj).1
  have hwl : (spl 32 r).length ≤ 2000001 := by
    have h2 := stS_len 32 r (r.length + 1)
    rw [stS_end] at h2
    omega
  have hel : ∀ u ∈ spl 32 r, u.length ≤ 100000000 := fun u hu => by have := spl_mem_len hu; omega
  generalize spl 32 r = ws at *
  refine AC.of_body 0 Tryd.func23 rfl (fun l h => absurd rfl h) (fun C hC => ?_)
  have hD : ∀ l, ¬ C.D0 l := fun l h => (hC l).1 h rfl
  simp only [startFr, Tryd.ntmps23, List.length_cons, List.length_nil, Nat.reduceAdd, Nat.reduceSub, List.replicate_succ, List.replicate_zero, List.cons_append, List.nil_append]
  repeat' (first | ((first | apply Ba | (apply Bb; (· rfl); (· rfl)) | (apply Bc; (· exact nxE)) | (apply Bd; (· rfl); (· rfl); (· exact nxE))); (· first | exact Kz rfl rfl (hCt) (Ad (Ad An)) | exact Kz rfl rfl (hF) (Ad An) | exact Kz rfl rfl (hS) (Ad (Ad An)) | exact Ok.lenD rfl rfl hwn | exact Ok.slen rfl rfl | exact Ok.pe)) | ((first | apply Ca | (apply Cb; (· exact nxE))); (· first | exact Ok.e0)) | refine Sx ?_ | (refine Sy (fun h => ?_) (fun h => ?_) <;> try (exfalso; omega; done)) | refine Sz (fun h => ?_) (fun h => ?_))
  refine AW.loop (X := {k : Nat // k ≤ j}) (fun k => ⟨[Oo, Oo, Oo, Oo, Oo, Oo, Oo, Oo, I n, SL ws, .own 1 ⟨0, []⟩ 0 (nsW (ws.take (k.1 : Nat))).length, Oo, Oo, Oo, Oo, Oo, Oo, Oo, Oo, Oo, Oo, Oo, Oo, Oo, Oo, SL ws, I ws.length, I (k.1 : Nat), Oo, Oo, Oo, Oo, Oo, Oo, Oo, Oo, Oo, Oo, Oo, Oo, Oo, Oo, Oo, Oo, Oo, Oo, Oo, Oo, Oo, Oo, Oo, Oo, Oo, Oo, Oo, Oo, Oo, Oo, Oo, Oo, Oo, Oo, Oo, Oo, Oo, Oo, Oo, Oo, Oo, Oo, Oo, Oo, Oo, Oo, Oo], heapL [(⟨0, []⟩, ⟨0, []⟩, IO (nsW (ws.take k.1)))], 900⟩) (fun k => j - k.1) ⟨0, Nat.zero_le _⟩ ?_ (fun k => ?_)
  ·
    refine (Le.nil 10 1 rfl).trans ?_
    simp only [List.set_cons_succ, List.set_cons_zero]
    (apply Le.headZ [_] rfl)
    all_goals (try dsimp only [srcs])
    (case' hfr | hob => (repeat' (first | refine La ?_ ?_ | exact Lc | refine Lo ?_ | refine ⟨⟨_, rfl, ?_⟩, ?_⟩ | refine Lx ?_)))
    all_goals (first | (rfl) | exact Ld)
  obtain ⟨k, hk⟩ := k
  simp only
  by_cases hlt : k < j
  · obtain ⟨u, hu⟩ : ∃ u, ws[k]? = some u := ⟨ws[k]'(by omega), List.getElem?_eq_getElem (by omega)⟩
    obtain ⟨h1, h2⟩ := hb k u hlt hu
    have hrow := stR_getI hu
    have hN := readNumber_ac u (hel u (List.mem_of_getElem? hu))
    have hT := trim_ac u
    have htk : nsW (ws.take (k + 1)) = nsW (ws.take k) ++ [(rdN u).1] := by rw [List.take_add_one, hu]; exact nsW_snoc _ _
    have hol : (IR (nsW (ws.take k))).length = (nsW (ws.take k)).length := IR_len
    have hnl : (nsW (ws.take k)).length ≤ 2000001 := by rw [nsW_len, List.length_take]; omega
    rw [h1] at hN
    generalize (rdN u).1 = x at *
    generalize trm u = tu at *
    repeat' (first | ((first | apply Ba | (apply Bb; (· rfl); (· rfl)) | (apply Bc; (· exact nxE)) | (apply Bd; (· rfl); (· rfl); (· exact nxE))); (· first | exact Kz rfl rfl (hN) (Ad An) | exact Kz rfl rfl (hT) (Ad (Ad An)) | exact Ok.slen rfl rfl | exact Ok.append1 (row := [DI x]) rfl rfl (by decide) rfl rfl hol rfl rfl rfl (by rfl) (by omega) (by omega) | exact Ok.pe)) | ((first | apply Ca | (apply Cb; (· exact nxE))); (· first | exact Ok.append1 (row := [DI x]) rfl rfl (by decide) rfl rfl hol rfl rfl rfl (by rfl) (by omega) (by omega) | exact Ok.e0)) | refine Sx ?_ | (refine Sy (fun h => ?_) (fun h => ?_) <;> try (exfalso; omega; done)) | refine Sz (fun h => ?_) (fun h => ?_))
    refine ⟨⟨k + 1, by omega⟩, ?_, by simp only; omega⟩
    (apply Le.headZ [_] rfl)
    all_goals (try dsimp only [srcs])
    (case' hfr | hob => (repeat' (first | refine La ?_ ?_ | exact Lc | refine Lo ?_ | refine ⟨⟨_, rfl, ?_⟩, ?_⟩ | refine Lx ?_)))
    all_goals (first | ((first | (rw [htk, List.length_append, List.length_singleton]; done) | (rw [htk]; simp [IR]; done) | (rw [htk]; simp; done))) | exact Ld)
  · obtain rfl : k = j := by omega
    have hrow := stR_getI hj
    have hN := readNumber_ac v (hel v (List.mem_of_getElem? hj))
    have hT := trim_ac v
    have hnl : (nsW (ws.take k)).length ≤ 2000001 := by rw [nsW_len, List.length_take]; omega
    generalize rdN v = q at *
    obtain ⟨x, b⟩ := q
    simp only at hN hv
    generalize trm v = tu at *
    cases b with
    | false =>
      repeat' (first | ((first | apply Ba | (apply Bb; (· rfl); (· rfl)) | (apply Bc; (· exact nxE)) | (apply Bd; (· rfl); (· rfl); (· exact nxE))); (· first | exact Kz rfl rfl (hN) (Ad An) | exact Ok.slen rfl rfl | exact Ok.pe)) | ((first | apply Ca | (apply Cb; (· exact nxE))); (· first | exact Ok.e0)) | refine Sx ?_ | (refine Sy (fun h => ?_) (fun h => ?_) <;> try (exfalso; omega; done)) | refine Sz (fun h => ?_) (fun h => ?_))
      all_goals
        refine Yc ?_
        (apply Le.headZ (hs := []) [] rfl)
        all_goals (try dsimp only [srcs])
        (case' hfr => (repeat' (first | refine La ?_ ?_ | exact Lc | refine Lo ?_ | refine ⟨⟨_, rfl, ?_⟩, ?_⟩ | refine Lx ?_)))
        all_goals (first | exact Ld | exact trivial | (rfl))
    | true =>
      have hv2 : ¬tu.length ≤ 10 := fun h => hv ⟨rfl, h⟩
      repeat' (first | ((first | apply Ba | (apply Bb; (· rfl); (· rfl)) | (apply Bc; (· exact nxE)) | (apply Bd; (· rfl); (· rfl); (· exact nxE))); (· first | exact Kz rfl rfl (hN) (Ad An) | exact Kz rfl rfl (hT) (Ad (Ad An)) | exact Ok.slen rfl rfl | exact Ok.pe)) | ((first | apply Ca | (apply Cb; (· exact nxE))); (· first | exact Ok.e0)) | refine Sx ?_ | (refine Sy (fun h => ?_) (fun h => ?_) <;> try (exfalso; omega; done)) | refine Sz (fun h => ?_) (fun h => ?_))
      all_goals
        refine Yc ?_
        (apply Le.headZ (hs := []) [] rfl)
        all_goals (try dsimp only [srcs])
        (case' hfr => (repeat' (first | refine La ?_ ?_ | exact Lc | refine Lo ?_ | refine ⟨⟨_, rfl, ?_⟩, ?_⟩ | refine Lx ?_)))
        all_goals (first | exact Ld | exact trivial | (rfl))
set_option maxHeartbeats 4000000 in
theorem readC_ok [Mode] [HasTab] [HasErr] [HasLen] (s w r : List UInt8) (n : Int) (hn : 1 ≤ n ∧ n ≤ 3) (hr : r.length ≤ 2000000) (hb : ∀ (i : Nat) u, (spl 32 r)[i]? = some u → (rdN u).2 = true ∧ (trm u).length ≤ 10)
    (hCt : AC Tryd.prog 37 [Str s, Str [32]] H0 (.tup [Str w, Str r, Bo true]) H0) (hF : AC Tryd.prog 54 [Str w] H0 (I n) H0) :
    AC Tryd.prog 23 [Str s] H0 (.tup [Str [], own1 1 (nsW (spl 32 r)).length, Bo (decide (((spl 32 r).length : Int) = n))]) (hp1 (IO (nsW (spl 32 r)))) := by
  have hS := isplit_data r 32 (by omega)
  have hwn : (stR (spl 32 r)).length = (spl 32 r).length := stR_len _
  have hwl : (spl 32 r).length ≤ 2000001 := by
    have h2 := stS_len 32 r (r.length + 1)
    rw [stS_end] at h2
    omega
  have hel : ∀ u ∈ spl 32 r, u.length ≤ 100000000 := fun u hu => by have := spl_mem_len hu; omega
  generalize spl 32 r = ws at *
  refine AC.of_body 0 Tryd.func23 rfl (fun l h => absurd rfl h) (fun C hC => ?_)
  have hD : ∀ l, ¬ C.D0 l := fun l h => (hC l).1 h rfl
  simp only [startFr, Tryd.ntmps23, List.length_cons, List.length_nil, Nat.reduceAdd, Nat.reduceSub, List.replicate_succ, List.replicate_zero, List.cons_append, List.nil_append]
  repeat' (first | ((first | apply Ba | (apply Bb; (· rfl); (· rfl)) | (apply Bc; (· exact nxE)) | (apply Bd; (· rfl); (· rfl); (· exact nxE))); (· first | exact Kz rfl rfl (hCt) (Ad (Ad An)) | exact Kz rfl rfl (hF) (Ad An) | exact Kz rfl rfl (hS) (Ad (Ad An)) | exact Ok.lenD rfl rfl hwn | exact Ok.slen rfl rfl | exact Ok.pe)) | ((first | apply Ca | (apply Cb; (· exact nxE))); (· first | exact Ok.e0)) | refine Sx ?_ | (refine Sy (fun h => ?_) (fun h => ?_) <;> try (exfalso; omega; done)) | refine Sz (fun h => ?_) (fun h => ?_))
  refine AW.loop (X := {k : Nat // k ≤ ws.length}) (fun k => ⟨[Oo, Oo, Oo, Oo, Oo, Oo, Oo, Oo, I n, SL ws, .own 1 ⟨0, []⟩ 0 (nsW (ws.take (k.1 : Nat))).length, Oo, Oo, Oo, Oo, Oo, Oo, Oo, Oo, Oo, Oo, Oo, Oo, Oo, Oo, SL ws, I ws.length, I (k.1 : Nat), Oo, Oo, Oo, Oo, Oo, Oo, Oo, Oo, Oo, Oo, Oo, Oo, Oo, Oo, Oo, Oo, Oo, Oo, Oo, Oo, Oo, Oo, Oo, Oo, Oo, Oo, Oo, Oo, Oo, Oo, Oo, Oo, Oo, Oo, Oo, Oo, Oo, Oo, Oo, Oo, Oo, Oo, Oo, Oo, Oo, Oo, Oo], heapL [(⟨0, []⟩, ⟨0, []⟩, IO (nsW (ws.take k.1)))], 900⟩) (fun k => ws.length - k.1) ⟨0, Nat.zero_le _⟩ ?_ (fun k => ?_)
  ·
    refine (Le.nil 10 1 rfl).trans ?_
    simp only [List.set_cons_succ, List.set_cons_zero]
    (apply Le.headZ [_] rfl)
    all_goals (try dsimp only [srcs])
    (case' hfr | hob => (repeat' (first | refine La ?_ ?_ | exact Lc | refine Lo ?_ | refine ⟨⟨_, rfl, ?_⟩, ?_⟩ | refine Lx ?_)))
    all_goals (first | (rfl) | exact Ld)
  obtain ⟨k, hk⟩ := k
  simp only
  by_cases hlt : k < ws.length
  · obtain ⟨u, hu⟩ : ∃ u, ws[k]? = some u := ⟨ws[k]'(by omega), List.getElem?_eq_getElem (by omega)⟩
    obtain ⟨h1, h2⟩ := hb k u hu
    have hrow := stR_getI hu
    have hN := readNumber_ac u (hel u (List.mem_of_getElem? hu))
    have hT := trim_ac u
    have htk : nsW (ws.take (k + 1)) = nsW (ws.take k) ++ [(rdN u).1] := by rw [List.take_add_one, hu]; exact nsW_snoc _ _
    have hol : (IR (nsW (ws.take k))).length = (nsW (ws.take k)).length := IR_len
    have hnl : (nsW (ws.take k)).length ≤ 2000001 := by rw [nsW_len, List.length_take]; omega
    rw [h1] at hN
    generalize (rdN u).1 = x at *
    generalize trm u = tu at *
    repeat' (first | ((first | apply Ba | (apply Bb; (· rfl); (· rfl)) | (apply Bc; (· exact nxE)) | (apply Bd; (· rfl); (· rfl); (· exact nxE))); (· first | exact Kz rfl rfl (hN) (Ad An) | exact Kz rfl rfl (hT) (Ad (Ad An)) | exact Ok.slen rfl rfl | exact Ok.append1 (row := [DI x]) rfl rfl (by decide) rfl rfl hol rfl rfl rfl (by rfl) (by omega) (by omega) | exact Ok.pe)) | ((first | apply Ca | (apply Cb; (· exact nxE))); (· first | exact Ok.append1 (row := [DI x]) rfl rfl (by decide) rfl rfl hol rfl rfl rfl (by rfl) (by omega) (by omega) | exact Ok.e0)) | refine Sx ?_ | (refine Sy (fun h => ?_) (fun h => ?_) <;> try (exfalso; omega; done)) | refine Sz (fun h => ?_) (fun h => ?_))
    refine ⟨⟨k + 1, by omega⟩, ?_, by simp only; omega⟩
    (apply Le.headZ [_] rfl)
    all_goals (try dsimp only [srcs])
    (case' hfr | hob => (repeat' (first | refine La ?_ ?_ | exact Lc | refine Lo ?_ | refine ⟨⟨_, rfl, ?_⟩, ?_⟩ | refine Lx ?_)))
    all_goals (first | ((first | (rw [htk, List.length_append, List.length_singleton]; done) | (rw [htk]; simp [IR]; done) | (rw [htk]; simp; done))) | exact Ld)
  · obtain rfl : k = ws.length := by omega
    rw [List.take_length]
    repeat' (first | ((first | apply Ba | (apply Bb; (· rfl); (· rfl)) | (apply Bc; (· exact nxE)) | (apply Bd; (· rfl); (· rfl); (· exact nxE))); (· first | exact Ok.lenD rfl rfl hwn | exact Ok.slen rfl rfl | exact Ok.pe)) | ((first | apply Ca | (apply Cb; (· exact nxE))); (· first | exact Ok.e0)) | refine Sx ?_ | (refine Sy (fun h => ?_) (fun h => ?_) <;> try (exfalso; omega; done)) | refine Sz (fun h => ?_) (fun h => ?_))
    all_goals
      refine Yc ?_
      (apply Le.head [(⟨0, []⟩, _, _)])
      (case' hfr | hob => (repeat' (first | refine La ?_ ?_ | exact Lc | refine Lo ?_ | refine ⟨⟨_, rfl, ?_⟩, ?_⟩ | refine Lx ?_)))
      all_goals (first | exact Ld | (rfl))
end Go.Proofs.YtofakjlamoigcaaDoor
