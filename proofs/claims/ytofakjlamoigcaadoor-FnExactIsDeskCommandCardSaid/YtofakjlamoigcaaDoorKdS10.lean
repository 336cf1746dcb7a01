/-
  Walks in the abstract reading: a trace recovered, by the reference.
-/
import Derived.Test.YtofakjlamoigcaaDoorKdS9
import Derived.Test.YtofakjlamoigcaaDoorKdA3
namespace Go.Proofs.YtofakjlamoigcaaDoor
set_option linter.unusedSimpArgs false
set_option linter.unusedVariables false
open Go Go.RowKit
attribute [local irreducible] AL AD AW OpOk Le AC thenQ blockQ EndQ

abbrev nilV : AV := .d (.v (.slice none 0 0))
theorem splP_mem_len [Mode] {c : UInt8} : ∀ {l p w : List UInt8}, w ∈ splP c p l → w.length ≤ p.length + l.length
  | [], p, w, h => by simp only [splP, List.mem_singleton] at h; rw [h]; simp
  | x :: l, p, w, h => by
    rw [splP] at h
    split at h
    · rcases List.mem_cons.1 h with rfl | h
      · omega
      · have := splP_mem_len h
        simp only [List.length_nil, List.length_cons] at *
        omega
    · have := splP_mem_len h
      simp only [List.length_append, List.length_cons, List.length_nil] at *
      omega
theorem spl_mem_len [Mode] {c : UInt8} {l w : List UInt8} (h : w ∈ spl c l) : w.length ≤ l.length := by
  have := splP_mem_len h
  simpa using this
set_option maxHeartbeats 2000000 in
theorem l01Numbers_no [Mode] (ws : List (List UInt8)) (j : Nat) (v : List UInt8) (hw : ws.length ≤ 2000000) (hl : ∀ w ∈ ws, w.length ≤ 100000000) (hj : ws[j]? = some v) (hv : (sgN v).2 = false) (h : ∀ (i : Nat) w, i < j → ws[i]? = some w → (sgN w).2 = true) : AC Tryd.prog 53 [SL ws] H0 (.tup [nilV, Bo false]) H0 := by
  have hjl := (List.getElem?_eq_some_iff.1 hj).1
  refine AC.of_body 0 Tryd.func53 rfl (fun l h => absurd rfl h) (fun C hC => ?_)
  have hD : ∀ l, ¬ C.D0 l := fun l h => (hC l).1 h rfl
  simp only [startFr, Tryd.ntmps53, List.length_cons, List.length_nil, Nat.reduceAdd, Nat.reduceSub, List.replicate_succ, List.replicate_zero, List.cons_append, List.nil_append]
  repeat' (first | ((first | apply Ba | (apply Bb; (· rfl); (· rfl)) | (apply Bc; (· exact nxE)) | (apply Bd; (· rfl); (· rfl); (· exact nxE))); (· first | exact Ok.lenD rfl rfl (stR_len ws) | exact Ok.seqS rfl rfl rfl | exact Ok.sneS rfl rfl rfl | exact Ok.slen rfl rfl | exact OpOk.indexD rfl rfl rfl (by decide) rfl (by exact Nat.zero_lt_one) | exact Ok.pe)) | ((first | apply Ca | (apply Cb; (· exact nxE))); (· first | exact Ok.e0)) | refine Sx ?_ | (refine Sy (fun h => ?_) (fun h => ?_) <;> try (exfalso; omega; done)) | refine Sz (fun h => ?_) (fun h => ?_))
  refine AW.loop (X := {k : Nat // k ≤ j}) (fun k => ⟨[SL ws, Oo, Oo, Oo, .own 1 ⟨0, []⟩ 0 (k.1 : Nat), I (k.1 : Nat), Oo, Oo, Oo, Oo, Oo, Oo, Oo, Oo, Oo, Oo, Oo, Oo, Oo, Oo, Oo, Oo, Oo, Oo, Oo, Oo, Oo, Oo, Oo, Oo], heapL [(⟨0, []⟩, ⟨0, []⟩, IO ((ws.take k.1).map fun w => (sgN w).1))], 900⟩) (fun k => j - k.1) ⟨0, Nat.zero_le _⟩ ?_ (fun k => ?_)
  ·
    (apply Le.headZ [_] rfl)
    all_goals (try dsimp only [srcs])
    (case' hfr | hob => (repeat' (first | refine La ?_ ?_ | exact Lc | refine Lo ?_ | refine ⟨⟨_, rfl, ?_⟩, ?_⟩ | refine Lx ?_)))
    all_goals (first | (rfl) | exact Ld)
  obtain ⟨k, hk⟩ := k
  simp only
  by_cases hlt : k < j
  · obtain ⟨w, hx⟩ : ∃ w, ws[k]? = some w := ⟨ws[k], List.getElem?_eq_getElem (by omega)⟩
    have hrow := stR_getI hx
    have hmem := List.mem_of_getElem? hx
    have hS := l01Signed_ac w (hl w hmem)
    rw [h k w hlt hx] at hS
    have hol : (IR ((ws.take k).map fun w => (sgN w).1)).length = k := by rw [IR_len, List.length_map, List.length_take]; omega
    have htk : (ws.take (k + 1)).map (fun w => (sgN w).1) = (ws.take k).map (fun w => (sgN w).1) ++ [(sgN w).1] := by rw [List.take_add_one, hx]; simp
    generalize (sgN w).1 = q at *
    repeat' (first | ((first | apply Ba | (apply Bb; (· rfl); (· rfl)) | (apply Bc; (· exact nxE)) | (apply Bd; (· rfl); (· rfl); (· exact nxE))); (· first | exact Ok.lenD rfl rfl (stR_len ws) | exact Kz rfl rfl (hS) (Ad An) | exact Ok.seqS rfl rfl rfl | exact Ok.sneS rfl rfl rfl | exact Ok.slen rfl rfl | exact OpOk.indexD rfl rfl rfl (by decide) rfl (by exact Nat.zero_lt_one) | exact Ok.append1 (row := [DI q]) rfl rfl (by decide) rfl rfl hol rfl rfl rfl (by rfl) (by omega) (by omega) | exact Ok.pe)) | ((first | apply Ca | (apply Cb; (· exact nxE))); (· first | exact Ok.append1 (row := [DI q]) rfl rfl (by decide) rfl rfl hol rfl rfl rfl (by rfl) (by omega) (by omega) | exact Ok.e0)) | refine Sx ?_ | (refine Sy (fun h => ?_) (fun h => ?_) <;> try (exfalso; omega; done)) | refine Sz (fun h => ?_) (fun h => ?_))
    refine ⟨⟨k + 1, by omega⟩, ?_, by simp only; omega⟩
    (apply Le.headZ [_] rfl)
    all_goals (try dsimp only [srcs])
    (case' hfr | hob => (repeat' (first | refine La ?_ ?_ | exact Lc | refine Lo ?_ | refine ⟨⟨_, rfl, ?_⟩, ?_⟩ | refine Lx ?_)))
    all_goals (first | ((first | (rw [htk, IR_app]; done) | (rw [htk]; simp; done))) | exact Ld)
  ·
    obtain rfl : k = j := by omega
    have hrow := stR_getI hj
    have hS := l01Signed_ac v (hl v (List.mem_of_getElem? hj))
    rw [hv] at hS
    repeat' (first | ((first | apply Ba | (apply Bb; (· rfl); (· rfl)) | (apply Bc; (· exact nxE)) | (apply Bd; (· rfl); (· rfl); (· exact nxE))); (· first | exact Ok.lenD rfl rfl (stR_len ws) | exact Kz rfl rfl (hS) (Ad An) | exact Ok.seqS rfl rfl rfl | exact Ok.sneS rfl rfl rfl | exact Ok.slen rfl rfl | exact OpOk.indexD rfl rfl rfl (by decide) rfl (by exact Nat.zero_lt_one) | exact Ok.pe)) | ((first | apply Ca | (apply Cb; (· exact nxE))); (· first | exact Ok.e0)) | refine Sx ?_ | (refine Sy (fun h => ?_) (fun h => ?_) <;> try (exfalso; omega; done)) | refine Sz (fun h => ?_) (fun h => ?_))
    refine Yb ?_
    (apply Le.headZ (hs := []) [] rfl)
    all_goals (try dsimp only [srcs])
    (case' hfr => (repeat' (first | refine La ?_ ?_ | exact Lc | refine Lo ?_ | refine ⟨⟨_, rfl, ?_⟩, ?_⟩ | refine Lx ?_)))
    all_goals (first | exact Ld | exact trivial | (rfl))
theorem numbers_frz [Mode] {ws : List (List UInt8)} {ns : List Int} (hw : ws.length ≤ 2000000) (hl : ∀ w ∈ ws, w.length ≤ 100000000) (h : ∀ w ∈ ws, (sgN w).2 = true) (he : ws.map (fun w => (sgN w).1) = ns) : AC Tryd.prog 53 [SL ws] H0 (.tup [IL ns, Bo true]) H0 := by
  subst he
  exact (l01Numbers_yes ws hw hl h).frz (ARs.tup (.cons (AR.whole rfl trivial (by rw [IR_len, List.length_map])) (.cons (.dd _) .nil)))
theorem split_frz [Mode] (l : List UInt8) (c : UInt8) (hl : l.length ≤ 100000000) : AC Tryd.prog 42 [Str l, Byt c] H0 (SL (spl c l)) H0 :=
  (l01Split_ac l c hl).frz (AR.whole rfl trivial (stR_len _))
/-- Either all words are numbers, or there is a first one that is none. -/
theorem words_or [Mode] (ws : List (List UInt8)) : (∀ w ∈ ws, (sgN w).2 = true) ∨ ∃ j v, ws[j]? = some v ∧ (sgN v).2 = false ∧ ∀ (i : Nat) w, i < j → ws[i]? = some w → (sgN w).2 = true := by
  induction ws with
  | nil => exact .inl (by simp)
  | cons w ws ih =>
    cases hw : (sgN w).2 with
    | false => exact .inr ⟨0, w, rfl, hw, fun i w hi => by omega⟩
    | true =>
      rcases ih with h | ⟨j, v, h1, h2, h3⟩
      · exact .inl fun x hx => by rcases List.mem_cons.1 hx with rfl | hx; (· exact hw); (· exact h x hx)
      · refine .inr ⟨j + 1, v, by simpa using h1, h2, fun i x hi hx => ?_⟩
        cases i with
        | zero => simp at hx; subst hx; exact hw
        | succ i => exact h3 i x (by omega) (by simpa using hx)
end Go.Proofs.YtofakjlamoigcaaDoor
