/-
  Walks in the abstract reading: texts split, numbers read, by the reference.
-/
import Derived.Test.YtofakjlamoigcaaDoorKdS2
import Derived.Test.YtofakjlamoigcaaDoorKdC1
namespace Go.Proofs.YtofakjlamoigcaaDoor
set_option linter.unusedSimpArgs false
set_option linter.unusedVariables false
open Go Go.RowKit
attribute [local irreducible] AL AD AW OpOk Le AC thenQ blockQ EndQ

abbrev SL (ss : List (List UInt8)) : AV := .d (.sl 1 (stR ss))
abbrev SO (ss : List (List UInt8)) : AObj := dobj 1 (stR ss)
theorem stR_app [Mode] (a b : List (List UInt8)) : stR (a ++ b) = stR a ++ stR b := by simp [stR]
theorem stR_get [Mode] {ss : List (List UInt8)} {i : Nat} {s : List UInt8} (h : ss[i]? = some s) : (stR ss)[i]? = some [StrD s] := by simp [stR, h]
theorem stR_getI [Mode] {ss : List (List UInt8)} {i : Nat} {s : List UInt8} (h : ss[i]? = some s) : (stR ss)[((i : Nat) : Int).toNat]? = some [StrD s] := by rw [Int.toNat_natCast]; exact stR_get h
set_option maxHeartbeats 2000000 in
theorem l01Split_ac [Mode] (l : List UInt8) (c : UInt8) (hl : l.length ≤ 100000000) : AC Tryd.prog 42 [Str l, Byt c] H0 (own1 1 (spl c l).length) (hp1 (SO (spl c l))) := by
  rw [← stS_end]
  refine AC.of_body 0 Tryd.func42 rfl (fun l h => absurd rfl h) (fun C hC => ?_)
  have hD : ∀ l, ¬ C.D0 l := fun l h => (hC l).1 h rfl
  simp only [startFr, Tryd.ntmps42, List.length_cons, List.length_nil, Nat.reduceAdd, Nat.reduceSub, List.replicate_succ, List.replicate_zero, List.cons_append, List.nil_append]
  repeat' (first | ((first | apply Ba | (apply Bb; (· rfl); (· rfl)) | (apply Bc; (· exact nxE)) | (apply Bd; (· rfl); (· rfl); (· exact nxE))); (· first | exact Ok.seqS rfl rfl rfl | exact Ok.sneS rfl rfl rfl | exact Ok.slen rfl rfl | exact Ok.pe)) | ((first | apply Ca | (apply Cb; (· exact nxE))); (· first | exact Ok.e0)) | refine Sx ?_ | (refine Sy (fun h => ?_) (fun h => ?_) <;> try (exfalso; omega; done)) | refine Sz (fun h => ?_) (fun h => ?_))
  refine AW.loop (X := {k : Nat // k ≤ l.length + 1}) (fun k => ⟨[Str l, Byt c, Oo, Oo, Oo, .own 1 ⟨0, []⟩ 0 (stS c l (k.1 : Nat)).2.length, I ((stS c l (k.1 : Nat)).1 : Nat), I (k.1 : Nat), Oo, Oo, Oo, Oo, Oo, Oo, Oo, Oo, Oo, Oo, Oo, Oo, Oo, Oo, Oo, Oo, Oo, Oo, Oo, Oo, Oo, Oo, Oo, Oo, Oo, Oo, Oo, Oo], heapL [(⟨0, []⟩, ⟨0, []⟩, SO (stS c l k.1).2)], 900⟩) (fun k => l.length + 1 - k.1) ⟨0, Nat.zero_le _⟩ ?_ (fun k => ?_)
  ·
    (apply Le.headZ [_] rfl)
    all_goals (try dsimp only [srcs])
    (case' hfr | hob => (repeat' (first | refine La ?_ ?_ | exact Lc | refine Lo ?_ | refine ⟨⟨_, rfl, ?_⟩, ?_⟩ | refine Lx ?_)))
    all_goals (first | (rfl) | exact Ld)
  obtain ⟨k, hk⟩ := k
  simp only
  have hle := stS_le c l k
  have hsl := stS_len c l k
  have hol : (stR (stS c l k).2).length = (stS c l k).2.length := stR_len _
  by_cases hlt : k < l.length + 1
  · by_cases hkl : k = l.length
    · have hs : stS c l (k + 1) = (k + 1, (stS c l k).2 ++ [(l.drop (stS c l k).1).take (k - (stS c l k).1)]) := by rw [stS, if_pos (.inl hkl)]
      repeat' (first | ((first | apply Ba | (apply Bb; (· rfl); (· rfl)) | (apply Bc; (· exact nxE)) | (apply Bd; (· rfl); (· rfl); (· exact nxE))); (· first | exact Ok.sBoth rfl rfl rfl rfl rfl rfl (by omega) (by omega) | exact Ok.seqS rfl rfl rfl | exact Ok.sneS rfl rfl rfl | exact Ok.slen rfl rfl | exact Ok.append1 (row := [StrD ((l.drop (stS c l k).1).take (k - (stS c l k).1))]) rfl rfl (by decide) rfl rfl hol rfl rfl rfl (by rfl) (by omega) (by omega) | exact Ok.pe)) | ((first | apply Ca | (apply Cb; (· exact nxE))); (· first | exact Ok.append1 (row := [StrD ((l.drop (stS c l k).1).take (k - (stS c l k).1))]) rfl rfl (by decide) rfl rfl hol rfl rfl rfl (by rfl) (by omega) (by omega) | exact Ok.e0)) | refine Sx ?_ | (refine Sy (fun h => ?_) (fun h => ?_) <;> try (exfalso; omega; done)) | refine Sz (fun h => ?_) (fun h => ?_))
      refine ⟨⟨k + 1, by omega⟩, ?_, by simp only; omega⟩
      (apply Le.headZ [_] rfl)
      all_goals (try dsimp only [srcs])
      (case' hfr | hob => (repeat' (first | refine La ?_ ?_ | exact Lc | refine Lo ?_ | refine ⟨⟨_, rfl, ?_⟩, ?_⟩ | refine Lx ?_)))
      all_goals (first | ((first | (rw [hs, List.length_append, List.length_singleton]; done) | (rw [hs]; rfl) | (rw [hs, stR_app]; rfl))) | exact Ld)
    · obtain ⟨x, hx⟩ : ∃ x, l[k]? = some x := ⟨l[k], List.getElem?_eq_getElem (by omega)⟩
      have hx' : l[((k : Nat) : Int).toNat]? = some x := by rw [Int.toNat_natCast]; exact hx
      by_cases hc : x = c
      · have hs : stS c l (k + 1) = (k + 1, (stS c l k).2 ++ [(l.drop (stS c l k).1).take (k - (stS c l k).1)]) := by rw [stS, if_pos (.inr (by rw [hx, hc]))]
        subst hc
        repeat' (first | ((first | apply Ba | (apply Bb; (· rfl); (· rfl)) | (apply Bc; (· exact nxE)) | (apply Bd; (· rfl); (· rfl); (· exact nxE))); (· first | exact Ok.sidx rfl rfl rfl (by omega) hx' | exact Ok.sBoth rfl rfl rfl rfl rfl rfl (by omega) (by omega) | exact Ok.seqS rfl rfl rfl | exact Ok.sneS rfl rfl rfl | exact Ok.slen rfl rfl | exact Ok.append1 (row := [StrD ((l.drop (stS x l k).1).take (k - (stS x l k).1))]) rfl rfl (by decide) rfl rfl hol rfl rfl rfl (by rfl) (by omega) (by omega) | exact Ok.pe)) | ((first | apply Ca | (apply Cb; (· exact nxE))); (· first | exact Ok.append1 (row := [StrD ((l.drop (stS x l k).1).take (k - (stS x l k).1))]) rfl rfl (by decide) rfl rfl hol rfl rfl rfl (by rfl) (by omega) (by omega) | exact Ok.e0)) | refine Sx ?_ | (refine Sy (fun h => ?_) (fun h => ?_) <;> try (exfalso; omega; done)) | refine Sz (fun h => ?_) (fun h => ?_))
        refine ⟨⟨k + 1, by omega⟩, ?_, by simp only; omega⟩
        (apply Le.headZ [_] rfl)
        all_goals (try dsimp only [srcs])
        (case' hfr | hob => (repeat' (first | refine La ?_ ?_ | exact Lc | refine Lo ?_ | refine ⟨⟨_, rfl, ?_⟩, ?_⟩ | refine Lx ?_)))
        all_goals (first | ((first | (rw [hs, List.length_append, List.length_singleton]; done) | (rw [hs]; rfl) | (rw [hs, stR_app]; rfl))) | exact Ld)
      · have hs : stS c l (k + 1) = stS c l k := by rw [stS, if_neg (by rw [hx]; simp [hc]; exact hkl)]
        have hne : ¬ ((x.toNat : Int) = c.toNat) := fun e => hc (UInt8.toNat_inj.1 (by omega))
        repeat' (first | ((first | apply Ba | (apply Bb; (· rfl); (· rfl)) | (apply Bc; (· exact nxE)) | (apply Bd; (· rfl); (· rfl); (· exact nxE))); (· first | exact Ok.sidx rfl rfl rfl (by omega) hx' | exact Ok.seqS rfl rfl rfl | exact Ok.sneS rfl rfl rfl | exact Ok.slen rfl rfl | exact Ok.pe)) | ((first | apply Ca | (apply Cb; (· exact nxE))); (· first | exact Ok.e0)) | refine Sx ?_ | (refine Sy (fun h => ?_) (fun h => ?_) <;> try (exfalso; omega; done)) | refine Sz (fun h => ?_) (fun h => ?_))
        refine ⟨⟨k + 1, by omega⟩, ?_, by simp only; omega⟩
        (apply Le.headZ [_] rfl)
        all_goals (try dsimp only [srcs])
        (case' hfr | hob => (repeat' (first | refine La ?_ ?_ | exact Lc | refine Lo ?_ | refine ⟨⟨_, rfl, ?_⟩, ?_⟩ | refine Lx ?_)))
        all_goals (first | ((rw [hs]; done)) | exact Ld)
  ·
    obtain rfl : k = l.length + 1 := by omega
    repeat' (first | ((first | apply Ba | (apply Bb; (· rfl); (· rfl)) | (apply Bc; (· exact nxE)) | (apply Bd; (· rfl); (· rfl); (· exact nxE))); (· first | exact Ok.seqS rfl rfl rfl | exact Ok.sneS rfl rfl rfl | exact Ok.slen rfl rfl | exact Ok.pe)) | ((first | apply Ca | (apply Cb; (· exact nxE))); (· first | exact Ok.e0)) | refine Sx ?_ | (refine Sy (fun h => ?_) (fun h => ?_) <;> try (exfalso; omega; done)) | refine Sz (fun h => ?_) (fun h => ?_))
    refine Ya ?_
    (apply Le.head [(⟨0, []⟩, _, _)])
    (case' hfr | hob => (repeat' (first | refine La ?_ ?_ | exact Lc | refine Lo ?_ | refine ⟨⟨_, rfl, ?_⟩, ?_⟩ | refine Lx ?_)))
    all_goals (first | exact Ld | (rfl))
end Go.Proofs.YtofakjlamoigcaaDoor
