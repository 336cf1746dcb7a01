/-
  Walks in the abstract reading: numerals, and the text of an edit by both sides.
-/
import Derived.Test.YtofakjlamoigcaaDoorKdS0
import Derived.Test.YtofakjlamoigcaaDoorKdB1
import Derived.Test.YtofakjlamoigcaaDoorKdA2
namespace Go.Proofs.YtofakjlamoigcaaDoor
set_option linter.unusedSimpArgs false
set_option linter.unusedVariables false
open Go Go.RowKit
attribute [local irreducible] AL AD AW OpOk Le AC thenQ blockQ EndQ

theorem u8w [Mode] {a : Int} (h0 : 0 ≤ a) (h1 : a < 256) : IntKind.u8.wrap a = ((UInt8.ofNat a.toNat).toNat : Int) := by
  rw [UInt8.toNat_ofNat']
  unfold IntKind.wrap
  simp [IntKind.signed, IntKind.bits]
  omega
section
variable {P : Program} {o : Oper} {A : Operand → AV} {H : Heap} {new : Nat} {t t' : TypeId} {x : Operand}
theorem Ok.toByt [Mode] {a : Int} {k : IntKind} (ho : o.op = .convert t t' x) (hx : A x = .d (.v (.int k a))) (hu : P.underlying t' = some (.int .u8)) (hs : (P.underlying t).isSome = true) (h0 : 0 ≤ a) (h1 : a < 256) : OpOk P o A [] H new (Byt (UInt8.ofNat a.toNat)) [] :=
  Ok.convII ho hx hu hs (u8w h0 h1)
theorem Ok.strOf1 [Mode] {src e : TypeId} {l : Loc} {c : UInt8} (ho : o.op = .convert src t x) (hx : A x = .own 1 l 0 1) (hl : H l = some ⟨1, [[Byt c]]⟩) {b : Nat} {z : Value} [hs : TySlice P src e 1 b z] [hd : TyString P t] (he : P.underlying e = some (.int .u8)) : OpOk P o A [l] H new (Str [c]) [] :=
  Ok.strOf (a := [c]) ho hx hl rfl he
end
theorem tdiv_nat [Mode] (n : Nat) : (n : Int).tdiv 10 = ((n / 10 : Nat) : Int) := by
  rw [Int.tdiv_eq_ediv_of_nonneg (by omega)]; omega
theorem tmod_nat [Mode] (n : Nat) : (n : Int).tmod 10 = ((n % 10 : Nat) : Int) := by
  rw [Int.tmod_eq_emod_of_nonneg (by omega)]; omega
theorem dec_len [Mode] (n : Nat) (h : n ≤ 9223372036854775807) : (dec n).length ≤ 19 := dec_len_le 18 n (by omega)
set_option maxHeartbeats 1000000 in
theorem l01Dec_ac [Mode] (n : Nat) (hn : n ≤ 9223372036854775807) : AC Tryd.prog 48 [I n] H0 (Str (dec n)) H0 := by
  induction n using Nat.strongRecOn with
  | ind n ih =>
  by_cases hs : n < 10
  ·
    refine AC.of_body 0 Tryd.func48 rfl (fun l h => absurd rfl h) (fun C hC => ?_)
    have hD : ∀ l, ¬ C.D0 l := fun l h => (hC l).1 h rfl
    simp only [startFr, Tryd.ntmps48, List.length_cons, List.length_nil, Nat.reduceAdd, Nat.reduceSub, List.replicate_succ, List.replicate_zero, List.cons_append, List.nil_append]
    repeat' (first | ((first | apply Ba | (apply Bb; (· rfl); (· rfl)) | (apply Bc; (· exact nxE)) | (apply Bd; (· rfl); (· rfl); (· exact nxE))); (· first | exact Ok.strOf1 rfl rfl rfl Tryd.underlying5 | exact Ok.toByt rfl rfl Tryd.underlying5 (by rw [Tryd.underlying2]; rfl) (by omega) (by omega) | exact Ok.seqS rfl rfl rfl | exact Ok.sneS rfl rfl rfl | exact Ok.slen rfl rfl | exact Ok.sjoin rfl rfl rfl (by simp only [List.length_append, List.length_cons, List.length_nil]; omega) | exact Ok.pe)) | ((first | apply Ca | (apply Cb; (· exact nxE))); (· first | exact Ok.e0)) | refine Sx ?_ | (refine Sy (fun h => ?_) (fun h => ?_) <;> try (exfalso; omega; done)) | refine Sz (fun h => ?_) (fun h => ?_))
    refine Ya ?_
    (apply Le.headZ (hs := []) [] rfl)
    all_goals (try dsimp only [srcs])
    (case' hfr => (repeat' (first | refine La ?_ ?_ | exact Lc | refine Lo ?_ | refine ⟨⟨_, rfl, ?_⟩, ?_⟩ | refine Lx ?_)))
    all_goals (first | exact Ld | exact trivial | ((rw [dec_small hs]; rfl)))
  · have h2 : (dec (n / 10)).length ≤ 19 := dec_len _ (by omega)
    have h3 := ih (n / 10) (by omega) (by omega)
    rw [← tdiv_nat] at h3
    have h5 := tmod_nat n
    have h6 : n % 10 < 10 := Nat.mod_lt _ (by decide)
    refine AC.of_body 0 Tryd.func48 rfl (fun l h => absurd rfl h) (fun C hC => ?_)
    have hD : ∀ l, ¬ C.D0 l := fun l h => (hC l).1 h rfl
    simp only [startFr, Tryd.ntmps48, List.length_cons, List.length_nil, Nat.reduceAdd, Nat.reduceSub, List.replicate_succ, List.replicate_zero, List.cons_append, List.nil_append]
    repeat' (first | ((first | apply Ba | (apply Bb; (· rfl); (· rfl)) | (apply Bc; (· exact nxE)) | (apply Bd; (· rfl); (· rfl); (· exact nxE))); (· first | exact Kz rfl rfl (h3) (Ad An) | exact Ok.quo rfl rfl rfl (by decide) (by omega) (by omega) | exact Ok.rem rfl rfl rfl (by decide) | exact Ok.strOf1 rfl rfl rfl Tryd.underlying5 | exact Ok.toByt rfl rfl Tryd.underlying5 (by rw [Tryd.underlying2]; rfl) (by omega) (by omega) | exact Ok.seqS rfl rfl rfl | exact Ok.sneS rfl rfl rfl | exact Ok.slen rfl rfl | exact Ok.sjoin rfl rfl rfl (by simp only [List.length_append, List.length_cons, List.length_nil]; omega) | exact Ok.pe)) | ((first | apply Ca | (apply Cb; (· exact nxE))); (· first | exact Ok.e0)) | refine Sx ?_ | (refine Sy (fun h => ?_) (fun h => ?_) <;> try (exfalso; omega; done)) | refine Sz (fun h => ?_) (fun h => ?_))
    refine Ya ?_
    (apply Le.headZ (hs := []) [] rfl)
    all_goals (try dsimp only [srcs])
    (case' hfr => (repeat' (first | refine La ?_ ?_ | exact Lc | refine Lo ?_ | refine ⟨⟨_, rfl, ?_⟩, ?_⟩ | refine Lx ?_)))
    all_goals (first | exact Ld | exact trivial | ((rw [dec_big hs, h5]; rfl)))
end Go.Proofs.YtofakjlamoigcaaDoor
