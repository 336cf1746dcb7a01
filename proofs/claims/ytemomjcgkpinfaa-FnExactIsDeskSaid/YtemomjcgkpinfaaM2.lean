/-
  Tests of two places.
-/
import Derived.Test.YtemomjcgkpinfaaT
import Derived.Test.YtemomjcgkpinfaaM0
namespace Go.Proofs.Ytemomjcgkpinfaa
open Go Go.RowKit
set_option linter.unusedSimpArgs false
set_option linter.unusedVariables false

theorem eqPl_run (a b c d a' b' c' d' : Int) (w : World) : (binOp .eql 35 (.agg #[.int .i64 a, .int .i64 b, .int .i64 c, .int .i64 d]) (.agg #[.int .i64 a', .int .i64 b', .int .i64 c', .int .i64 d'])).run Try.prog w = .ok (.bool (decide ((⟨a, b, c, d⟩ : Pl) = ⟨a', b', c', d'⟩))) w := by
  have u := Try.underlying2
  have hS : Try.prog.underlying 35 = some (.struct (Try.prog.fieldsOf 35)) := by kernel_rfl
  have hp : Try.prog.stoodInHeld 35 = false := by kernel_rfl
  rw [run_eql_struct, show (10000 : Nat) = 9999 + 1 from rfl, run_equalIn_agg w 9999 35 _ _ hS hp]
  simp only [Program.fieldsOf, Try.underlying35]
  go_simp
  try simp only [Pl.mk.injEq]
  by_cases h1 : a = a' <;> by_cases h2 : b = b' <;> by_cases h3 : c = c' <;> by_cases h4 : d = d' <;> simp [h1, h2, h3, h4]
theorem neqPl_run (a b c d a' b' c' d' : Int) (w : World) : (binOp .neq 35 (.agg #[.int .i64 a, .int .i64 b, .int .i64 c, .int .i64 d]) (.agg #[.int .i64 a', .int .i64 b', .int .i64 c', .int .i64 d'])).run Try.prog w = .ok (.bool (decide ((⟨a, b, c, d⟩ : Pl) ≠ ⟨a', b', c', d'⟩))) w := by
  have u := Try.underlying2
  have hS : Try.prog.underlying 35 = some (.struct (Try.prog.fieldsOf 35)) := by kernel_rfl
  have hp : Try.prog.stoodInHeld 35 = false := by kernel_rfl
  rw [run_neq_struct, show (10000 : Nat) = 9999 + 1 from rfl, run_equalIn_agg w 9999 35 _ _ hS hp]
  simp only [Program.fieldsOf, Try.underlying35]
  go_simp
  try simp only [ne_eq, Pl.mk.injEq]
  by_cases h1 : a = a' <;> by_cases h2 : b = b' <;> by_cases h3 : c = c' <;> by_cases h4 : d = d' <;> simp [h1, h2, h3, h4]
theorem plGuard (op : BinOp) (x y : Operand) (a b c d a' b' c' d' : Int) (w : World) : (eqGuard op 35 x y (.agg #[.int .i64 a, .int .i64 b, .int .i64 c, .int .i64 d]) (.agg #[.int .i64 a', .int .i64 b', .int .i64 c', .int .i64 d'])).run Try.prog w = .ok () w :=
  run_eqGuard_agg w op _ x y _ _ (by kernel_rfl)
theorem VR.ints4 {ι : Iota} {F : Nat → Prop} {w : World} {a b c d : Int} {v : Value} (h : VR ι F w (.agg [I a, I b, I c, I d]) v) : v = .agg #[.int .i64 a, .int .i64 b, .int .i64 c, .int .i64 d] := by
  obtain ⟨vs, rfl, h1, h2⟩ := h.agg_inv
  match vs, h1 with
  | [v0, v1, v2, v3], _ =>
    have e0 := (h2 0 _ v0 rfl rfl).v_inv
    have e1 := (h2 1 _ v1 rfl rfl).v_inv
    have e2 := (h2 2 _ v2 rfl rfl).v_inv
    have e3 := (h2 3 _ v3 rfl rfl).v_inv
    rw [e0, e1, e2, e3]
section
variable {o : Oper} {A : Operand → AV} {H : Heap} {new : Nat} {t' : TypeId} {x y : Operand} {a b c d a' b' c' d' : Int}
theorem OpOk.eqPl (ho : o.op = .binOp .eql 35 x y t') (hx : A x = .agg [I a, I b, I c, I d]) (hy : A y = .agg [I a', I b', I c', I d']) : OpOk Try.prog o A [] H new (Bo (decide ((⟨a, b, c, d⟩ : Pl) = ⟨a', b', c', d'⟩))) [] :=
  .still [] fun ι F w H1 ρ _ hs hv => by
    have h1 := hv x (by simp [ho, Op.operands])
    have h2 := hv y (by simp [ho, Op.operands])
    rw [hx] at h1; rw [hy] at h2
    refine ⟨_, ?_, .d (.v _)⟩
    simp [execOp, ho, h1.ints4, h2.ints4, plGuard .eql x y a b c d a' b' c' d' w, eqPl_run a b c d a' b' c' d' w]
theorem OpOk.neqPl (ho : o.op = .binOp .neq 35 x y t') (hx : A x = .agg [I a, I b, I c, I d]) (hy : A y = .agg [I a', I b', I c', I d']) : OpOk Try.prog o A [] H new (Bo (decide ((⟨a, b, c, d⟩ : Pl) ≠ ⟨a', b', c', d'⟩))) [] :=
  .still [] fun ι F w H1 ρ _ hs hv => by
    have h1 := hv x (by simp [ho, Op.operands])
    have h2 := hv y (by simp [ho, Op.operands])
    rw [hx] at h1; rw [hy] at h2
    refine ⟨_, ?_, .d (.v _)⟩
    simp [execOp, ho, h1.ints4, h2.ints4, plGuard .neq x y a b c d a' b' c' d' w, neqPl_run a b c d a' b' c' d' w]
end
end Go.Proofs.Ytemomjcgkpinfaa
