/-
  The law of TraceText, in the abstract reading.
-/
import Derived.Test.YtdgodkpobomneaaDoorKbU2
import Derived.Test.YtdgodkpobomneaaDoorKbA3
namespace Go.Proofs.YtdgodkpobomneaaDoor
set_option linter.unusedSimpArgs false
set_option linter.unusedVariables false
open Go Go.RowKit
attribute [local irreducible] AL AD AW OpOk Le AC thenQ blockQ EndQ

theorem lawTraceText_ac [Mode] [HasTab] (fs : List Fi) (hn : fs.length ≤ 9223372036854775807) : AC Tryd.prog 5 [FL fs] H0 (Bo true) H0 := by
  have hz := szFiringS_ac fs 1048576 hn (by decide)
  by_cases h1 : (fs.length : Int) ≤ 1048576
  case neg =>
    rw [if_pos (by omega)] at hz
    refine AC.of_body 0 Tryd.func5 rfl (fun l h => absurd rfl h) (fun C hC => ?_)
    have hD : ∀ l, ¬ C.D0 l := fun l h => (hC l).1 h rfl
    simp only [startFr, Tryd.ntmps5, List.length_cons, List.length_nil, Nat.reduceAdd, Nat.reduceSub, List.replicate_succ, List.replicate_zero, List.cons_append, List.nil_append]
    repeat' (first | ((first | apply Ba | (apply Bb; (· rfl); (· rfl)) | (apply Bc; (· exact nxE)) | (apply Bd; (· rfl); (· rfl); (· exact nxE))); (· first | exact Kz rfl rfl (hz) (Ad (Ad An)) | exact Ok.sneSame rfl rfl rfl | exact Ok.seqS rfl rfl rfl | exact Ok.sneS rfl rfl rfl | exact Ok.pe)) | ((first | apply Ca | (apply Cb; (· exact nxE))); (· first | exact Ok.e0)) | refine Sx ?_ | (refine Sy (fun h => ?_) (fun h => ?_) <;> try (exfalso; omega; done)) | refine Sz (fun h => ?_) (fun h => ?_))
    refine Ya ?_
    (apply Le.headZ (hs := []) [] rfl)
    all_goals (try dsimp only [srcs])
    (case' hfr => (repeat' (first | refine La ?_ ?_ | exact Lc | refine Lo ?_ | refine ⟨⟨_, rfl, ?_⟩, ?_⟩ | refine Lx ?_)))
    all_goals (first | exact Ld | exact trivial | (rfl))
  rw [if_neg (by omega)] at hz
  have hT := (toFiringS_ac fs (by omega)).frz (AR.whole rfl trivial FL_len)
  have hs := sTraceText_ac fs (by omega)
  have hi := iTraceText_ac fs (by omega)
  have he := eqFiringS_refl fs (by omega)
  refine AC.of_body 0 Tryd.func5 rfl (fun l h => absurd rfl h) (fun C hC => ?_)
  have hD : ∀ l, ¬ C.D0 l := fun l h => (hC l).1 h rfl
  simp only [startFr, Tryd.ntmps5, List.length_cons, List.length_nil, Nat.reduceAdd, Nat.reduceSub, List.replicate_succ, List.replicate_zero, List.cons_append, List.nil_append]
  repeat' (first | ((first | apply Ba | (apply Bb; (· rfl); (· rfl)) | (apply Bc; (· exact nxE)) | (apply Bd; (· rfl); (· rfl); (· exact nxE))); (· first | exact Kz rfl rfl (hz) (Ad (Ad An)) | exact Kz rfl rfl (hT) (Ad An) | exact Kz rfl rfl (hs) (Ad An) | exact Kz rfl rfl (hi) (Ad An) | exact Kz rfl rfl (he) (Ad (Ad An)) | exact Ok.sneSame rfl rfl rfl | exact Ok.seqS rfl rfl rfl | exact Ok.sneS rfl rfl rfl | exact Ok.pe)) | ((first | apply Ca | (apply Cb; (· exact nxE))); (· first | exact Ok.e0)) | refine Sx ?_ | (refine Sy (fun h => ?_) (fun h => ?_) <;> try (exfalso; omega; done)) | refine Sz (fun h => ?_) (fun h => ?_))
  refine Ya ?_
  (apply Le.headZ (hs := []) [] rfl)
  all_goals (try dsimp only [srcs])
  (case' hfr => (repeat' (first | refine La ?_ ?_ | exact Lc | refine Lo ?_ | refine ⟨⟨_, rfl, ?_⟩, ?_⟩ | refine Lx ?_)))
  all_goals (first | exact Ld | exact trivial | (rfl))
end Go.Proofs.YtdgodkpobomneaaDoor
