/-
  No cell of these rows narrows 'for every input' (looked for: loops, veiled, ifaces, maps, wideKeys, modest, calm, conditions, laid).
  DERIVED. THE GIVEN ROWS OF THIS SEAT. 9 by the template 'for every input the law returns true; each argument reads behind the call as it read before'; 0 by the template 'total and deterministic' (their statements: YtikadoicplnkgaaTotals.lean).
  GIVEN WITH THE SEED: the statements are not yours to turn. If you find one false, say at which input.
  Laid BY PROGRAM, IN A SANDBOX (cutbox-rows.mjs): the forced cells as the released guide's own fill.sh prints them over the translation 286b4daed209f524… (all of the seat's roots in one cut). By AI agents, Wed Nov 11 2026. No macro, syntax, notation, axiom, sorry.
-/
import Derived.Test.YtikadoicplnkgaaChecked
import GoSem.Claim
import GoSem.ClaimJoined
import GoSem.ClaimMapViews
import Derived.JoinedTies
import Derived.KernelRfl
namespace Go.Proofs.Ytikadoicplnkgaa
/- THE CELL 'sum', in the pinned program and in every row, IS THE sha256 OF THE DUMP (.gsa) THAT YtikadoicplnkgaaProg.lean LOADS. Nothing in Lean hashes anything: it is a label: what it is worth is what the hold of that sum in a sandbox is worth. -/
noncomputable def Try.pinned : Pinned := { name := "ytikadoicplnkgaa", sum := "286b4daed209f524949528db54a6ccdc6dc7898176cc13d4bf965ebfca3f337e", checked := Try.checked }
namespace Rows
def none {H : Type} : Left H := { results := [], args := [] }

/-- 'laws.FnExactBestCycle': WHATEVER THE INPUT: true; the input reads as it did. -/
def fnExactBestCycleSpec : ChangeSpec := { name := "fnExactBestCycle", fn := fun _ => fun
  | [d] => { results := [.lit (.bool true)], args := [d] }
  | _ => none }
def fnExactBestCycleRow : OpenClaim := { program := "ytikadoicplnkgaa", sum := "286b4daed209f524949528db54a6ccdc6dc7898176cc13d4bf965ebfca3f337e", func := "loop.example/g00941/laws.FnExactBestCycle", spec := "fnExactBestCycle", unfollowed := true, recurses := true, apart := false }
def FnExactBestCycleSaid : Prop := fnExactBestCycleRow.holds Try.pinned (OpenSpec.ofChange fnExactBestCycleSpec)

/-- ITS FALSE NEIGHBOUR: 'it returns false'. Refute it at one input. -/
def fnExactBestCycleWrong : ChangeSpec := { name := "fnExactBestCycle", fn := fun _ => fun
  | [d] => { results := [.lit (.bool false)], args := [d] }
  | _ => none }
def FnExactBestCycleWrongFalsely : Prop := fnExactBestCycleRow.holds Try.pinned (OpenSpec.ofChange fnExactBestCycleWrong)

/-- 'laws.FnExactEigenVector': WHATEVER THE INPUT: true; the input reads as it did. -/
def fnExactEigenVectorSpec : ChangeSpec := { name := "fnExactEigenVector", fn := fun _ => fun
  | [d] => { results := [.lit (.bool true)], args := [d] }
  | _ => none }
def fnExactEigenVectorRow : OpenClaim := { program := "ytikadoicplnkgaa", sum := "286b4daed209f524949528db54a6ccdc6dc7898176cc13d4bf965ebfca3f337e", func := "loop.example/g00941/laws.FnExactEigenVector", spec := "fnExactEigenVector", unfollowed := true, recurses := true, apart := false }
def FnExactEigenVectorSaid : Prop := fnExactEigenVectorRow.holds Try.pinned (OpenSpec.ofChange fnExactEigenVectorSpec)

/-- ITS FALSE NEIGHBOUR: 'it returns false'. Refute it at one input. -/
def fnExactEigenVectorWrong : ChangeSpec := { name := "fnExactEigenVector", fn := fun _ => fun
  | [d] => { results := [.lit (.bool false)], args := [d] }
  | _ => none }
def FnExactEigenVectorWrongFalsely : Prop := fnExactEigenVectorRow.holds Try.pinned (OpenSpec.ofChange fnExactEigenVectorWrong)

/-- 'laws.FnExactCertifyMean': WHATEVER THE INPUT: true; the input reads as it did. -/
def fnExactCertifyMeanSpec : ChangeSpec := { name := "fnExactCertifyMean", fn := fun _ => fun
  | [d] => { results := [.lit (.bool true)], args := [d] }
  | _ => none }
def fnExactCertifyMeanRow : OpenClaim := { program := "ytikadoicplnkgaa", sum := "286b4daed209f524949528db54a6ccdc6dc7898176cc13d4bf965ebfca3f337e", func := "loop.example/g00941/laws.FnExactCertifyMean", spec := "fnExactCertifyMean", unfollowed := true, recurses := true, apart := false }
def FnExactCertifyMeanSaid : Prop := fnExactCertifyMeanRow.holds Try.pinned (OpenSpec.ofChange fnExactCertifyMeanSpec)

/-- ITS FALSE NEIGHBOUR: 'it returns false'. Refute it at one input. -/
def fnExactCertifyMeanWrong : ChangeSpec := { name := "fnExactCertifyMean", fn := fun _ => fun
  | [d] => { results := [.lit (.bool false)], args := [d] }
  | _ => none }
def FnExactCertifyMeanWrongFalsely : Prop := fnExactCertifyMeanRow.holds Try.pinned (OpenSpec.ofChange fnExactCertifyMeanWrong)

/-- 'laws.FnExactWorstRate': WHATEVER THE INPUT: true; the input reads as it did. -/
def fnExactWorstRateSpec : ChangeSpec := { name := "fnExactWorstRate", fn := fun _ => fun
  | [d] => { results := [.lit (.bool true)], args := [d] }
  | _ => none }
def fnExactWorstRateRow : OpenClaim := { program := "ytikadoicplnkgaa", sum := "286b4daed209f524949528db54a6ccdc6dc7898176cc13d4bf965ebfca3f337e", func := "loop.example/g00941/laws.FnExactWorstRate", spec := "fnExactWorstRate", unfollowed := true, recurses := true, apart := false }
def FnExactWorstRateSaid : Prop := fnExactWorstRateRow.holds Try.pinned (OpenSpec.ofChange fnExactWorstRateSpec)

/-- ITS FALSE NEIGHBOUR: 'it returns false'. Refute it at one input. -/
def fnExactWorstRateWrong : ChangeSpec := { name := "fnExactWorstRate", fn := fun _ => fun
  | [d] => { results := [.lit (.bool false)], args := [d] }
  | _ => none }
def FnExactWorstRateWrongFalsely : Prop := fnExactWorstRateRow.holds Try.pinned (OpenSpec.ofChange fnExactWorstRateWrong)

/-- 'laws.FnExactSlowestWord': WHATEVER THE INPUT: true; the input reads as it did. -/
def fnExactSlowestWordSpec : ChangeSpec := { name := "fnExactSlowestWord", fn := fun _ => fun
  | [d1, d2] => { results := [.lit (.bool true)], args := [d1, d2] }
  | _ => none }
def fnExactSlowestWordRow : OpenClaim := { program := "ytikadoicplnkgaa", sum := "286b4daed209f524949528db54a6ccdc6dc7898176cc13d4bf965ebfca3f337e", func := "loop.example/g00941/laws.FnExactSlowestWord", spec := "fnExactSlowestWord", unfollowed := true, recurses := true, apart := false }
def FnExactSlowestWordSaid : Prop := fnExactSlowestWordRow.holds Try.pinned (OpenSpec.ofChange fnExactSlowestWordSpec)

/-- ITS FALSE NEIGHBOUR: 'it returns false'. Refute it at one input. -/
def fnExactSlowestWordWrong : ChangeSpec := { name := "fnExactSlowestWord", fn := fun _ => fun
  | [d1, d2] => { results := [.lit (.bool false)], args := [d1, d2] }
  | _ => none }
def FnExactSlowestWordWrongFalsely : Prop := fnExactSlowestWordRow.holds Try.pinned (OpenSpec.ofChange fnExactSlowestWordWrong)

/-- 'laws.FnUpstream': WHATEVER THE INPUT: true; the input reads as it did. -/
def fnUpstreamSpec : ChangeSpec := { name := "fnUpstream", fn := fun _ => fun
  | [d] => { results := [.lit (.bool true)], args := [d] }
  | _ => none }
def fnUpstreamRow : OpenClaim := { program := "ytikadoicplnkgaa", sum := "286b4daed209f524949528db54a6ccdc6dc7898176cc13d4bf965ebfca3f337e", func := "loop.example/g00941/laws.FnUpstream", spec := "fnUpstream", unfollowed := true, recurses := true, apart := false }
def FnUpstreamSaid : Prop := fnUpstreamRow.holds Try.pinned (OpenSpec.ofChange fnUpstreamSpec)

/-- ITS FALSE NEIGHBOUR: 'it returns false'. Refute it at one input. -/
def fnUpstreamWrong : ChangeSpec := { name := "fnUpstream", fn := fun _ => fun
  | [d] => { results := [.lit (.bool false)], args := [d] }
  | _ => none }
def FnUpstreamWrongFalsely : Prop := fnUpstreamRow.holds Try.pinned (OpenSpec.ofChange fnUpstreamWrong)

/-- 'laws.FnWords': WHATEVER THE INPUT: true; the input reads as it did. -/
def fnWordsSpec : ChangeSpec := { name := "fnWords", fn := fun _ => fun
  | [d] => { results := [.lit (.bool true)], args := [d] }
  | _ => none }
def fnWordsRow : OpenClaim := { program := "ytikadoicplnkgaa", sum := "286b4daed209f524949528db54a6ccdc6dc7898176cc13d4bf965ebfca3f337e", func := "loop.example/g00941/laws.FnWords", spec := "fnWords", unfollowed := true, recurses := true, apart := false }
def FnWordsSaid : Prop := fnWordsRow.holds Try.pinned (OpenSpec.ofChange fnWordsSpec)

/-- ITS FALSE NEIGHBOUR: 'it returns false'. Refute it at one input. -/
def fnWordsWrong : ChangeSpec := { name := "fnWords", fn := fun _ => fun
  | [d] => { results := [.lit (.bool false)], args := [d] }
  | _ => none }
def FnWordsWrongFalsely : Prop := fnWordsRow.holds Try.pinned (OpenSpec.ofChange fnWordsWrong)

/-- 'laws.FnRates': WHATEVER THE INPUT: true; the input reads as it did. -/
def fnRatesSpec : ChangeSpec := { name := "fnRates", fn := fun _ => fun
  | [d] => { results := [.lit (.bool true)], args := [d] }
  | _ => none }
def fnRatesRow : OpenClaim := { program := "ytikadoicplnkgaa", sum := "286b4daed209f524949528db54a6ccdc6dc7898176cc13d4bf965ebfca3f337e", func := "loop.example/g00941/laws.FnRates", spec := "fnRates", unfollowed := true, recurses := true, apart := false }
def FnRatesSaid : Prop := fnRatesRow.holds Try.pinned (OpenSpec.ofChange fnRatesSpec)

/-- ITS FALSE NEIGHBOUR: 'it returns false'. Refute it at one input. -/
def fnRatesWrong : ChangeSpec := { name := "fnRates", fn := fun _ => fun
  | [d] => { results := [.lit (.bool false)], args := [d] }
  | _ => none }
def FnRatesWrongFalsely : Prop := fnRatesRow.holds Try.pinned (OpenSpec.ofChange fnRatesWrong)

/-- 'laws.FnTaskConflicts': WHATEVER THE INPUT: true; the input reads as it did. -/
def fnTaskConflictsSpec : ChangeSpec := { name := "fnTaskConflicts", fn := fun _ => fun
  | [d] => { results := [.lit (.bool true)], args := [d] }
  | _ => none }
def fnTaskConflictsRow : OpenClaim := { program := "ytikadoicplnkgaa", sum := "286b4daed209f524949528db54a6ccdc6dc7898176cc13d4bf965ebfca3f337e", func := "loop.example/g00941/laws.FnTaskConflicts", spec := "fnTaskConflicts", unfollowed := true, recurses := true, apart := false }
def FnTaskConflictsSaid : Prop := fnTaskConflictsRow.holds Try.pinned (OpenSpec.ofChange fnTaskConflictsSpec)

/-- ITS FALSE NEIGHBOUR: 'it returns false'. Refute it at one input. -/
def fnTaskConflictsWrong : ChangeSpec := { name := "fnTaskConflicts", fn := fun _ => fun
  | [d] => { results := [.lit (.bool false)], args := [d] }
  | _ => none }
def FnTaskConflictsWrongFalsely : Prop := fnTaskConflictsRow.holds Try.pinned (OpenSpec.ofChange fnTaskConflictsWrong)

/- THE SECOND FORM. 'bulk': how many values and letters a reading holds, each counted each time it is reached (what is shared counts as often as it is met; a slice's spare places count too). A statement '..UptoSaid' is the law's where the arguments, and the package variables that the reading takes, are together of bulk at most 1048576: NARROWER than '..Said'. Prove '..Said' where nothing that the law and all that it calls make is longer than what came in: it says more and counts as full. Else prove '..UptoSaid'. A law counts once. -/
mutual
def uptoBulk {H : Type} : DataW H → Nat
  | .lit (.string bytes) => bytes.length + 1
  | .lit _ => 1
  | .nil => 1
  | .ptr d => uptoBulk d + 1
  | .slice elems spare => uptoBulkAll elems + uptoBulkAll spare + 1
  | .agg parts => uptoBulkAll parts + 1
  | .iface _ d => uptoBulk d + 1
  | .map entries => uptoBulkEntries entries + 1
  | .held _ => 1
def uptoBulkAll {H : Type} : List (DataW H) → Nat
  | [] => 0
  | d :: r => uptoBulk d + uptoBulkAll r
def uptoBulkEntries {H : Type} : List (Lit × DataW H) → Nat
  | [] => 0
  | x :: r => uptoBulkEntry x + uptoBulkEntries r
def uptoBulkEntry {H : Type} : Lit × DataW H → Nat
  | (.string bytes, d) => bytes.length + uptoBulk d + 1
  | (_, d) => uptoBulk d + 1
 end
def uptoSmall : (H : Type) → List (DataW H) → Bool := fun _ ds => decide (uptoBulkAll ds ≤ 1048576)
def OpenSpec.upto (s : _root_.Go.ChangeSpec) : _root_.Go.OpenSpec := { _root_.Go.OpenSpec.ofChange s with cond := some uptoSmall }

/-- 'laws.FnExactBestCycle', WHERE WHAT IT READS IS OF BULK AT MOST 1048576: true; the input reads as it did. -/
def fnExactBestCycleUptoRow : OpenClaim := { program := "ytikadoicplnkgaa", sum := "286b4daed209f524949528db54a6ccdc6dc7898176cc13d4bf965ebfca3f337e", func := "loop.example/g00941/laws.FnExactBestCycle", spec := "fnExactBestCycle", unfollowed := true, recurses := true, apart := false, narrowed := true }
def FnExactBestCycleUptoSaid : Prop := fnExactBestCycleUptoRow.holds Try.pinned (OpenSpec.upto fnExactBestCycleSpec)

/-- 'laws.FnExactEigenVector', WHERE WHAT IT READS IS OF BULK AT MOST 1048576: true; the input reads as it did. -/
def fnExactEigenVectorUptoRow : OpenClaim := { program := "ytikadoicplnkgaa", sum := "286b4daed209f524949528db54a6ccdc6dc7898176cc13d4bf965ebfca3f337e", func := "loop.example/g00941/laws.FnExactEigenVector", spec := "fnExactEigenVector", unfollowed := true, recurses := true, apart := false, narrowed := true }
def FnExactEigenVectorUptoSaid : Prop := fnExactEigenVectorUptoRow.holds Try.pinned (OpenSpec.upto fnExactEigenVectorSpec)

/-- 'laws.FnExactCertifyMean', WHERE WHAT IT READS IS OF BULK AT MOST 1048576: true; the input reads as it did. -/
def fnExactCertifyMeanUptoRow : OpenClaim := { program := "ytikadoicplnkgaa", sum := "286b4daed209f524949528db54a6ccdc6dc7898176cc13d4bf965ebfca3f337e", func := "loop.example/g00941/laws.FnExactCertifyMean", spec := "fnExactCertifyMean", unfollowed := true, recurses := true, apart := false, narrowed := true }
def FnExactCertifyMeanUptoSaid : Prop := fnExactCertifyMeanUptoRow.holds Try.pinned (OpenSpec.upto fnExactCertifyMeanSpec)

/-- 'laws.FnExactWorstRate', WHERE WHAT IT READS IS OF BULK AT MOST 1048576: true; the input reads as it did. -/
def fnExactWorstRateUptoRow : OpenClaim := { program := "ytikadoicplnkgaa", sum := "286b4daed209f524949528db54a6ccdc6dc7898176cc13d4bf965ebfca3f337e", func := "loop.example/g00941/laws.FnExactWorstRate", spec := "fnExactWorstRate", unfollowed := true, recurses := true, apart := false, narrowed := true }
def FnExactWorstRateUptoSaid : Prop := fnExactWorstRateUptoRow.holds Try.pinned (OpenSpec.upto fnExactWorstRateSpec)

/-- 'laws.FnExactSlowestWord', WHERE WHAT IT READS IS OF BULK AT MOST 1048576: true; the input reads as it did. -/
def fnExactSlowestWordUptoRow : OpenClaim := { program := "ytikadoicplnkgaa", sum := "286b4daed209f524949528db54a6ccdc6dc7898176cc13d4bf965ebfca3f337e", func := "loop.example/g00941/laws.FnExactSlowestWord", spec := "fnExactSlowestWord", unfollowed := true, recurses := true, apart := false, narrowed := true }
def FnExactSlowestWordUptoSaid : Prop := fnExactSlowestWordUptoRow.holds Try.pinned (OpenSpec.upto fnExactSlowestWordSpec)

/-- 'laws.FnUpstream', WHERE WHAT IT READS IS OF BULK AT MOST 1048576: true; the input reads as it did. -/
def fnUpstreamUptoRow : OpenClaim := { program := "ytikadoicplnkgaa", sum := "286b4daed209f524949528db54a6ccdc6dc7898176cc13d4bf965ebfca3f337e", func := "loop.example/g00941/laws.FnUpstream", spec := "fnUpstream", unfollowed := true, recurses := true, apart := false, narrowed := true }
def FnUpstreamUptoSaid : Prop := fnUpstreamUptoRow.holds Try.pinned (OpenSpec.upto fnUpstreamSpec)

/-- 'laws.FnWords', WHERE WHAT IT READS IS OF BULK AT MOST 1048576: true; the input reads as it did. -/
def fnWordsUptoRow : OpenClaim := { program := "ytikadoicplnkgaa", sum := "286b4daed209f524949528db54a6ccdc6dc7898176cc13d4bf965ebfca3f337e", func := "loop.example/g00941/laws.FnWords", spec := "fnWords", unfollowed := true, recurses := true, apart := false, narrowed := true }
def FnWordsUptoSaid : Prop := fnWordsUptoRow.holds Try.pinned (OpenSpec.upto fnWordsSpec)

/-- 'laws.FnRates', WHERE WHAT IT READS IS OF BULK AT MOST 1048576: true; the input reads as it did. -/
def fnRatesUptoRow : OpenClaim := { program := "ytikadoicplnkgaa", sum := "286b4daed209f524949528db54a6ccdc6dc7898176cc13d4bf965ebfca3f337e", func := "loop.example/g00941/laws.FnRates", spec := "fnRates", unfollowed := true, recurses := true, apart := false, narrowed := true }
def FnRatesUptoSaid : Prop := fnRatesUptoRow.holds Try.pinned (OpenSpec.upto fnRatesSpec)

/-- 'laws.FnTaskConflicts', WHERE WHAT IT READS IS OF BULK AT MOST 1048576: true; the input reads as it did. -/
def fnTaskConflictsUptoRow : OpenClaim := { program := "ytikadoicplnkgaa", sum := "286b4daed209f524949528db54a6ccdc6dc7898176cc13d4bf965ebfca3f337e", func := "loop.example/g00941/laws.FnTaskConflicts", spec := "fnTaskConflicts", unfollowed := true, recurses := true, apart := false, narrowed := true }
def FnTaskConflictsUptoSaid : Prop := fnTaskConflictsUptoRow.holds Try.pinned (OpenSpec.upto fnTaskConflictsSpec)

end Rows
end Go.Proofs.Ytikadoicplnkgaa
