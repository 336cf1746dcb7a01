/-
  No cell of these rows narrows 'for every input' (looked for: loops, veiled, ifaces, maps, wideKeys, modest, calm, conditions, laid).
  DERIVED. THE GIVEN ROWS OF THIS SEAT. 12 by the template 'for every input the law returns true; each argument reads behind the call as it read before'; 0 by the template 'total and deterministic' (their statements: YtcjidnpkeliieaaTotals.lean).
  GIVEN WITH THE SEED: the statements are not yours to turn. If you find one false, say at which input.
  Laid BY PROGRAM, IN A SANDBOX (cutbox-rows.mjs): the forced cells as the released guide's own fill.sh prints them over the translation 2051e6695e8e7e25… (all of the seat's roots in one cut). By AI agents, Wed Nov 11 2026. No macro, syntax, notation, axiom, sorry.
-/
import Derived.Test.YtcjidnpkeliieaaChecked
import GoSem.Claim
import GoSem.ClaimJoined
import GoSem.ClaimMapViews
import Derived.JoinedTies
import Derived.KernelRfl
namespace Go.Proofs.Ytcjidnpkeliieaa
/- THE CELL 'sum', in the pinned program and in every row, IS THE sha256 OF THE DUMP (.gsa) THAT YtcjidnpkeliieaaProg.lean LOADS. Nothing in Lean hashes anything: it is a label: what it is worth is what the hold of that sum in a sandbox is worth. -/
noncomputable def Try.pinned : Pinned := { name := "ytcjidnpkeliieaa", sum := "2051e6695e8e7e257779d7531e351ba5e5eaf1c9c4661bef16a10c4aa31d3555", checked := Try.checked }
namespace Rows
def none {H : Type} : Left H := { results := [], args := [] }

/-- 'laws.FnExactBestPlace': WHATEVER THE INPUT: true; the input reads as it did. -/
def fnExactBestPlaceSpec : ChangeSpec := { name := "fnExactBestPlace", fn := fun _ => fun
  | [d1, d2] => { results := [.lit (.bool true)], args := [d1, d2] }
  | _ => none }
def fnExactBestPlaceRow : OpenClaim := { program := "ytcjidnpkeliieaa", sum := "2051e6695e8e7e257779d7531e351ba5e5eaf1c9c4661bef16a10c4aa31d3555", func := "loop.example/g00941/laws.FnExactBestPlace", spec := "fnExactBestPlace", unfollowed := true, recurses := true, apart := false }
def FnExactBestPlaceSaid : Prop := fnExactBestPlaceRow.holds Try.pinned (OpenSpec.ofChange fnExactBestPlaceSpec)

/-- ITS FALSE NEIGHBOUR: 'it returns false'. Refute it at one input. -/
def fnExactBestPlaceWrong : ChangeSpec := { name := "fnExactBestPlace", fn := fun _ => fun
  | [d1, d2] => { results := [.lit (.bool false)], args := [d1, d2] }
  | _ => none }
def FnExactBestPlaceWrongFalsely : Prop := fnExactBestPlaceRow.holds Try.pinned (OpenSpec.ofChange fnExactBestPlaceWrong)

/-- 'laws.FnExactUseOf': WHATEVER THE INPUT: true; the input reads as it did. -/
def fnExactUseOfSpec : ChangeSpec := { name := "fnExactUseOf", fn := fun _ => fun
  | [d1, d2] => { results := [.lit (.bool true)], args := [d1, d2] }
  | _ => none }
def fnExactUseOfRow : OpenClaim := { program := "ytcjidnpkeliieaa", sum := "2051e6695e8e7e257779d7531e351ba5e5eaf1c9c4661bef16a10c4aa31d3555", func := "loop.example/g00941/laws.FnExactUseOf", spec := "fnExactUseOf", unfollowed := true, recurses := true, apart := false }
def FnExactUseOfSaid : Prop := fnExactUseOfRow.holds Try.pinned (OpenSpec.ofChange fnExactUseOfSpec)

/-- ITS FALSE NEIGHBOUR: 'it returns false'. Refute it at one input. -/
def fnExactUseOfWrong : ChangeSpec := { name := "fnExactUseOf", fn := fun _ => fun
  | [d1, d2] => { results := [.lit (.bool false)], args := [d1, d2] }
  | _ => none }
def FnExactUseOfWrongFalsely : Prop := fnExactUseOfRow.holds Try.pinned (OpenSpec.ofChange fnExactUseOfWrong)

/-- 'laws.FnExactBestCircuit': WHATEVER THE INPUT: true; the input reads as it did. -/
def fnExactBestCircuitSpec : ChangeSpec := { name := "fnExactBestCircuit", fn := fun _ => fun
  | [d] => { results := [.lit (.bool true)], args := [d] }
  | _ => none }
def fnExactBestCircuitRow : OpenClaim := { program := "ytcjidnpkeliieaa", sum := "2051e6695e8e7e257779d7531e351ba5e5eaf1c9c4661bef16a10c4aa31d3555", func := "loop.example/g00941/laws.FnExactBestCircuit", spec := "fnExactBestCircuit", unfollowed := true, recurses := true, apart := false }
def FnExactBestCircuitSaid : Prop := fnExactBestCircuitRow.holds Try.pinned (OpenSpec.ofChange fnExactBestCircuitSpec)

/-- ITS FALSE NEIGHBOUR: 'it returns false'. Refute it at one input. -/
def fnExactBestCircuitWrong : ChangeSpec := { name := "fnExactBestCircuit", fn := fun _ => fun
  | [d] => { results := [.lit (.bool false)], args := [d] }
  | _ => none }
def FnExactBestCircuitWrongFalsely : Prop := fnExactBestCircuitRow.holds Try.pinned (OpenSpec.ofChange fnExactBestCircuitWrong)

/-- 'laws.FnExactCriticalPlaces': WHATEVER THE INPUT: true; the input reads as it did. -/
def fnExactCriticalPlacesSpec : ChangeSpec := { name := "fnExactCriticalPlaces", fn := fun _ => fun
  | [d] => { results := [.lit (.bool true)], args := [d] }
  | _ => none }
def fnExactCriticalPlacesRow : OpenClaim := { program := "ytcjidnpkeliieaa", sum := "2051e6695e8e7e257779d7531e351ba5e5eaf1c9c4661bef16a10c4aa31d3555", func := "loop.example/g00941/laws.FnExactCriticalPlaces", spec := "fnExactCriticalPlaces", unfollowed := true, recurses := true, apart := false }
def FnExactCriticalPlacesSaid : Prop := fnExactCriticalPlacesRow.holds Try.pinned (OpenSpec.ofChange fnExactCriticalPlacesSpec)

/-- ITS FALSE NEIGHBOUR: 'it returns false'. Refute it at one input. -/
def fnExactCriticalPlacesWrong : ChangeSpec := { name := "fnExactCriticalPlaces", fn := fun _ => fun
  | [d] => { results := [.lit (.bool false)], args := [d] }
  | _ => none }
def FnExactCriticalPlacesWrongFalsely : Prop := fnExactCriticalPlacesRow.holds Try.pinned (OpenSpec.ofChange fnExactCriticalPlacesWrong)

/-- 'laws.FnExactMarginsOf': WHATEVER THE INPUT: true; the input reads as it did. -/
def fnExactMarginsOfSpec : ChangeSpec := { name := "fnExactMarginsOf", fn := fun _ => fun
  | [d] => { results := [.lit (.bool true)], args := [d] }
  | _ => none }
def fnExactMarginsOfRow : OpenClaim := { program := "ytcjidnpkeliieaa", sum := "2051e6695e8e7e257779d7531e351ba5e5eaf1c9c4661bef16a10c4aa31d3555", func := "loop.example/g00941/laws.FnExactMarginsOf", spec := "fnExactMarginsOf", unfollowed := true, recurses := true, apart := false }
def FnExactMarginsOfSaid : Prop := fnExactMarginsOfRow.holds Try.pinned (OpenSpec.ofChange fnExactMarginsOfSpec)

/-- ITS FALSE NEIGHBOUR: 'it returns false'. Refute it at one input. -/
def fnExactMarginsOfWrong : ChangeSpec := { name := "fnExactMarginsOf", fn := fun _ => fun
  | [d] => { results := [.lit (.bool false)], args := [d] }
  | _ => none }
def FnExactMarginsOfWrongFalsely : Prop := fnExactMarginsOfRow.holds Try.pinned (OpenSpec.ofChange fnExactMarginsOfWrong)

/-- 'laws.FnExactMarginOf': WHATEVER THE INPUT: true; the input reads as it did. -/
def fnExactMarginOfSpec : ChangeSpec := { name := "fnExactMarginOf", fn := fun _ => fun
  | [d1, d2] => { results := [.lit (.bool true)], args := [d1, d2] }
  | _ => none }
def fnExactMarginOfRow : OpenClaim := { program := "ytcjidnpkeliieaa", sum := "2051e6695e8e7e257779d7531e351ba5e5eaf1c9c4661bef16a10c4aa31d3555", func := "loop.example/g00941/laws.FnExactMarginOf", spec := "fnExactMarginOf", unfollowed := true, recurses := true, apart := false }
def FnExactMarginOfSaid : Prop := fnExactMarginOfRow.holds Try.pinned (OpenSpec.ofChange fnExactMarginOfSpec)

/-- ITS FALSE NEIGHBOUR: 'it returns false'. Refute it at one input. -/
def fnExactMarginOfWrong : ChangeSpec := { name := "fnExactMarginOf", fn := fun _ => fun
  | [d1, d2] => { results := [.lit (.bool false)], args := [d1, d2] }
  | _ => none }
def FnExactMarginOfWrongFalsely : Prop := fnExactMarginOfRow.holds Try.pinned (OpenSpec.ofChange fnExactMarginOfWrong)

/-- 'laws.FnExactCertifyTime': WHATEVER THE INPUT: true; the input reads as it did. -/
def fnExactCertifyTimeSpec : ChangeSpec := { name := "fnExactCertifyTime", fn := fun _ => fun
  | [d] => { results := [.lit (.bool true)], args := [d] }
  | _ => none }
def fnExactCertifyTimeRow : OpenClaim := { program := "ytcjidnpkeliieaa", sum := "2051e6695e8e7e257779d7531e351ba5e5eaf1c9c4661bef16a10c4aa31d3555", func := "loop.example/g00941/laws.FnExactCertifyTime", spec := "fnExactCertifyTime", unfollowed := true, recurses := true, apart := false }
def FnExactCertifyTimeSaid : Prop := fnExactCertifyTimeRow.holds Try.pinned (OpenSpec.ofChange fnExactCertifyTimeSpec)

/-- ITS FALSE NEIGHBOUR: 'it returns false'. Refute it at one input. -/
def fnExactCertifyTimeWrong : ChangeSpec := { name := "fnExactCertifyTime", fn := fun _ => fun
  | [d] => { results := [.lit (.bool false)], args := [d] }
  | _ => none }
def FnExactCertifyTimeWrongFalsely : Prop := fnExactCertifyTimeRow.holds Try.pinned (OpenSpec.ofChange fnExactCertifyTimeWrong)

/-- 'laws.FnExactEigenVector': WHATEVER THE INPUT: true; the input reads as it did. -/
def fnExactEigenVectorSpec : ChangeSpec := { name := "fnExactEigenVector", fn := fun _ => fun
  | [d] => { results := [.lit (.bool true)], args := [d] }
  | _ => none }
def fnExactEigenVectorRow : OpenClaim := { program := "ytcjidnpkeliieaa", sum := "2051e6695e8e7e257779d7531e351ba5e5eaf1c9c4661bef16a10c4aa31d3555", func := "loop.example/g00941/laws.FnExactEigenVector", spec := "fnExactEigenVector", unfollowed := true, recurses := true, apart := false }
def FnExactEigenVectorSaid : Prop := fnExactEigenVectorRow.holds Try.pinned (OpenSpec.ofChange fnExactEigenVectorSpec)

/-- ITS FALSE NEIGHBOUR: 'it returns false'. Refute it at one input. -/
def fnExactEigenVectorWrong : ChangeSpec := { name := "fnExactEigenVector", fn := fun _ => fun
  | [d] => { results := [.lit (.bool false)], args := [d] }
  | _ => none }
def FnExactEigenVectorWrongFalsely : Prop := fnExactEigenVectorRow.holds Try.pinned (OpenSpec.ofChange fnExactEigenVectorWrong)

/-- 'laws.FnExactCertifyMean': WHATEVER THE INPUT: true; the input reads as it did. -/
def fnExactCertifyMeanSpec : ChangeSpec := { name := "fnExactCertifyMean", fn := fun _ => fun
  | [d] => { results := [.lit (.bool true)], args := [d] }
  | _ => none }
def fnExactCertifyMeanRow : OpenClaim := { program := "ytcjidnpkeliieaa", sum := "2051e6695e8e7e257779d7531e351ba5e5eaf1c9c4661bef16a10c4aa31d3555", func := "loop.example/g00941/laws.FnExactCertifyMean", spec := "fnExactCertifyMean", unfollowed := true, recurses := true, apart := false }
def FnExactCertifyMeanSaid : Prop := fnExactCertifyMeanRow.holds Try.pinned (OpenSpec.ofChange fnExactCertifyMeanSpec)

/-- ITS FALSE NEIGHBOUR: 'it returns false'. Refute it at one input. -/
def fnExactCertifyMeanWrong : ChangeSpec := { name := "fnExactCertifyMean", fn := fun _ => fun
  | [d] => { results := [.lit (.bool false)], args := [d] }
  | _ => none }
def FnExactCertifyMeanWrongFalsely : Prop := fnExactCertifyMeanRow.holds Try.pinned (OpenSpec.ofChange fnExactCertifyMeanWrong)

/-- 'laws.FnExactWorstRate': WHATEVER THE INPUT: true; the input reads as it did. -/
def fnExactWorstRateSpec : ChangeSpec := { name := "fnExactWorstRate", fn := fun _ => fun
  | [d] => { results := [.lit (.bool true)], args := [d] }
  | _ => none }
def fnExactWorstRateRow : OpenClaim := { program := "ytcjidnpkeliieaa", sum := "2051e6695e8e7e257779d7531e351ba5e5eaf1c9c4661bef16a10c4aa31d3555", func := "loop.example/g00941/laws.FnExactWorstRate", spec := "fnExactWorstRate", unfollowed := true, recurses := true, apart := false }
def FnExactWorstRateSaid : Prop := fnExactWorstRateRow.holds Try.pinned (OpenSpec.ofChange fnExactWorstRateSpec)

/-- ITS FALSE NEIGHBOUR: 'it returns false'. Refute it at one input. -/
def fnExactWorstRateWrong : ChangeSpec := { name := "fnExactWorstRate", fn := fun _ => fun
  | [d] => { results := [.lit (.bool false)], args := [d] }
  | _ => none }
def FnExactWorstRateWrongFalsely : Prop := fnExactWorstRateRow.holds Try.pinned (OpenSpec.ofChange fnExactWorstRateWrong)

/-- 'laws.FnExactSlowestWord': WHATEVER THE INPUT: true; the input reads as it did. -/
def fnExactSlowestWordSpec : ChangeSpec := { name := "fnExactSlowestWord", fn := fun _ => fun
  | [d1, d2] => { results := [.lit (.bool true)], args := [d1, d2] }
  | _ => none }
def fnExactSlowestWordRow : OpenClaim := { program := "ytcjidnpkeliieaa", sum := "2051e6695e8e7e257779d7531e351ba5e5eaf1c9c4661bef16a10c4aa31d3555", func := "loop.example/g00941/laws.FnExactSlowestWord", spec := "fnExactSlowestWord", unfollowed := true, recurses := true, apart := false }
def FnExactSlowestWordSaid : Prop := fnExactSlowestWordRow.holds Try.pinned (OpenSpec.ofChange fnExactSlowestWordSpec)

/-- ITS FALSE NEIGHBOUR: 'it returns false'. Refute it at one input. -/
def fnExactSlowestWordWrong : ChangeSpec := { name := "fnExactSlowestWord", fn := fun _ => fun
  | [d1, d2] => { results := [.lit (.bool false)], args := [d1, d2] }
  | _ => none }
def FnExactSlowestWordWrongFalsely : Prop := fnExactSlowestWordRow.holds Try.pinned (OpenSpec.ofChange fnExactSlowestWordWrong)

/-- 'laws.FnUpstream': WHATEVER THE INPUT: true; the input reads as it did. -/
def fnUpstreamSpec : ChangeSpec := { name := "fnUpstream", fn := fun _ => fun
  | [d] => { results := [.lit (.bool true)], args := [d] }
  | _ => none }
def fnUpstreamRow : OpenClaim := { program := "ytcjidnpkeliieaa", sum := "2051e6695e8e7e257779d7531e351ba5e5eaf1c9c4661bef16a10c4aa31d3555", func := "loop.example/g00941/laws.FnUpstream", spec := "fnUpstream", unfollowed := true, recurses := true, apart := false }
def FnUpstreamSaid : Prop := fnUpstreamRow.holds Try.pinned (OpenSpec.ofChange fnUpstreamSpec)

/-- ITS FALSE NEIGHBOUR: 'it returns false'. Refute it at one input. -/
def fnUpstreamWrong : ChangeSpec := { name := "fnUpstream", fn := fun _ => fun
  | [d] => { results := [.lit (.bool false)], args := [d] }
  | _ => none }
def FnUpstreamWrongFalsely : Prop := fnUpstreamRow.holds Try.pinned (OpenSpec.ofChange fnUpstreamWrong)

/- THE SECOND FORM. 'bulk': how many values and letters a reading holds, each counted each time it is reached (what is shared counts as often as it is met; a slice's spare places count too). A statement '..UptoSaid' is the law's where the arguments, and the package variables that the reading takes, are together of bulk at most 1048576: NARROWER than '..Said'. Prove '..Said' where nothing that the law and all that it calls make is longer than what came in: it says more and counts as full. Else prove '..UptoSaid'. A law counts once. -/
mutual
def uptoBulk {H : Type} : DataW H → Nat
  | .lit (.string bytes) => bytes.length + 1
  | .lit _ => 1
  | .nil => 1
  | .ptr d => uptoBulk d + 1
  | .slice elems spare => uptoBulkAll elems + uptoBulkAll spare + 1
  | .agg parts => uptoBulkAll parts + 1
  | .iface _ d => uptoBulk d + 1
  | .map entries => uptoBulkEntries entries + 1
  | .held _ => 1
def uptoBulkAll {H : Type} : List (DataW H) → Nat
  | [] => 0
  | d :: r => uptoBulk d + uptoBulkAll r
def uptoBulkEntries {H : Type} : List (Lit × DataW H) → Nat
  | [] => 0
  | x :: r => uptoBulkEntry x + uptoBulkEntries r
def uptoBulkEntry {H : Type} : Lit × DataW H → Nat
  | (.string bytes, d) => bytes.length + uptoBulk d + 1
  | (_, d) => uptoBulk d + 1
 end
def uptoSmall : (H : Type) → List (DataW H) → Bool := fun _ ds => decide (uptoBulkAll ds ≤ 1048576)
def OpenSpec.upto (s : _root_.Go.ChangeSpec) : _root_.Go.OpenSpec := { _root_.Go.OpenSpec.ofChange s with cond := some uptoSmall }

/-- 'laws.FnExactBestPlace', WHERE WHAT IT READS IS OF BULK AT MOST 1048576: true; the input reads as it did. -/
def fnExactBestPlaceUptoRow : OpenClaim := { program := "ytcjidnpkeliieaa", sum := "2051e6695e8e7e257779d7531e351ba5e5eaf1c9c4661bef16a10c4aa31d3555", func := "loop.example/g00941/laws.FnExactBestPlace", spec := "fnExactBestPlace", unfollowed := true, recurses := true, apart := false, narrowed := true }
def FnExactBestPlaceUptoSaid : Prop := fnExactBestPlaceUptoRow.holds Try.pinned (OpenSpec.upto fnExactBestPlaceSpec)

/-- 'laws.FnExactUseOf', WHERE WHAT IT READS IS OF BULK AT MOST 1048576: true; the input reads as it did. -/
def fnExactUseOfUptoRow : OpenClaim := { program := "ytcjidnpkeliieaa", sum := "2051e6695e8e7e257779d7531e351ba5e5eaf1c9c4661bef16a10c4aa31d3555", func := "loop.example/g00941/laws.FnExactUseOf", spec := "fnExactUseOf", unfollowed := true, recurses := true, apart := false, narrowed := true }
def FnExactUseOfUptoSaid : Prop := fnExactUseOfUptoRow.holds Try.pinned (OpenSpec.upto fnExactUseOfSpec)

/-- 'laws.FnExactBestCircuit', WHERE WHAT IT READS IS OF BULK AT MOST 1048576: true; the input reads as it did. -/
def fnExactBestCircuitUptoRow : OpenClaim := { program := "ytcjidnpkeliieaa", sum := "2051e6695e8e7e257779d7531e351ba5e5eaf1c9c4661bef16a10c4aa31d3555", func := "loop.example/g00941/laws.FnExactBestCircuit", spec := "fnExactBestCircuit", unfollowed := true, recurses := true, apart := false, narrowed := true }
def FnExactBestCircuitUptoSaid : Prop := fnExactBestCircuitUptoRow.holds Try.pinned (OpenSpec.upto fnExactBestCircuitSpec)

/-- 'laws.FnExactCriticalPlaces', WHERE WHAT IT READS IS OF BULK AT MOST 1048576: true; the input reads as it did. -/
def fnExactCriticalPlacesUptoRow : OpenClaim := { program := "ytcjidnpkeliieaa", sum := "2051e6695e8e7e257779d7531e351ba5e5eaf1c9c4661bef16a10c4aa31d3555", func := "loop.example/g00941/laws.FnExactCriticalPlaces", spec := "fnExactCriticalPlaces", unfollowed := true, recurses := true, apart := false, narrowed := true }
def FnExactCriticalPlacesUptoSaid : Prop := fnExactCriticalPlacesUptoRow.holds Try.pinned (OpenSpec.upto fnExactCriticalPlacesSpec)

/-- 'laws.FnExactMarginsOf', WHERE WHAT IT READS IS OF BULK AT MOST 1048576: true; the input reads as it did. -/
def fnExactMarginsOfUptoRow : OpenClaim := { program := "ytcjidnpkeliieaa", sum := "2051e6695e8e7e257779d7531e351ba5e5eaf1c9c4661bef16a10c4aa31d3555", func := "loop.example/g00941/laws.FnExactMarginsOf", spec := "fnExactMarginsOf", unfollowed := true, recurses := true, apart := false, narrowed := true }
def FnExactMarginsOfUptoSaid : Prop := fnExactMarginsOfUptoRow.holds Try.pinned (OpenSpec.upto fnExactMarginsOfSpec)

/-- 'laws.FnExactMarginOf', WHERE WHAT IT READS IS OF BULK AT MOST 1048576: true; the input reads as it did. -/
def fnExactMarginOfUptoRow : OpenClaim := { program := "ytcjidnpkeliieaa", sum := "2051e6695e8e7e257779d7531e351ba5e5eaf1c9c4661bef16a10c4aa31d3555", func := "loop.example/g00941/laws.FnExactMarginOf", spec := "fnExactMarginOf", unfollowed := true, recurses := true, apart := false, narrowed := true }
def FnExactMarginOfUptoSaid : Prop := fnExactMarginOfUptoRow.holds Try.pinned (OpenSpec.upto fnExactMarginOfSpec)

/-- 'laws.FnExactCertifyTime', WHERE WHAT IT READS IS OF BULK AT MOST 1048576: true; the input reads as it did. -/
def fnExactCertifyTimeUptoRow : OpenClaim := { program := "ytcjidnpkeliieaa", sum := "2051e6695e8e7e257779d7531e351ba5e5eaf1c9c4661bef16a10c4aa31d3555", func := "loop.example/g00941/laws.FnExactCertifyTime", spec := "fnExactCertifyTime", unfollowed := true, recurses := true, apart := false, narrowed := true }
def FnExactCertifyTimeUptoSaid : Prop := fnExactCertifyTimeUptoRow.holds Try.pinned (OpenSpec.upto fnExactCertifyTimeSpec)

/-- 'laws.FnExactEigenVector', WHERE WHAT IT READS IS OF BULK AT MOST 1048576: true; the input reads as it did. -/
def fnExactEigenVectorUptoRow : OpenClaim := { program := "ytcjidnpkeliieaa", sum := "2051e6695e8e7e257779d7531e351ba5e5eaf1c9c4661bef16a10c4aa31d3555", func := "loop.example/g00941/laws.FnExactEigenVector", spec := "fnExactEigenVector", unfollowed := true, recurses := true, apart := false, narrowed := true }
def FnExactEigenVectorUptoSaid : Prop := fnExactEigenVectorUptoRow.holds Try.pinned (OpenSpec.upto fnExactEigenVectorSpec)

/-- 'laws.FnExactCertifyMean', WHERE WHAT IT READS IS OF BULK AT MOST 1048576: true; the input reads as it did. -/
def fnExactCertifyMeanUptoRow : OpenClaim := { program := "ytcjidnpkeliieaa", sum := "2051e6695e8e7e257779d7531e351ba5e5eaf1c9c4661bef16a10c4aa31d3555", func := "loop.example/g00941/laws.FnExactCertifyMean", spec := "fnExactCertifyMean", unfollowed := true, recurses := true, apart := false, narrowed := true }
def FnExactCertifyMeanUptoSaid : Prop := fnExactCertifyMeanUptoRow.holds Try.pinned (OpenSpec.upto fnExactCertifyMeanSpec)

/-- 'laws.FnExactWorstRate', WHERE WHAT IT READS IS OF BULK AT MOST 1048576: true; the input reads as it did. -/
def fnExactWorstRateUptoRow : OpenClaim := { program := "ytcjidnpkeliieaa", sum := "2051e6695e8e7e257779d7531e351ba5e5eaf1c9c4661bef16a10c4aa31d3555", func := "loop.example/g00941/laws.FnExactWorstRate", spec := "fnExactWorstRate", unfollowed := true, recurses := true, apart := false, narrowed := true }
def FnExactWorstRateUptoSaid : Prop := fnExactWorstRateUptoRow.holds Try.pinned (OpenSpec.upto fnExactWorstRateSpec)

/-- 'laws.FnExactSlowestWord', WHERE WHAT IT READS IS OF BULK AT MOST 1048576: true; the input reads as it did. -/
def fnExactSlowestWordUptoRow : OpenClaim := { program := "ytcjidnpkeliieaa", sum := "2051e6695e8e7e257779d7531e351ba5e5eaf1c9c4661bef16a10c4aa31d3555", func := "loop.example/g00941/laws.FnExactSlowestWord", spec := "fnExactSlowestWord", unfollowed := true, recurses := true, apart := false, narrowed := true }
def FnExactSlowestWordUptoSaid : Prop := fnExactSlowestWordUptoRow.holds Try.pinned (OpenSpec.upto fnExactSlowestWordSpec)

/-- 'laws.FnUpstream', WHERE WHAT IT READS IS OF BULK AT MOST 1048576: true; the input reads as it did. -/
def fnUpstreamUptoRow : OpenClaim := { program := "ytcjidnpkeliieaa", sum := "2051e6695e8e7e257779d7531e351ba5e5eaf1c9c4661bef16a10c4aa31d3555", func := "loop.example/g00941/laws.FnUpstream", spec := "fnUpstream", unfollowed := true, recurses := true, apart := false, narrowed := true }
def FnUpstreamUptoSaid : Prop := fnUpstreamUptoRow.holds Try.pinned (OpenSpec.upto fnUpstreamSpec)

end Rows
end Go.Proofs.Ytcjidnpkeliieaa
