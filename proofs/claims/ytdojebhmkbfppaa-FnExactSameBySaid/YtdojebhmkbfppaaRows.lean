/-
  No cell of these rows narrows 'for every input' (looked for: loops, veiled, ifaces, maps, wideKeys, modest, calm, conditions, laid).
  DERIVED. THE GIVEN ROWS OF THIS SEAT. 14 by the template 'for every input the law returns true; each argument reads behind the call as it read before'; 0 by the template 'total and deterministic' (their statements: YtdojebhmkbfppaaTotals.lean).
  GIVEN WITH THE SEED: the statements are not yours to turn. If you find one false, say at which input.
  Laid BY PROGRAM, IN A SANDBOX (cutbox-rows.mjs): the forced cells as the released guide's own fill.sh prints them over the translation 816688528468ae19… (all of the seat's roots in one cut). By AI agents, Wed Nov 11 2026. No macro, syntax, notation, axiom, sorry.
-/
import Derived.Test.YtdojebhmkbfppaaChecked
import GoSem.Claim
import GoSem.ClaimJoined
import GoSem.ClaimMapViews
import Derived.JoinedTies
import Derived.KernelRfl
namespace Go.Proofs.Ytdojebhmkbfppaa
/- THE CELL 'sum', in the pinned program and in every row, IS THE sha256 OF THE DUMP (.gsa) THAT YtdojebhmkbfppaaProg.lean LOADS. Nothing in Lean hashes anything: it is a label: what it is worth is what the hold of that sum in a sandbox is worth. -/
noncomputable def Try.pinned : Pinned := { name := "ytdojebhmkbfppaa", sum := "816688528468ae19d13526e9add1f76789abd17854d98209e1315897ae322f76", checked := Try.checked }
namespace Rows
def none {H : Type} : Left H := { results := [], args := [] }

/-- 'laws.FnExactValueOf': WHATEVER THE INPUT: true; the input reads as it did. -/
def fnExactValueOfSpec : ChangeSpec := { name := "fnExactValueOf", fn := fun _ => fun
  | [d1, d2, d3] => { results := [.lit (.bool true)], args := [d1, d2, d3] }
  | _ => none }
def fnExactValueOfRow : OpenClaim := { program := "ytdojebhmkbfppaa", sum := "816688528468ae19d13526e9add1f76789abd17854d98209e1315897ae322f76", func := "loop.example/residuatedtables/laws.FnExactValueOf", spec := "fnExactValueOf", unfollowed := true, recurses := true, apart := false }
def FnExactValueOfSaid : Prop := fnExactValueOfRow.holds Try.pinned (OpenSpec.ofChange fnExactValueOfSpec)

/-- ITS FALSE NEIGHBOUR: 'it returns false'. Refute it at one input. -/
def fnExactValueOfWrong : ChangeSpec := { name := "fnExactValueOf", fn := fun _ => fun
  | [d1, d2, d3] => { results := [.lit (.bool false)], args := [d1, d2, d3] }
  | _ => none }
def FnExactValueOfWrongFalsely : Prop := fnExactValueOfRow.holds Try.pinned (OpenSpec.ofChange fnExactValueOfWrong)

/-- 'laws.FnExactPrimeFilters': WHATEVER THE INPUT: true; the input reads as it did. -/
def fnExactPrimeFiltersSpec : ChangeSpec := { name := "fnExactPrimeFilters", fn := fun _ => fun
  | [d] => { results := [.lit (.bool true)], args := [d] }
  | _ => none }
def fnExactPrimeFiltersRow : OpenClaim := { program := "ytdojebhmkbfppaa", sum := "816688528468ae19d13526e9add1f76789abd17854d98209e1315897ae322f76", func := "loop.example/residuatedtables/laws.FnExactPrimeFilters", spec := "fnExactPrimeFilters", unfollowed := true, recurses := true, apart := false }
def FnExactPrimeFiltersSaid : Prop := fnExactPrimeFiltersRow.holds Try.pinned (OpenSpec.ofChange fnExactPrimeFiltersSpec)

/-- ITS FALSE NEIGHBOUR: 'it returns false'. Refute it at one input. -/
def fnExactPrimeFiltersWrong : ChangeSpec := { name := "fnExactPrimeFilters", fn := fun _ => fun
  | [d] => { results := [.lit (.bool false)], args := [d] }
  | _ => none }
def FnExactPrimeFiltersWrongFalsely : Prop := fnExactPrimeFiltersRow.holds Try.pinned (OpenSpec.ofChange fnExactPrimeFiltersWrong)

/-- 'laws.FnExactChainsOf': WHATEVER THE INPUT: true; the input reads as it did. -/
def fnExactChainsOfSpec : ChangeSpec := { name := "fnExactChainsOf", fn := fun _ => fun
  | [d] => { results := [.lit (.bool true)], args := [d] }
  | _ => none }
def fnExactChainsOfRow : OpenClaim := { program := "ytdojebhmkbfppaa", sum := "816688528468ae19d13526e9add1f76789abd17854d98209e1315897ae322f76", func := "loop.example/residuatedtables/laws.FnExactChainsOf", spec := "fnExactChainsOf", unfollowed := true, recurses := true, apart := false }
def FnExactChainsOfSaid : Prop := fnExactChainsOfRow.holds Try.pinned (OpenSpec.ofChange fnExactChainsOfSpec)

/-- ITS FALSE NEIGHBOUR: 'it returns false'. Refute it at one input. -/
def fnExactChainsOfWrong : ChangeSpec := { name := "fnExactChainsOf", fn := fun _ => fun
  | [d] => { results := [.lit (.bool false)], args := [d] }
  | _ => none }
def FnExactChainsOfWrongFalsely : Prop := fnExactChainsOfRow.holds Try.pinned (OpenSpec.ofChange fnExactChainsOfWrong)

/-- 'laws.FnExactChainCount': WHATEVER THE INPUT: true; the input reads as it did. -/
def fnExactChainCountSpec : ChangeSpec := { name := "fnExactChainCount", fn := fun _ => fun
  | [d1, d2] => { results := [.lit (.bool true)], args := [d1, d2] }
  | _ => none }
def fnExactChainCountRow : OpenClaim := { program := "ytdojebhmkbfppaa", sum := "816688528468ae19d13526e9add1f76789abd17854d98209e1315897ae322f76", func := "loop.example/residuatedtables/laws.FnExactChainCount", spec := "fnExactChainCount", unfollowed := true, recurses := true, apart := false }
def FnExactChainCountSaid : Prop := fnExactChainCountRow.holds Try.pinned (OpenSpec.ofChange fnExactChainCountSpec)

/-- ITS FALSE NEIGHBOUR: 'it returns false'. Refute it at one input. -/
def fnExactChainCountWrong : ChangeSpec := { name := "fnExactChainCount", fn := fun _ => fun
  | [d1, d2] => { results := [.lit (.bool false)], args := [d1, d2] }
  | _ => none }
def FnExactChainCountWrongFalsely : Prop := fnExactChainCountRow.holds Try.pinned (OpenSpec.ofChange fnExactChainCountWrong)

/-- 'laws.FnExactFixedBy': WHATEVER THE INPUT: true; the input reads as it did. -/
def fnExactFixedBySpec : ChangeSpec := { name := "fnExactFixedBy", fn := fun _ => fun
  | [d1, d2] => { results := [.lit (.bool true)], args := [d1, d2] }
  | _ => none }
def fnExactFixedByRow : OpenClaim := { program := "ytdojebhmkbfppaa", sum := "816688528468ae19d13526e9add1f76789abd17854d98209e1315897ae322f76", func := "loop.example/residuatedtables/laws.FnExactFixedBy", spec := "fnExactFixedBy", unfollowed := true, recurses := true, apart := false }
def FnExactFixedBySaid : Prop := fnExactFixedByRow.holds Try.pinned (OpenSpec.ofChange fnExactFixedBySpec)

/-- ITS FALSE NEIGHBOUR: 'it returns false'. Refute it at one input. -/
def fnExactFixedByWrong : ChangeSpec := { name := "fnExactFixedBy", fn := fun _ => fun
  | [d1, d2] => { results := [.lit (.bool false)], args := [d1, d2] }
  | _ => none }
def FnExactFixedByWrongFalsely : Prop := fnExactFixedByRow.holds Try.pinned (OpenSpec.ofChange fnExactFixedByWrong)

/-- 'laws.FnExactNucleiOf': WHATEVER THE INPUT: true; the input reads as it did. -/
def fnExactNucleiOfSpec : ChangeSpec := { name := "fnExactNucleiOf", fn := fun _ => fun
  | [d] => { results := [.lit (.bool true)], args := [d] }
  | _ => none }
def fnExactNucleiOfRow : OpenClaim := { program := "ytdojebhmkbfppaa", sum := "816688528468ae19d13526e9add1f76789abd17854d98209e1315897ae322f76", func := "loop.example/residuatedtables/laws.FnExactNucleiOf", spec := "fnExactNucleiOf", unfollowed := true, recurses := true, apart := false }
def FnExactNucleiOfSaid : Prop := fnExactNucleiOfRow.holds Try.pinned (OpenSpec.ofChange fnExactNucleiOfSpec)

/-- ITS FALSE NEIGHBOUR: 'it returns false'. Refute it at one input. -/
def fnExactNucleiOfWrong : ChangeSpec := { name := "fnExactNucleiOf", fn := fun _ => fun
  | [d] => { results := [.lit (.bool false)], args := [d] }
  | _ => none }
def FnExactNucleiOfWrongFalsely : Prop := fnExactNucleiOfRow.holds Try.pinned (OpenSpec.ofChange fnExactNucleiOfWrong)

/-- 'laws.FnExactMapsOf': WHATEVER THE INPUT: true; the input reads as it did. -/
def fnExactMapsOfSpec : ChangeSpec := { name := "fnExactMapsOf", fn := fun _ => fun
  | [d1, d2] => { results := [.lit (.bool true)], args := [d1, d2] }
  | _ => none }
def fnExactMapsOfRow : OpenClaim := { program := "ytdojebhmkbfppaa", sum := "816688528468ae19d13526e9add1f76789abd17854d98209e1315897ae322f76", func := "loop.example/residuatedtables/laws.FnExactMapsOf", spec := "fnExactMapsOf", unfollowed := true, recurses := true, apart := false }
def FnExactMapsOfSaid : Prop := fnExactMapsOfRow.holds Try.pinned (OpenSpec.ofChange fnExactMapsOfSpec)

/-- ITS FALSE NEIGHBOUR: 'it returns false'. Refute it at one input. -/
def fnExactMapsOfWrong : ChangeSpec := { name := "fnExactMapsOf", fn := fun _ => fun
  | [d1, d2] => { results := [.lit (.bool false)], args := [d1, d2] }
  | _ => none }
def FnExactMapsOfWrongFalsely : Prop := fnExactMapsOfRow.holds Try.pinned (OpenSpec.ofChange fnExactMapsOfWrong)

/-- 'laws.FnExactFollows': WHATEVER THE INPUT: true; the input reads as it did. -/
def fnExactFollowsSpec : ChangeSpec := { name := "fnExactFollows", fn := fun _ => fun
  | [d1, d2, d3] => { results := [.lit (.bool true)], args := [d1, d2, d3] }
  | _ => none }
def fnExactFollowsRow : OpenClaim := { program := "ytdojebhmkbfppaa", sum := "816688528468ae19d13526e9add1f76789abd17854d98209e1315897ae322f76", func := "loop.example/residuatedtables/laws.FnExactFollows", spec := "fnExactFollows", unfollowed := true, recurses := true, apart := false }
def FnExactFollowsSaid : Prop := fnExactFollowsRow.holds Try.pinned (OpenSpec.ofChange fnExactFollowsSpec)

/-- ITS FALSE NEIGHBOUR: 'it returns false'. Refute it at one input. -/
def fnExactFollowsWrong : ChangeSpec := { name := "fnExactFollows", fn := fun _ => fun
  | [d1, d2, d3] => { results := [.lit (.bool false)], args := [d1, d2, d3] }
  | _ => none }
def FnExactFollowsWrongFalsely : Prop := fnExactFollowsRow.holds Try.pinned (OpenSpec.ofChange fnExactFollowsWrong)

/-- 'laws.FnExactSameBy': WHATEVER THE INPUT: true; the input reads as it did. -/
def fnExactSameBySpec : ChangeSpec := { name := "fnExactSameBy", fn := fun _ => fun
  | [d1, d2] => { results := [.lit (.bool true)], args := [d1, d2] }
  | _ => none }
def fnExactSameByRow : OpenClaim := { program := "ytdojebhmkbfppaa", sum := "816688528468ae19d13526e9add1f76789abd17854d98209e1315897ae322f76", func := "loop.example/residuatedtables/laws.FnExactSameBy", spec := "fnExactSameBy", unfollowed := true, recurses := true, apart := false }
def FnExactSameBySaid : Prop := fnExactSameByRow.holds Try.pinned (OpenSpec.ofChange fnExactSameBySpec)

/-- ITS FALSE NEIGHBOUR: 'it returns false'. Refute it at one input. -/
def fnExactSameByWrong : ChangeSpec := { name := "fnExactSameBy", fn := fun _ => fun
  | [d1, d2] => { results := [.lit (.bool false)], args := [d1, d2] }
  | _ => none }
def FnExactSameByWrongFalsely : Prop := fnExactSameByRow.holds Try.pinned (OpenSpec.ofChange fnExactSameByWrong)

/-- 'laws.FnExactQuotientOf': WHATEVER THE INPUT: true; the input reads as it did. -/
def fnExactQuotientOfSpec : ChangeSpec := { name := "fnExactQuotientOf", fn := fun _ => fun
  | [d1, d2] => { results := [.lit (.bool true)], args := [d1, d2] }
  | _ => none }
def fnExactQuotientOfRow : OpenClaim := { program := "ytdojebhmkbfppaa", sum := "816688528468ae19d13526e9add1f76789abd17854d98209e1315897ae322f76", func := "loop.example/residuatedtables/laws.FnExactQuotientOf", spec := "fnExactQuotientOf", unfollowed := true, recurses := true, apart := false }
def FnExactQuotientOfSaid : Prop := fnExactQuotientOfRow.holds Try.pinned (OpenSpec.ofChange fnExactQuotientOfSpec)

/-- ITS FALSE NEIGHBOUR: 'it returns false'. Refute it at one input. -/
def fnExactQuotientOfWrong : ChangeSpec := { name := "fnExactQuotientOf", fn := fun _ => fun
  | [d1, d2] => { results := [.lit (.bool false)], args := [d1, d2] }
  | _ => none }
def FnExactQuotientOfWrongFalsely : Prop := fnExactQuotientOfRow.holds Try.pinned (OpenSpec.ofChange fnExactQuotientOfWrong)

/-- 'laws.FnExactLeastPower': WHATEVER THE INPUT: true; the input reads as it did. -/
def fnExactLeastPowerSpec : ChangeSpec := { name := "fnExactLeastPower", fn := fun _ => fun
  | [d1, d2, d3] => { results := [.lit (.bool true)], args := [d1, d2, d3] }
  | _ => none }
def fnExactLeastPowerRow : OpenClaim := { program := "ytdojebhmkbfppaa", sum := "816688528468ae19d13526e9add1f76789abd17854d98209e1315897ae322f76", func := "loop.example/residuatedtables/laws.FnExactLeastPower", spec := "fnExactLeastPower", unfollowed := true, recurses := true, apart := false }
def FnExactLeastPowerSaid : Prop := fnExactLeastPowerRow.holds Try.pinned (OpenSpec.ofChange fnExactLeastPowerSpec)

/-- ITS FALSE NEIGHBOUR: 'it returns false'. Refute it at one input. -/
def fnExactLeastPowerWrong : ChangeSpec := { name := "fnExactLeastPower", fn := fun _ => fun
  | [d1, d2, d3] => { results := [.lit (.bool false)], args := [d1, d2, d3] }
  | _ => none }
def FnExactLeastPowerWrongFalsely : Prop := fnExactLeastPowerRow.holds Try.pinned (OpenSpec.ofChange fnExactLeastPowerWrong)

/-- 'laws.FnExactIsTrue': WHATEVER THE INPUT: true; the input reads as it did. -/
def fnExactIsTrueSpec : ChangeSpec := { name := "fnExactIsTrue", fn := fun _ => fun
  | [d1, d2] => { results := [.lit (.bool true)], args := [d1, d2] }
  | _ => none }
def fnExactIsTrueRow : OpenClaim := { program := "ytdojebhmkbfppaa", sum := "816688528468ae19d13526e9add1f76789abd17854d98209e1315897ae322f76", func := "loop.example/residuatedtables/laws.FnExactIsTrue", spec := "fnExactIsTrue", unfollowed := true, recurses := true, apart := false }
def FnExactIsTrueSaid : Prop := fnExactIsTrueRow.holds Try.pinned (OpenSpec.ofChange fnExactIsTrueSpec)

/-- ITS FALSE NEIGHBOUR: 'it returns false'. Refute it at one input. -/
def fnExactIsTrueWrong : ChangeSpec := { name := "fnExactIsTrue", fn := fun _ => fun
  | [d1, d2] => { results := [.lit (.bool false)], args := [d1, d2] }
  | _ => none }
def FnExactIsTrueWrongFalsely : Prop := fnExactIsTrueRow.holds Try.pinned (OpenSpec.ofChange fnExactIsTrueWrong)

/-- 'laws.FnExactSizesOf': WHATEVER THE INPUT: true; the input reads as it did. -/
def fnExactSizesOfSpec : ChangeSpec := { name := "fnExactSizesOf", fn := fun _ => fun
  | [d] => { results := [.lit (.bool true)], args := [d] }
  | _ => none }
def fnExactSizesOfRow : OpenClaim := { program := "ytdojebhmkbfppaa", sum := "816688528468ae19d13526e9add1f76789abd17854d98209e1315897ae322f76", func := "loop.example/residuatedtables/laws.FnExactSizesOf", spec := "fnExactSizesOf", unfollowed := true, recurses := true, apart := false }
def FnExactSizesOfSaid : Prop := fnExactSizesOfRow.holds Try.pinned (OpenSpec.ofChange fnExactSizesOfSpec)

/-- ITS FALSE NEIGHBOUR: 'it returns false'. Refute it at one input. -/
def fnExactSizesOfWrong : ChangeSpec := { name := "fnExactSizesOf", fn := fun _ => fun
  | [d] => { results := [.lit (.bool false)], args := [d] }
  | _ => none }
def FnExactSizesOfWrongFalsely : Prop := fnExactSizesOfRow.holds Try.pinned (OpenSpec.ofChange fnExactSizesOfWrong)

/-- 'laws.FnExactRefuteTerm': WHATEVER THE INPUT: true; the input reads as it did. -/
def fnExactRefuteTermSpec : ChangeSpec := { name := "fnExactRefuteTerm", fn := fun _ => fun
  | [d1, d2] => { results := [.lit (.bool true)], args := [d1, d2] }
  | _ => none }
def fnExactRefuteTermRow : OpenClaim := { program := "ytdojebhmkbfppaa", sum := "816688528468ae19d13526e9add1f76789abd17854d98209e1315897ae322f76", func := "loop.example/residuatedtables/laws.FnExactRefuteTerm", spec := "fnExactRefuteTerm", unfollowed := true, recurses := true, apart := false }
def FnExactRefuteTermSaid : Prop := fnExactRefuteTermRow.holds Try.pinned (OpenSpec.ofChange fnExactRefuteTermSpec)

/-- ITS FALSE NEIGHBOUR: 'it returns false'. Refute it at one input. -/
def fnExactRefuteTermWrong : ChangeSpec := { name := "fnExactRefuteTerm", fn := fun _ => fun
  | [d1, d2] => { results := [.lit (.bool false)], args := [d1, d2] }
  | _ => none }
def FnExactRefuteTermWrongFalsely : Prop := fnExactRefuteTermRow.holds Try.pinned (OpenSpec.ofChange fnExactRefuteTermWrong)

/- THE SECOND FORM. 'bulk': how many values and letters a reading holds, each counted each time it is reached (what is shared counts as often as it is met; a slice's spare places count too). A statement '..UptoSaid' is the law's where the arguments, and the package variables that the reading takes, are together of bulk at most 1048576: NARROWER than '..Said'. Prove '..Said' where nothing that the law and all that it calls make is longer than what came in: it says more and counts as full. Else prove '..UptoSaid'. A law counts once. -/
mutual
def uptoBulk {H : Type} : DataW H → Nat
  | .lit (.string bytes) => bytes.length + 1
  | .lit _ => 1
  | .nil => 1
  | .ptr d => uptoBulk d + 1
  | .slice elems spare => uptoBulkAll elems + uptoBulkAll spare + 1
  | .agg parts => uptoBulkAll parts + 1
  | .iface _ d => uptoBulk d + 1
  | .map entries => uptoBulkEntries entries + 1
  | .held _ => 1
def uptoBulkAll {H : Type} : List (DataW H) → Nat
  | [] => 0
  | d :: r => uptoBulk d + uptoBulkAll r
def uptoBulkEntries {H : Type} : List (Lit × DataW H) → Nat
  | [] => 0
  | x :: r => uptoBulkEntry x + uptoBulkEntries r
def uptoBulkEntry {H : Type} : Lit × DataW H → Nat
  | (.string bytes, d) => bytes.length + uptoBulk d + 1
  | (_, d) => uptoBulk d + 1
 end
def uptoSmall : (H : Type) → List (DataW H) → Bool := fun _ ds => decide (uptoBulkAll ds ≤ 1048576)
def OpenSpec.upto (s : _root_.Go.ChangeSpec) : _root_.Go.OpenSpec := { _root_.Go.OpenSpec.ofChange s with cond := some uptoSmall }

/-- 'laws.FnExactValueOf', WHERE WHAT IT READS IS OF BULK AT MOST 1048576: true; the input reads as it did. -/
def fnExactValueOfUptoRow : OpenClaim := { program := "ytdojebhmkbfppaa", sum := "816688528468ae19d13526e9add1f76789abd17854d98209e1315897ae322f76", func := "loop.example/residuatedtables/laws.FnExactValueOf", spec := "fnExactValueOf", unfollowed := true, recurses := true, apart := false, narrowed := true }
def FnExactValueOfUptoSaid : Prop := fnExactValueOfUptoRow.holds Try.pinned (OpenSpec.upto fnExactValueOfSpec)

/-- 'laws.FnExactPrimeFilters', WHERE WHAT IT READS IS OF BULK AT MOST 1048576: true; the input reads as it did. -/
def fnExactPrimeFiltersUptoRow : OpenClaim := { program := "ytdojebhmkbfppaa", sum := "816688528468ae19d13526e9add1f76789abd17854d98209e1315897ae322f76", func := "loop.example/residuatedtables/laws.FnExactPrimeFilters", spec := "fnExactPrimeFilters", unfollowed := true, recurses := true, apart := false, narrowed := true }
def FnExactPrimeFiltersUptoSaid : Prop := fnExactPrimeFiltersUptoRow.holds Try.pinned (OpenSpec.upto fnExactPrimeFiltersSpec)

/-- 'laws.FnExactChainsOf', WHERE WHAT IT READS IS OF BULK AT MOST 1048576: true; the input reads as it did. -/
def fnExactChainsOfUptoRow : OpenClaim := { program := "ytdojebhmkbfppaa", sum := "816688528468ae19d13526e9add1f76789abd17854d98209e1315897ae322f76", func := "loop.example/residuatedtables/laws.FnExactChainsOf", spec := "fnExactChainsOf", unfollowed := true, recurses := true, apart := false, narrowed := true }
def FnExactChainsOfUptoSaid : Prop := fnExactChainsOfUptoRow.holds Try.pinned (OpenSpec.upto fnExactChainsOfSpec)

/-- 'laws.FnExactChainCount', WHERE WHAT IT READS IS OF BULK AT MOST 1048576: true; the input reads as it did. -/
def fnExactChainCountUptoRow : OpenClaim := { program := "ytdojebhmkbfppaa", sum := "816688528468ae19d13526e9add1f76789abd17854d98209e1315897ae322f76", func := "loop.example/residuatedtables/laws.FnExactChainCount", spec := "fnExactChainCount", unfollowed := true, recurses := true, apart := false, narrowed := true }
def FnExactChainCountUptoSaid : Prop := fnExactChainCountUptoRow.holds Try.pinned (OpenSpec.upto fnExactChainCountSpec)

/-- 'laws.FnExactFixedBy', WHERE WHAT IT READS IS OF BULK AT MOST 1048576: true; the input reads as it did. -/
def fnExactFixedByUptoRow : OpenClaim := { program := "ytdojebhmkbfppaa", sum := "816688528468ae19d13526e9add1f76789abd17854d98209e1315897ae322f76", func := "loop.example/residuatedtables/laws.FnExactFixedBy", spec := "fnExactFixedBy", unfollowed := true, recurses := true, apart := false, narrowed := true }
def FnExactFixedByUptoSaid : Prop := fnExactFixedByUptoRow.holds Try.pinned (OpenSpec.upto fnExactFixedBySpec)

/-- 'laws.FnExactNucleiOf', WHERE WHAT IT READS IS OF BULK AT MOST 1048576: true; the input reads as it did. -/
def fnExactNucleiOfUptoRow : OpenClaim := { program := "ytdojebhmkbfppaa", sum := "816688528468ae19d13526e9add1f76789abd17854d98209e1315897ae322f76", func := "loop.example/residuatedtables/laws.FnExactNucleiOf", spec := "fnExactNucleiOf", unfollowed := true, recurses := true, apart := false, narrowed := true }
def FnExactNucleiOfUptoSaid : Prop := fnExactNucleiOfUptoRow.holds Try.pinned (OpenSpec.upto fnExactNucleiOfSpec)

/-- 'laws.FnExactMapsOf', WHERE WHAT IT READS IS OF BULK AT MOST 1048576: true; the input reads as it did. -/
def fnExactMapsOfUptoRow : OpenClaim := { program := "ytdojebhmkbfppaa", sum := "816688528468ae19d13526e9add1f76789abd17854d98209e1315897ae322f76", func := "loop.example/residuatedtables/laws.FnExactMapsOf", spec := "fnExactMapsOf", unfollowed := true, recurses := true, apart := false, narrowed := true }
def FnExactMapsOfUptoSaid : Prop := fnExactMapsOfUptoRow.holds Try.pinned (OpenSpec.upto fnExactMapsOfSpec)

/-- 'laws.FnExactFollows', WHERE WHAT IT READS IS OF BULK AT MOST 1048576: true; the input reads as it did. -/
def fnExactFollowsUptoRow : OpenClaim := { program := "ytdojebhmkbfppaa", sum := "816688528468ae19d13526e9add1f76789abd17854d98209e1315897ae322f76", func := "loop.example/residuatedtables/laws.FnExactFollows", spec := "fnExactFollows", unfollowed := true, recurses := true, apart := false, narrowed := true }
def FnExactFollowsUptoSaid : Prop := fnExactFollowsUptoRow.holds Try.pinned (OpenSpec.upto fnExactFollowsSpec)

/-- 'laws.FnExactSameBy', WHERE WHAT IT READS IS OF BULK AT MOST 1048576: true; the input reads as it did. -/
def fnExactSameByUptoRow : OpenClaim := { program := "ytdojebhmkbfppaa", sum := "816688528468ae19d13526e9add1f76789abd17854d98209e1315897ae322f76", func := "loop.example/residuatedtables/laws.FnExactSameBy", spec := "fnExactSameBy", unfollowed := true, recurses := true, apart := false, narrowed := true }
def FnExactSameByUptoSaid : Prop := fnExactSameByUptoRow.holds Try.pinned (OpenSpec.upto fnExactSameBySpec)

/-- 'laws.FnExactQuotientOf', WHERE WHAT IT READS IS OF BULK AT MOST 1048576: true; the input reads as it did. -/
def fnExactQuotientOfUptoRow : OpenClaim := { program := "ytdojebhmkbfppaa", sum := "816688528468ae19d13526e9add1f76789abd17854d98209e1315897ae322f76", func := "loop.example/residuatedtables/laws.FnExactQuotientOf", spec := "fnExactQuotientOf", unfollowed := true, recurses := true, apart := false, narrowed := true }
def FnExactQuotientOfUptoSaid : Prop := fnExactQuotientOfUptoRow.holds Try.pinned (OpenSpec.upto fnExactQuotientOfSpec)

/-- 'laws.FnExactLeastPower', WHERE WHAT IT READS IS OF BULK AT MOST 1048576: true; the input reads as it did. -/
def fnExactLeastPowerUptoRow : OpenClaim := { program := "ytdojebhmkbfppaa", sum := "816688528468ae19d13526e9add1f76789abd17854d98209e1315897ae322f76", func := "loop.example/residuatedtables/laws.FnExactLeastPower", spec := "fnExactLeastPower", unfollowed := true, recurses := true, apart := false, narrowed := true }
def FnExactLeastPowerUptoSaid : Prop := fnExactLeastPowerUptoRow.holds Try.pinned (OpenSpec.upto fnExactLeastPowerSpec)

/-- 'laws.FnExactIsTrue', WHERE WHAT IT READS IS OF BULK AT MOST 1048576: true; the input reads as it did. -/
def fnExactIsTrueUptoRow : OpenClaim := { program := "ytdojebhmkbfppaa", sum := "816688528468ae19d13526e9add1f76789abd17854d98209e1315897ae322f76", func := "loop.example/residuatedtables/laws.FnExactIsTrue", spec := "fnExactIsTrue", unfollowed := true, recurses := true, apart := false, narrowed := true }
def FnExactIsTrueUptoSaid : Prop := fnExactIsTrueUptoRow.holds Try.pinned (OpenSpec.upto fnExactIsTrueSpec)

/-- 'laws.FnExactSizesOf', WHERE WHAT IT READS IS OF BULK AT MOST 1048576: true; the input reads as it did. -/
def fnExactSizesOfUptoRow : OpenClaim := { program := "ytdojebhmkbfppaa", sum := "816688528468ae19d13526e9add1f76789abd17854d98209e1315897ae322f76", func := "loop.example/residuatedtables/laws.FnExactSizesOf", spec := "fnExactSizesOf", unfollowed := true, recurses := true, apart := false, narrowed := true }
def FnExactSizesOfUptoSaid : Prop := fnExactSizesOfUptoRow.holds Try.pinned (OpenSpec.upto fnExactSizesOfSpec)

/-- 'laws.FnExactRefuteTerm', WHERE WHAT IT READS IS OF BULK AT MOST 1048576: true; the input reads as it did. -/
def fnExactRefuteTermUptoRow : OpenClaim := { program := "ytdojebhmkbfppaa", sum := "816688528468ae19d13526e9add1f76789abd17854d98209e1315897ae322f76", func := "loop.example/residuatedtables/laws.FnExactRefuteTerm", spec := "fnExactRefuteTerm", unfollowed := true, recurses := true, apart := false, narrowed := true }
def FnExactRefuteTermUptoSaid : Prop := fnExactRefuteTermUptoRow.holds Try.pinned (OpenSpec.upto fnExactRefuteTermSpec)

end Rows
end Go.Proofs.Ytdojebhmkbfppaa
