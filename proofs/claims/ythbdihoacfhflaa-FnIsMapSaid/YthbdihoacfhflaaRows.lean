/-
  No cell of these rows narrows 'for every input' (looked for: loops, veiled, ifaces, maps, wideKeys, modest, calm, conditions, laid).
  DERIVED. THE GIVEN ROWS OF THIS SEAT. 16 by the template 'for every input the law returns true; each argument reads behind the call as it read before'; 0 by the template 'total and deterministic' (their statements: YthbdihoacfhflaaTotals.lean).
  GIVEN WITH THE SEED: the statements are not yours to turn. If you find one false, say at which input.
  Laid BY PROGRAM, IN A SANDBOX (cutbox-rows.mjs): the forced cells as the released guide's own fill.sh prints them over the translation c4a4e6cf8101c13f… (all of the seat's roots in one cut). By AI agents, Wed Nov 11 2026. No macro, syntax, notation, axiom, sorry.
-/
import Derived.Test.YthbdihoacfhflaaChecked
import GoSem.Claim
import GoSem.ClaimJoined
import GoSem.ClaimMapViews
import Derived.JoinedTies
import Derived.KernelRfl
namespace Go.Proofs.Ythbdihoacfhflaa
/- THE CELL 'sum', in the pinned program and in every row, IS THE sha256 OF THE DUMP (.gsa) THAT YthbdihoacfhflaaProg.lean LOADS. Nothing in Lean hashes anything: it is a label: what it is worth is what the hold of that sum in a sandbox is worth. -/
noncomputable def Try.pinned : Pinned := { name := "ythbdihoacfhflaa", sum := "c4a4e6cf8101c13fdf0ada48f4dd92cfe5bfd8728f41464a5cfcf4b90d9d9501", checked := Try.checked }
namespace Rows
def none {H : Type} : Left H := { results := [], args := [] }

/-- 'laws.FnMeetAlgebra': WHATEVER THE INPUT: true; the input reads as it did. -/
def fnMeetAlgebraSpec : ChangeSpec := { name := "fnMeetAlgebra", fn := fun _ => fun
  | [d] => { results := [.lit (.bool true)], args := [d] }
  | _ => none }
def fnMeetAlgebraRow : OpenClaim := { program := "ythbdihoacfhflaa", sum := "c4a4e6cf8101c13fdf0ada48f4dd92cfe5bfd8728f41464a5cfcf4b90d9d9501", func := "loop.example/residuatedtables/laws.FnMeetAlgebra", spec := "fnMeetAlgebra", unfollowed := true, recurses := true, apart := false }
def FnMeetAlgebraSaid : Prop := fnMeetAlgebraRow.holds Try.pinned (OpenSpec.ofChange fnMeetAlgebraSpec)

/-- ITS FALSE NEIGHBOUR: 'it returns false'. Refute it at one input. -/
def fnMeetAlgebraWrong : ChangeSpec := { name := "fnMeetAlgebra", fn := fun _ => fun
  | [d] => { results := [.lit (.bool false)], args := [d] }
  | _ => none }
def FnMeetAlgebraWrongFalsely : Prop := fnMeetAlgebraRow.holds Try.pinned (OpenSpec.ofChange fnMeetAlgebraWrong)

/-- 'laws.FnIsFilter': WHATEVER THE INPUT: true; the input reads as it did. -/
def fnIsFilterSpec : ChangeSpec := { name := "fnIsFilter", fn := fun _ => fun
  | [d] => { results := [.lit (.bool true)], args := [d] }
  | _ => none }
def fnIsFilterRow : OpenClaim := { program := "ythbdihoacfhflaa", sum := "c4a4e6cf8101c13fdf0ada48f4dd92cfe5bfd8728f41464a5cfcf4b90d9d9501", func := "loop.example/residuatedtables/laws.FnIsFilter", spec := "fnIsFilter", unfollowed := true, recurses := true, apart := false }
def FnIsFilterSaid : Prop := fnIsFilterRow.holds Try.pinned (OpenSpec.ofChange fnIsFilterSpec)

/-- ITS FALSE NEIGHBOUR: 'it returns false'. Refute it at one input. -/
def fnIsFilterWrong : ChangeSpec := { name := "fnIsFilter", fn := fun _ => fun
  | [d] => { results := [.lit (.bool false)], args := [d] }
  | _ => none }
def FnIsFilterWrongFalsely : Prop := fnIsFilterRow.holds Try.pinned (OpenSpec.ofChange fnIsFilterWrong)

/-- 'laws.FnIsNucleus': WHATEVER THE INPUT: true; the input reads as it did. -/
def fnIsNucleusSpec : ChangeSpec := { name := "fnIsNucleus", fn := fun _ => fun
  | [d] => { results := [.lit (.bool true)], args := [d] }
  | _ => none }
def fnIsNucleusRow : OpenClaim := { program := "ythbdihoacfhflaa", sum := "c4a4e6cf8101c13fdf0ada48f4dd92cfe5bfd8728f41464a5cfcf4b90d9d9501", func := "loop.example/residuatedtables/laws.FnIsNucleus", spec := "fnIsNucleus", unfollowed := true, recurses := true, apart := false }
def FnIsNucleusSaid : Prop := fnIsNucleusRow.holds Try.pinned (OpenSpec.ofChange fnIsNucleusSpec)

/-- ITS FALSE NEIGHBOUR: 'it returns false'. Refute it at one input. -/
def fnIsNucleusWrong : ChangeSpec := { name := "fnIsNucleus", fn := fun _ => fun
  | [d] => { results := [.lit (.bool false)], args := [d] }
  | _ => none }
def FnIsNucleusWrongFalsely : Prop := fnIsNucleusRow.holds Try.pinned (OpenSpec.ofChange fnIsNucleusWrong)

/-- 'laws.FnFiltersOf': WHATEVER THE INPUT: true; the input reads as it did. -/
def fnFiltersOfSpec : ChangeSpec := { name := "fnFiltersOf", fn := fun _ => fun
  | [d] => { results := [.lit (.bool true)], args := [d] }
  | _ => none }
def fnFiltersOfRow : OpenClaim := { program := "ythbdihoacfhflaa", sum := "c4a4e6cf8101c13fdf0ada48f4dd92cfe5bfd8728f41464a5cfcf4b90d9d9501", func := "loop.example/residuatedtables/laws.FnFiltersOf", spec := "fnFiltersOf", unfollowed := true, recurses := true, apart := false }
def FnFiltersOfSaid : Prop := fnFiltersOfRow.holds Try.pinned (OpenSpec.ofChange fnFiltersOfSpec)

/-- ITS FALSE NEIGHBOUR: 'it returns false'. Refute it at one input. -/
def fnFiltersOfWrong : ChangeSpec := { name := "fnFiltersOf", fn := fun _ => fun
  | [d] => { results := [.lit (.bool false)], args := [d] }
  | _ => none }
def FnFiltersOfWrongFalsely : Prop := fnFiltersOfRow.holds Try.pinned (OpenSpec.ofChange fnFiltersOfWrong)

/-- 'laws.FnPartsOf': WHATEVER THE INPUT: true; the input reads as it did. -/
def fnPartsOfSpec : ChangeSpec := { name := "fnPartsOf", fn := fun _ => fun
  | [d] => { results := [.lit (.bool true)], args := [d] }
  | _ => none }
def fnPartsOfRow : OpenClaim := { program := "ythbdihoacfhflaa", sum := "c4a4e6cf8101c13fdf0ada48f4dd92cfe5bfd8728f41464a5cfcf4b90d9d9501", func := "loop.example/residuatedtables/laws.FnPartsOf", spec := "fnPartsOf", unfollowed := true, recurses := true, apart := false }
def FnPartsOfSaid : Prop := fnPartsOfRow.holds Try.pinned (OpenSpec.ofChange fnPartsOfSpec)

/-- ITS FALSE NEIGHBOUR: 'it returns false'. Refute it at one input. -/
def fnPartsOfWrong : ChangeSpec := { name := "fnPartsOf", fn := fun _ => fun
  | [d] => { results := [.lit (.bool false)], args := [d] }
  | _ => none }
def FnPartsOfWrongFalsely : Prop := fnPartsOfRow.holds Try.pinned (OpenSpec.ofChange fnPartsOfWrong)

/-- 'laws.FnDepthOf': WHATEVER THE INPUT: true; the input reads as it did. -/
def fnDepthOfSpec : ChangeSpec := { name := "fnDepthOf", fn := fun _ => fun
  | [d] => { results := [.lit (.bool true)], args := [d] }
  | _ => none }
def fnDepthOfRow : OpenClaim := { program := "ythbdihoacfhflaa", sum := "c4a4e6cf8101c13fdf0ada48f4dd92cfe5bfd8728f41464a5cfcf4b90d9d9501", func := "loop.example/residuatedtables/laws.FnDepthOf", spec := "fnDepthOf", unfollowed := true, recurses := true, apart := false }
def FnDepthOfSaid : Prop := fnDepthOfRow.holds Try.pinned (OpenSpec.ofChange fnDepthOfSpec)

/-- ITS FALSE NEIGHBOUR: 'it returns false'. Refute it at one input. -/
def fnDepthOfWrong : ChangeSpec := { name := "fnDepthOf", fn := fun _ => fun
  | [d] => { results := [.lit (.bool false)], args := [d] }
  | _ => none }
def FnDepthOfWrongFalsely : Prop := fnDepthOfRow.holds Try.pinned (OpenSpec.ofChange fnDepthOfWrong)

/-- 'laws.FnFilterBy': WHATEVER THE INPUT: true; the input reads as it did. -/
def fnFilterBySpec : ChangeSpec := { name := "fnFilterBy", fn := fun _ => fun
  | [d] => { results := [.lit (.bool true)], args := [d] }
  | _ => none }
def fnFilterByRow : OpenClaim := { program := "ythbdihoacfhflaa", sum := "c4a4e6cf8101c13fdf0ada48f4dd92cfe5bfd8728f41464a5cfcf4b90d9d9501", func := "loop.example/residuatedtables/laws.FnFilterBy", spec := "fnFilterBy", unfollowed := true, recurses := true, apart := false }
def FnFilterBySaid : Prop := fnFilterByRow.holds Try.pinned (OpenSpec.ofChange fnFilterBySpec)

/-- ITS FALSE NEIGHBOUR: 'it returns false'. Refute it at one input. -/
def fnFilterByWrong : ChangeSpec := { name := "fnFilterBy", fn := fun _ => fun
  | [d] => { results := [.lit (.bool false)], args := [d] }
  | _ => none }
def FnFilterByWrongFalsely : Prop := fnFilterByRow.holds Try.pinned (OpenSpec.ofChange fnFilterByWrong)

/-- 'laws.FnClassesOf': WHATEVER THE INPUT: true; the input reads as it did. -/
def fnClassesOfSpec : ChangeSpec := { name := "fnClassesOf", fn := fun _ => fun
  | [d] => { results := [.lit (.bool true)], args := [d] }
  | _ => none }
def fnClassesOfRow : OpenClaim := { program := "ythbdihoacfhflaa", sum := "c4a4e6cf8101c13fdf0ada48f4dd92cfe5bfd8728f41464a5cfcf4b90d9d9501", func := "loop.example/residuatedtables/laws.FnClassesOf", spec := "fnClassesOf", unfollowed := true, recurses := true, apart := false }
def FnClassesOfSaid : Prop := fnClassesOfRow.holds Try.pinned (OpenSpec.ofChange fnClassesOfSpec)

/-- ITS FALSE NEIGHBOUR: 'it returns false'. Refute it at one input. -/
def fnClassesOfWrong : ChangeSpec := { name := "fnClassesOf", fn := fun _ => fun
  | [d] => { results := [.lit (.bool false)], args := [d] }
  | _ => none }
def FnClassesOfWrongFalsely : Prop := fnClassesOfRow.holds Try.pinned (OpenSpec.ofChange fnClassesOfWrong)

/-- 'laws.FnSharpOf': WHATEVER THE INPUT: true; the input reads as it did. -/
def fnSharpOfSpec : ChangeSpec := { name := "fnSharpOf", fn := fun _ => fun
  | [d] => { results := [.lit (.bool true)], args := [d] }
  | _ => none }
def fnSharpOfRow : OpenClaim := { program := "ythbdihoacfhflaa", sum := "c4a4e6cf8101c13fdf0ada48f4dd92cfe5bfd8728f41464a5cfcf4b90d9d9501", func := "loop.example/residuatedtables/laws.FnSharpOf", spec := "fnSharpOf", unfollowed := true, recurses := true, apart := false }
def FnSharpOfSaid : Prop := fnSharpOfRow.holds Try.pinned (OpenSpec.ofChange fnSharpOfSpec)

/-- ITS FALSE NEIGHBOUR: 'it returns false'. Refute it at one input. -/
def fnSharpOfWrong : ChangeSpec := { name := "fnSharpOf", fn := fun _ => fun
  | [d] => { results := [.lit (.bool false)], args := [d] }
  | _ => none }
def FnSharpOfWrongFalsely : Prop := fnSharpOfRow.holds Try.pinned (OpenSpec.ofChange fnSharpOfWrong)

/-- 'laws.FnValueOf': WHATEVER THE INPUT: true; the input reads as it did. -/
def fnValueOfSpec : ChangeSpec := { name := "fnValueOf", fn := fun _ => fun
  | [d] => { results := [.lit (.bool true)], args := [d] }
  | _ => none }
def fnValueOfRow : OpenClaim := { program := "ythbdihoacfhflaa", sum := "c4a4e6cf8101c13fdf0ada48f4dd92cfe5bfd8728f41464a5cfcf4b90d9d9501", func := "loop.example/residuatedtables/laws.FnValueOf", spec := "fnValueOf", unfollowed := true, recurses := true, apart := false }
def FnValueOfSaid : Prop := fnValueOfRow.holds Try.pinned (OpenSpec.ofChange fnValueOfSpec)

/-- ITS FALSE NEIGHBOUR: 'it returns false'. Refute it at one input. -/
def fnValueOfWrong : ChangeSpec := { name := "fnValueOf", fn := fun _ => fun
  | [d] => { results := [.lit (.bool false)], args := [d] }
  | _ => none }
def FnValueOfWrongFalsely : Prop := fnValueOfRow.holds Try.pinned (OpenSpec.ofChange fnValueOfWrong)

/-- 'laws.FnIsMap': WHATEVER THE INPUT: true; the input reads as it did. -/
def fnIsMapSpec : ChangeSpec := { name := "fnIsMap", fn := fun _ => fun
  | [d] => { results := [.lit (.bool true)], args := [d] }
  | _ => none }
def fnIsMapRow : OpenClaim := { program := "ythbdihoacfhflaa", sum := "c4a4e6cf8101c13fdf0ada48f4dd92cfe5bfd8728f41464a5cfcf4b90d9d9501", func := "loop.example/residuatedtables/laws.FnIsMap", spec := "fnIsMap", unfollowed := true, recurses := true, apart := false }
def FnIsMapSaid : Prop := fnIsMapRow.holds Try.pinned (OpenSpec.ofChange fnIsMapSpec)

/-- ITS FALSE NEIGHBOUR: 'it returns false'. Refute it at one input. -/
def fnIsMapWrong : ChangeSpec := { name := "fnIsMap", fn := fun _ => fun
  | [d] => { results := [.lit (.bool false)], args := [d] }
  | _ => none }
def FnIsMapWrongFalsely : Prop := fnIsMapRow.holds Try.pinned (OpenSpec.ofChange fnIsMapWrong)

/-- 'laws.FnImageOf': WHATEVER THE INPUT: true; the input reads as it did. -/
def fnImageOfSpec : ChangeSpec := { name := "fnImageOf", fn := fun _ => fun
  | [d] => { results := [.lit (.bool true)], args := [d] }
  | _ => none }
def fnImageOfRow : OpenClaim := { program := "ythbdihoacfhflaa", sum := "c4a4e6cf8101c13fdf0ada48f4dd92cfe5bfd8728f41464a5cfcf4b90d9d9501", func := "loop.example/residuatedtables/laws.FnImageOf", spec := "fnImageOf", unfollowed := true, recurses := true, apart := false }
def FnImageOfSaid : Prop := fnImageOfRow.holds Try.pinned (OpenSpec.ofChange fnImageOfSpec)

/-- ITS FALSE NEIGHBOUR: 'it returns false'. Refute it at one input. -/
def fnImageOfWrong : ChangeSpec := { name := "fnImageOf", fn := fun _ => fun
  | [d] => { results := [.lit (.bool false)], args := [d] }
  | _ => none }
def FnImageOfWrongFalsely : Prop := fnImageOfRow.holds Try.pinned (OpenSpec.ofChange fnImageOfWrong)

/-- 'laws.FnFollows': WHATEVER THE INPUT: true; the input reads as it did. -/
def fnFollowsSpec : ChangeSpec := { name := "fnFollows", fn := fun _ => fun
  | [d] => { results := [.lit (.bool true)], args := [d] }
  | _ => none }
def fnFollowsRow : OpenClaim := { program := "ythbdihoacfhflaa", sum := "c4a4e6cf8101c13fdf0ada48f4dd92cfe5bfd8728f41464a5cfcf4b90d9d9501", func := "loop.example/residuatedtables/laws.FnFollows", spec := "fnFollows", unfollowed := true, recurses := true, apart := false }
def FnFollowsSaid : Prop := fnFollowsRow.holds Try.pinned (OpenSpec.ofChange fnFollowsSpec)

/-- ITS FALSE NEIGHBOUR: 'it returns false'. Refute it at one input. -/
def fnFollowsWrong : ChangeSpec := { name := "fnFollows", fn := fun _ => fun
  | [d] => { results := [.lit (.bool false)], args := [d] }
  | _ => none }
def FnFollowsWrongFalsely : Prop := fnFollowsRow.holds Try.pinned (OpenSpec.ofChange fnFollowsWrong)

/-- 'laws.FnRefuteTerm': WHATEVER THE INPUT: true; the input reads as it did. -/
def fnRefuteTermSpec : ChangeSpec := { name := "fnRefuteTerm", fn := fun _ => fun
  | [d] => { results := [.lit (.bool true)], args := [d] }
  | _ => none }
def fnRefuteTermRow : OpenClaim := { program := "ythbdihoacfhflaa", sum := "c4a4e6cf8101c13fdf0ada48f4dd92cfe5bfd8728f41464a5cfcf4b90d9d9501", func := "loop.example/residuatedtables/laws.FnRefuteTerm", spec := "fnRefuteTerm", unfollowed := true, recurses := true, apart := false }
def FnRefuteTermSaid : Prop := fnRefuteTermRow.holds Try.pinned (OpenSpec.ofChange fnRefuteTermSpec)

/-- ITS FALSE NEIGHBOUR: 'it returns false'. Refute it at one input. -/
def fnRefuteTermWrong : ChangeSpec := { name := "fnRefuteTerm", fn := fun _ => fun
  | [d] => { results := [.lit (.bool false)], args := [d] }
  | _ => none }
def FnRefuteTermWrongFalsely : Prop := fnRefuteTermRow.holds Try.pinned (OpenSpec.ofChange fnRefuteTermWrong)

/-- 'laws.FnLeastPower': WHATEVER THE INPUT: true; the input reads as it did. -/
def fnLeastPowerSpec : ChangeSpec := { name := "fnLeastPower", fn := fun _ => fun
  | [d] => { results := [.lit (.bool true)], args := [d] }
  | _ => none }
def fnLeastPowerRow : OpenClaim := { program := "ythbdihoacfhflaa", sum := "c4a4e6cf8101c13fdf0ada48f4dd92cfe5bfd8728f41464a5cfcf4b90d9d9501", func := "loop.example/residuatedtables/laws.FnLeastPower", spec := "fnLeastPower", unfollowed := true, recurses := true, apart := false }
def FnLeastPowerSaid : Prop := fnLeastPowerRow.holds Try.pinned (OpenSpec.ofChange fnLeastPowerSpec)

/-- ITS FALSE NEIGHBOUR: 'it returns false'. Refute it at one input. -/
def fnLeastPowerWrong : ChangeSpec := { name := "fnLeastPower", fn := fun _ => fun
  | [d] => { results := [.lit (.bool false)], args := [d] }
  | _ => none }
def FnLeastPowerWrongFalsely : Prop := fnLeastPowerRow.holds Try.pinned (OpenSpec.ofChange fnLeastPowerWrong)

/-- 'laws.FnMapsOf': WHATEVER THE INPUT: true; the input reads as it did. -/
def fnMapsOfSpec : ChangeSpec := { name := "fnMapsOf", fn := fun _ => fun
  | [d] => { results := [.lit (.bool true)], args := [d] }
  | _ => none }
def fnMapsOfRow : OpenClaim := { program := "ythbdihoacfhflaa", sum := "c4a4e6cf8101c13fdf0ada48f4dd92cfe5bfd8728f41464a5cfcf4b90d9d9501", func := "loop.example/residuatedtables/laws.FnMapsOf", spec := "fnMapsOf", unfollowed := true, recurses := true, apart := false }
def FnMapsOfSaid : Prop := fnMapsOfRow.holds Try.pinned (OpenSpec.ofChange fnMapsOfSpec)

/-- ITS FALSE NEIGHBOUR: 'it returns false'. Refute it at one input. -/
def fnMapsOfWrong : ChangeSpec := { name := "fnMapsOf", fn := fun _ => fun
  | [d] => { results := [.lit (.bool false)], args := [d] }
  | _ => none }
def FnMapsOfWrongFalsely : Prop := fnMapsOfRow.holds Try.pinned (OpenSpec.ofChange fnMapsOfWrong)

/- THE SECOND FORM. 'bulk': how many values and letters a reading holds, each counted each time it is reached (what is shared counts as often as it is met; a slice's spare places count too). A statement '..UptoSaid' is the law's where the arguments, and the package variables that the reading takes, are together of bulk at most 1048576: NARROWER than '..Said'. Prove '..Said' where nothing that the law and all that it calls make is longer than what came in: it says more and counts as full. Else prove '..UptoSaid'. A law counts once. -/
mutual
def uptoBulk {H : Type} : DataW H → Nat
  | .lit (.string bytes) => bytes.length + 1
  | .lit _ => 1
  | .nil => 1
  | .ptr d => uptoBulk d + 1
  | .slice elems spare => uptoBulkAll elems + uptoBulkAll spare + 1
  | .agg parts => uptoBulkAll parts + 1
  | .iface _ d => uptoBulk d + 1
  | .map entries => uptoBulkEntries entries + 1
  | .held _ => 1
def uptoBulkAll {H : Type} : List (DataW H) → Nat
  | [] => 0
  | d :: r => uptoBulk d + uptoBulkAll r
def uptoBulkEntries {H : Type} : List (Lit × DataW H) → Nat
  | [] => 0
  | x :: r => uptoBulkEntry x + uptoBulkEntries r
def uptoBulkEntry {H : Type} : Lit × DataW H → Nat
  | (.string bytes, d) => bytes.length + uptoBulk d + 1
  | (_, d) => uptoBulk d + 1
 end
def uptoSmall : (H : Type) → List (DataW H) → Bool := fun _ ds => decide (uptoBulkAll ds ≤ 1048576)
def OpenSpec.upto (s : _root_.Go.ChangeSpec) : _root_.Go.OpenSpec := { _root_.Go.OpenSpec.ofChange s with cond := some uptoSmall }

/-- 'laws.FnMeetAlgebra', WHERE WHAT IT READS IS OF BULK AT MOST 1048576: true; the input reads as it did. -/
def fnMeetAlgebraUptoRow : OpenClaim := { program := "ythbdihoacfhflaa", sum := "c4a4e6cf8101c13fdf0ada48f4dd92cfe5bfd8728f41464a5cfcf4b90d9d9501", func := "loop.example/residuatedtables/laws.FnMeetAlgebra", spec := "fnMeetAlgebra", unfollowed := true, recurses := true, apart := false, narrowed := true }
def FnMeetAlgebraUptoSaid : Prop := fnMeetAlgebraUptoRow.holds Try.pinned (OpenSpec.upto fnMeetAlgebraSpec)

/-- 'laws.FnIsFilter', WHERE WHAT IT READS IS OF BULK AT MOST 1048576: true; the input reads as it did. -/
def fnIsFilterUptoRow : OpenClaim := { program := "ythbdihoacfhflaa", sum := "c4a4e6cf8101c13fdf0ada48f4dd92cfe5bfd8728f41464a5cfcf4b90d9d9501", func := "loop.example/residuatedtables/laws.FnIsFilter", spec := "fnIsFilter", unfollowed := true, recurses := true, apart := false, narrowed := true }
def FnIsFilterUptoSaid : Prop := fnIsFilterUptoRow.holds Try.pinned (OpenSpec.upto fnIsFilterSpec)

/-- 'laws.FnIsNucleus', WHERE WHAT IT READS IS OF BULK AT MOST 1048576: true; the input reads as it did. -/
def fnIsNucleusUptoRow : OpenClaim := { program := "ythbdihoacfhflaa", sum := "c4a4e6cf8101c13fdf0ada48f4dd92cfe5bfd8728f41464a5cfcf4b90d9d9501", func := "loop.example/residuatedtables/laws.FnIsNucleus", spec := "fnIsNucleus", unfollowed := true, recurses := true, apart := false, narrowed := true }
def FnIsNucleusUptoSaid : Prop := fnIsNucleusUptoRow.holds Try.pinned (OpenSpec.upto fnIsNucleusSpec)

/-- 'laws.FnFiltersOf', WHERE WHAT IT READS IS OF BULK AT MOST 1048576: true; the input reads as it did. -/
def fnFiltersOfUptoRow : OpenClaim := { program := "ythbdihoacfhflaa", sum := "c4a4e6cf8101c13fdf0ada48f4dd92cfe5bfd8728f41464a5cfcf4b90d9d9501", func := "loop.example/residuatedtables/laws.FnFiltersOf", spec := "fnFiltersOf", unfollowed := true, recurses := true, apart := false, narrowed := true }
def FnFiltersOfUptoSaid : Prop := fnFiltersOfUptoRow.holds Try.pinned (OpenSpec.upto fnFiltersOfSpec)

/-- 'laws.FnPartsOf', WHERE WHAT IT READS IS OF BULK AT MOST 1048576: true; the input reads as it did. -/
def fnPartsOfUptoRow : OpenClaim := { program := "ythbdihoacfhflaa", sum := "c4a4e6cf8101c13fdf0ada48f4dd92cfe5bfd8728f41464a5cfcf4b90d9d9501", func := "loop.example/residuatedtables/laws.FnPartsOf", spec := "fnPartsOf", unfollowed := true, recurses := true, apart := false, narrowed := true }
def FnPartsOfUptoSaid : Prop := fnPartsOfUptoRow.holds Try.pinned (OpenSpec.upto fnPartsOfSpec)

/-- 'laws.FnDepthOf', WHERE WHAT IT READS IS OF BULK AT MOST 1048576: true; the input reads as it did. -/
def fnDepthOfUptoRow : OpenClaim := { program := "ythbdihoacfhflaa", sum := "c4a4e6cf8101c13fdf0ada48f4dd92cfe5bfd8728f41464a5cfcf4b90d9d9501", func := "loop.example/residuatedtables/laws.FnDepthOf", spec := "fnDepthOf", unfollowed := true, recurses := true, apart := false, narrowed := true }
def FnDepthOfUptoSaid : Prop := fnDepthOfUptoRow.holds Try.pinned (OpenSpec.upto fnDepthOfSpec)

/-- 'laws.FnFilterBy', WHERE WHAT IT READS IS OF BULK AT MOST 1048576: true; the input reads as it did. -/
def fnFilterByUptoRow : OpenClaim := { program := "ythbdihoacfhflaa", sum := "c4a4e6cf8101c13fdf0ada48f4dd92cfe5bfd8728f41464a5cfcf4b90d9d9501", func := "loop.example/residuatedtables/laws.FnFilterBy", spec := "fnFilterBy", unfollowed := true, recurses := true, apart := false, narrowed := true }
def FnFilterByUptoSaid : Prop := fnFilterByUptoRow.holds Try.pinned (OpenSpec.upto fnFilterBySpec)

/-- 'laws.FnClassesOf', WHERE WHAT IT READS IS OF BULK AT MOST 1048576: true; the input reads as it did. -/
def fnClassesOfUptoRow : OpenClaim := { program := "ythbdihoacfhflaa", sum := "c4a4e6cf8101c13fdf0ada48f4dd92cfe5bfd8728f41464a5cfcf4b90d9d9501", func := "loop.example/residuatedtables/laws.FnClassesOf", spec := "fnClassesOf", unfollowed := true, recurses := true, apart := false, narrowed := true }
def FnClassesOfUptoSaid : Prop := fnClassesOfUptoRow.holds Try.pinned (OpenSpec.upto fnClassesOfSpec)

/-- 'laws.FnSharpOf', WHERE WHAT IT READS IS OF BULK AT MOST 1048576: true; the input reads as it did. -/
def fnSharpOfUptoRow : OpenClaim := { program := "ythbdihoacfhflaa", sum := "c4a4e6cf8101c13fdf0ada48f4dd92cfe5bfd8728f41464a5cfcf4b90d9d9501", func := "loop.example/residuatedtables/laws.FnSharpOf", spec := "fnSharpOf", unfollowed := true, recurses := true, apart := false, narrowed := true }
def FnSharpOfUptoSaid : Prop := fnSharpOfUptoRow.holds Try.pinned (OpenSpec.upto fnSharpOfSpec)

/-- 'laws.FnValueOf', WHERE WHAT IT READS IS OF BULK AT MOST 1048576: true; the input reads as it did. -/
def fnValueOfUptoRow : OpenClaim := { program := "ythbdihoacfhflaa", sum := "c4a4e6cf8101c13fdf0ada48f4dd92cfe5bfd8728f41464a5cfcf4b90d9d9501", func := "loop.example/residuatedtables/laws.FnValueOf", spec := "fnValueOf", unfollowed := true, recurses := true, apart := false, narrowed := true }
def FnValueOfUptoSaid : Prop := fnValueOfUptoRow.holds Try.pinned (OpenSpec.upto fnValueOfSpec)

/-- 'laws.FnIsMap', WHERE WHAT IT READS IS OF BULK AT MOST 1048576: true; the input reads as it did. -/
def fnIsMapUptoRow : OpenClaim := { program := "ythbdihoacfhflaa", sum := "c4a4e6cf8101c13fdf0ada48f4dd92cfe5bfd8728f41464a5cfcf4b90d9d9501", func := "loop.example/residuatedtables/laws.FnIsMap", spec := "fnIsMap", unfollowed := true, recurses := true, apart := false, narrowed := true }
def FnIsMapUptoSaid : Prop := fnIsMapUptoRow.holds Try.pinned (OpenSpec.upto fnIsMapSpec)

/-- 'laws.FnImageOf', WHERE WHAT IT READS IS OF BULK AT MOST 1048576: true; the input reads as it did. -/
def fnImageOfUptoRow : OpenClaim := { program := "ythbdihoacfhflaa", sum := "c4a4e6cf8101c13fdf0ada48f4dd92cfe5bfd8728f41464a5cfcf4b90d9d9501", func := "loop.example/residuatedtables/laws.FnImageOf", spec := "fnImageOf", unfollowed := true, recurses := true, apart := false, narrowed := true }
def FnImageOfUptoSaid : Prop := fnImageOfUptoRow.holds Try.pinned (OpenSpec.upto fnImageOfSpec)

/-- 'laws.FnFollows', WHERE WHAT IT READS IS OF BULK AT MOST 1048576: true; the input reads as it did. -/
def fnFollowsUptoRow : OpenClaim := { program := "ythbdihoacfhflaa", sum := "c4a4e6cf8101c13fdf0ada48f4dd92cfe5bfd8728f41464a5cfcf4b90d9d9501", func := "loop.example/residuatedtables/laws.FnFollows", spec := "fnFollows", unfollowed := true, recurses := true, apart := false, narrowed := true }
def FnFollowsUptoSaid : Prop := fnFollowsUptoRow.holds Try.pinned (OpenSpec.upto fnFollowsSpec)

/-- 'laws.FnRefuteTerm', WHERE WHAT IT READS IS OF BULK AT MOST 1048576: true; the input reads as it did. -/
def fnRefuteTermUptoRow : OpenClaim := { program := "ythbdihoacfhflaa", sum := "c4a4e6cf8101c13fdf0ada48f4dd92cfe5bfd8728f41464a5cfcf4b90d9d9501", func := "loop.example/residuatedtables/laws.FnRefuteTerm", spec := "fnRefuteTerm", unfollowed := true, recurses := true, apart := false, narrowed := true }
def FnRefuteTermUptoSaid : Prop := fnRefuteTermUptoRow.holds Try.pinned (OpenSpec.upto fnRefuteTermSpec)

/-- 'laws.FnLeastPower', WHERE WHAT IT READS IS OF BULK AT MOST 1048576: true; the input reads as it did. -/
def fnLeastPowerUptoRow : OpenClaim := { program := "ythbdihoacfhflaa", sum := "c4a4e6cf8101c13fdf0ada48f4dd92cfe5bfd8728f41464a5cfcf4b90d9d9501", func := "loop.example/residuatedtables/laws.FnLeastPower", spec := "fnLeastPower", unfollowed := true, recurses := true, apart := false, narrowed := true }
def FnLeastPowerUptoSaid : Prop := fnLeastPowerUptoRow.holds Try.pinned (OpenSpec.upto fnLeastPowerSpec)

/-- 'laws.FnMapsOf', WHERE WHAT IT READS IS OF BULK AT MOST 1048576: true; the input reads as it did. -/
def fnMapsOfUptoRow : OpenClaim := { program := "ythbdihoacfhflaa", sum := "c4a4e6cf8101c13fdf0ada48f4dd92cfe5bfd8728f41464a5cfcf4b90d9d9501", func := "loop.example/residuatedtables/laws.FnMapsOf", spec := "fnMapsOf", unfollowed := true, recurses := true, apart := false, narrowed := true }
def FnMapsOfUptoSaid : Prop := fnMapsOfUptoRow.holds Try.pinned (OpenSpec.upto fnMapsOfSpec)

end Rows
end Go.Proofs.Ythbdihoacfhflaa
