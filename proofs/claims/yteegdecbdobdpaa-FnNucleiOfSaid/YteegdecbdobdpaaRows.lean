/-
  No cell of these rows narrows 'for every input' (looked for: loops, veiled, ifaces, maps, wideKeys, modest, calm, conditions, laid).
  DERIVED. THE GIVEN ROWS OF THIS SEAT. 16 by the template 'for every input the law returns true; each argument reads behind the call as it read before'; 0 by the template 'total and deterministic' (their statements: YteegdecbdobdpaaTotals.lean).
  GIVEN WITH THE SEED: the statements are not yours to turn. If you find one false, say at which input.
  Laid BY PROGRAM, IN A SANDBOX (cutbox-rows.mjs): the forced cells as the released guide's own fill.sh prints them over the translation 52cbb02995e23349… (all of the seat's roots in one cut). By AI agents, Wed Nov 11 2026. No macro, syntax, notation, axiom, sorry.
-/
import Derived.Test.YteegdecbdobdpaaChecked
import GoSem.Claim
import GoSem.ClaimJoined
import GoSem.ClaimMapViews
import Derived.JoinedTies
import Derived.KernelRfl
namespace Go.Proofs.Yteegdecbdobdpaa
/- THE CELL 'sum', in the pinned program and in every row, IS THE sha256 OF THE DUMP (.gsa) THAT YteegdecbdobdpaaProg.lean LOADS. Nothing in Lean hashes anything: it is a label: what it is worth is what the hold of that sum in a sandbox is worth. -/
noncomputable def Try.pinned : Pinned := { name := "yteegdecbdobdpaa", sum := "52cbb02995e2334939be0f1f03360f29e5ced0a3874787a216d6ba904deff7e8", checked := Try.checked }
namespace Rows
def none {H : Type} : Left H := { results := [], args := [] }

/-- 'laws.FnExactPrimeFilters': WHATEVER THE INPUT: true; the input reads as it did. -/
def fnExactPrimeFiltersSpec : ChangeSpec := { name := "fnExactPrimeFilters", fn := fun _ => fun
  | [d] => { results := [.lit (.bool true)], args := [d] }
  | _ => none }
def fnExactPrimeFiltersRow : OpenClaim := { program := "yteegdecbdobdpaa", sum := "52cbb02995e2334939be0f1f03360f29e5ced0a3874787a216d6ba904deff7e8", func := "loop.example/residuatedtables/laws.FnExactPrimeFilters", spec := "fnExactPrimeFilters", unfollowed := true, recurses := true, apart := false }
def FnExactPrimeFiltersSaid : Prop := fnExactPrimeFiltersRow.holds Try.pinned (OpenSpec.ofChange fnExactPrimeFiltersSpec)

/-- ITS FALSE NEIGHBOUR: 'it returns false'. Refute it at one input. -/
def fnExactPrimeFiltersWrong : ChangeSpec := { name := "fnExactPrimeFilters", fn := fun _ => fun
  | [d] => { results := [.lit (.bool false)], args := [d] }
  | _ => none }
def FnExactPrimeFiltersWrongFalsely : Prop := fnExactPrimeFiltersRow.holds Try.pinned (OpenSpec.ofChange fnExactPrimeFiltersWrong)

/-- 'laws.FnExactChainsOf': WHATEVER THE INPUT: true; the input reads as it did. -/
def fnExactChainsOfSpec : ChangeSpec := { name := "fnExactChainsOf", fn := fun _ => fun
  | [d] => { results := [.lit (.bool true)], args := [d] }
  | _ => none }
def fnExactChainsOfRow : OpenClaim := { program := "yteegdecbdobdpaa", sum := "52cbb02995e2334939be0f1f03360f29e5ced0a3874787a216d6ba904deff7e8", func := "loop.example/residuatedtables/laws.FnExactChainsOf", spec := "fnExactChainsOf", unfollowed := true, recurses := true, apart := false }
def FnExactChainsOfSaid : Prop := fnExactChainsOfRow.holds Try.pinned (OpenSpec.ofChange fnExactChainsOfSpec)

/-- ITS FALSE NEIGHBOUR: 'it returns false'. Refute it at one input. -/
def fnExactChainsOfWrong : ChangeSpec := { name := "fnExactChainsOf", fn := fun _ => fun
  | [d] => { results := [.lit (.bool false)], args := [d] }
  | _ => none }
def FnExactChainsOfWrongFalsely : Prop := fnExactChainsOfRow.holds Try.pinned (OpenSpec.ofChange fnExactChainsOfWrong)

/-- 'laws.FnExactChainCount': WHATEVER THE INPUT: true; the input reads as it did. -/
def fnExactChainCountSpec : ChangeSpec := { name := "fnExactChainCount", fn := fun _ => fun
  | [d1, d2] => { results := [.lit (.bool true)], args := [d1, d2] }
  | _ => none }
def fnExactChainCountRow : OpenClaim := { program := "yteegdecbdobdpaa", sum := "52cbb02995e2334939be0f1f03360f29e5ced0a3874787a216d6ba904deff7e8", func := "loop.example/residuatedtables/laws.FnExactChainCount", spec := "fnExactChainCount", unfollowed := true, recurses := true, apart := false }
def FnExactChainCountSaid : Prop := fnExactChainCountRow.holds Try.pinned (OpenSpec.ofChange fnExactChainCountSpec)

/-- ITS FALSE NEIGHBOUR: 'it returns false'. Refute it at one input. -/
def fnExactChainCountWrong : ChangeSpec := { name := "fnExactChainCount", fn := fun _ => fun
  | [d1, d2] => { results := [.lit (.bool false)], args := [d1, d2] }
  | _ => none }
def FnExactChainCountWrongFalsely : Prop := fnExactChainCountRow.holds Try.pinned (OpenSpec.ofChange fnExactChainCountWrong)

/-- 'laws.FnValidAlgebra': WHATEVER THE INPUT: true; the input reads as it did. -/
def fnValidAlgebraSpec : ChangeSpec := { name := "fnValidAlgebra", fn := fun _ => fun
  | [d] => { results := [.lit (.bool true)], args := [d] }
  | _ => none }
def fnValidAlgebraRow : OpenClaim := { program := "yteegdecbdobdpaa", sum := "52cbb02995e2334939be0f1f03360f29e5ced0a3874787a216d6ba904deff7e8", func := "loop.example/residuatedtables/laws.FnValidAlgebra", spec := "fnValidAlgebra", unfollowed := true, recurses := true, apart := false }
def FnValidAlgebraSaid : Prop := fnValidAlgebraRow.holds Try.pinned (OpenSpec.ofChange fnValidAlgebraSpec)

/-- ITS FALSE NEIGHBOUR: 'it returns false'. Refute it at one input. -/
def fnValidAlgebraWrong : ChangeSpec := { name := "fnValidAlgebra", fn := fun _ => fun
  | [d] => { results := [.lit (.bool false)], args := [d] }
  | _ => none }
def FnValidAlgebraWrongFalsely : Prop := fnValidAlgebraRow.holds Try.pinned (OpenSpec.ofChange fnValidAlgebraWrong)

/-- 'laws.FnExactFixedBy': WHATEVER THE INPUT: true; the input reads as it did. -/
def fnExactFixedBySpec : ChangeSpec := { name := "fnExactFixedBy", fn := fun _ => fun
  | [d1, d2] => { results := [.lit (.bool true)], args := [d1, d2] }
  | _ => none }
def fnExactFixedByRow : OpenClaim := { program := "yteegdecbdobdpaa", sum := "52cbb02995e2334939be0f1f03360f29e5ced0a3874787a216d6ba904deff7e8", func := "loop.example/residuatedtables/laws.FnExactFixedBy", spec := "fnExactFixedBy", unfollowed := true, recurses := true, apart := false }
def FnExactFixedBySaid : Prop := fnExactFixedByRow.holds Try.pinned (OpenSpec.ofChange fnExactFixedBySpec)

/-- ITS FALSE NEIGHBOUR: 'it returns false'. Refute it at one input. -/
def fnExactFixedByWrong : ChangeSpec := { name := "fnExactFixedBy", fn := fun _ => fun
  | [d1, d2] => { results := [.lit (.bool false)], args := [d1, d2] }
  | _ => none }
def FnExactFixedByWrongFalsely : Prop := fnExactFixedByRow.holds Try.pinned (OpenSpec.ofChange fnExactFixedByWrong)

/-- 'laws.FnPowerOf': WHATEVER THE INPUT: true; the input reads as it did. -/
def fnPowerOfSpec : ChangeSpec := { name := "fnPowerOf", fn := fun _ => fun
  | [d] => { results := [.lit (.bool true)], args := [d] }
  | _ => none }
def fnPowerOfRow : OpenClaim := { program := "yteegdecbdobdpaa", sum := "52cbb02995e2334939be0f1f03360f29e5ced0a3874787a216d6ba904deff7e8", func := "loop.example/residuatedtables/laws.FnPowerOf", spec := "fnPowerOf", unfollowed := true, recurses := true, apart := false }
def FnPowerOfSaid : Prop := fnPowerOfRow.holds Try.pinned (OpenSpec.ofChange fnPowerOfSpec)

/-- ITS FALSE NEIGHBOUR: 'it returns false'. Refute it at one input. -/
def fnPowerOfWrong : ChangeSpec := { name := "fnPowerOf", fn := fun _ => fun
  | [d] => { results := [.lit (.bool false)], args := [d] }
  | _ => none }
def FnPowerOfWrongFalsely : Prop := fnPowerOfRow.holds Try.pinned (OpenSpec.ofChange fnPowerOfWrong)

/-- 'laws.FnImplyOf': WHATEVER THE INPUT: true; the input reads as it did. -/
def fnImplyOfSpec : ChangeSpec := { name := "fnImplyOf", fn := fun _ => fun
  | [d] => { results := [.lit (.bool true)], args := [d] }
  | _ => none }
def fnImplyOfRow : OpenClaim := { program := "yteegdecbdobdpaa", sum := "52cbb02995e2334939be0f1f03360f29e5ced0a3874787a216d6ba904deff7e8", func := "loop.example/residuatedtables/laws.FnImplyOf", spec := "fnImplyOf", unfollowed := true, recurses := true, apart := false }
def FnImplyOfSaid : Prop := fnImplyOfRow.holds Try.pinned (OpenSpec.ofChange fnImplyOfSpec)

/-- ITS FALSE NEIGHBOUR: 'it returns false'. Refute it at one input. -/
def fnImplyOfWrong : ChangeSpec := { name := "fnImplyOf", fn := fun _ => fun
  | [d] => { results := [.lit (.bool false)], args := [d] }
  | _ => none }
def FnImplyOfWrongFalsely : Prop := fnImplyOfRow.holds Try.pinned (OpenSpec.ofChange fnImplyOfWrong)

/-- 'laws.FnNearOf': WHATEVER THE INPUT: true; the input reads as it did. -/
def fnNearOfSpec : ChangeSpec := { name := "fnNearOf", fn := fun _ => fun
  | [d] => { results := [.lit (.bool true)], args := [d] }
  | _ => none }
def fnNearOfRow : OpenClaim := { program := "yteegdecbdobdpaa", sum := "52cbb02995e2334939be0f1f03360f29e5ced0a3874787a216d6ba904deff7e8", func := "loop.example/residuatedtables/laws.FnNearOf", spec := "fnNearOf", unfollowed := true, recurses := true, apart := false }
def FnNearOfSaid : Prop := fnNearOfRow.holds Try.pinned (OpenSpec.ofChange fnNearOfSpec)

/-- ITS FALSE NEIGHBOUR: 'it returns false'. Refute it at one input. -/
def fnNearOfWrong : ChangeSpec := { name := "fnNearOf", fn := fun _ => fun
  | [d] => { results := [.lit (.bool false)], args := [d] }
  | _ => none }
def FnNearOfWrongFalsely : Prop := fnNearOfRow.holds Try.pinned (OpenSpec.ofChange fnNearOfWrong)

/-- 'laws.FnNotOf': WHATEVER THE INPUT: true; the input reads as it did. -/
def fnNotOfSpec : ChangeSpec := { name := "fnNotOf", fn := fun _ => fun
  | [d] => { results := [.lit (.bool true)], args := [d] }
  | _ => none }
def fnNotOfRow : OpenClaim := { program := "yteegdecbdobdpaa", sum := "52cbb02995e2334939be0f1f03360f29e5ced0a3874787a216d6ba904deff7e8", func := "loop.example/residuatedtables/laws.FnNotOf", spec := "fnNotOf", unfollowed := true, recurses := true, apart := false }
def FnNotOfSaid : Prop := fnNotOfRow.holds Try.pinned (OpenSpec.ofChange fnNotOfSpec)

/-- ITS FALSE NEIGHBOUR: 'it returns false'. Refute it at one input. -/
def fnNotOfWrong : ChangeSpec := { name := "fnNotOf", fn := fun _ => fun
  | [d] => { results := [.lit (.bool false)], args := [d] }
  | _ => none }
def FnNotOfWrongFalsely : Prop := fnNotOfRow.holds Try.pinned (OpenSpec.ofChange fnNotOfWrong)

/-- 'laws.FnExactQuotientOf': WHATEVER THE INPUT: true; the input reads as it did. -/
def fnExactQuotientOfSpec : ChangeSpec := { name := "fnExactQuotientOf", fn := fun _ => fun
  | [d1, d2] => { results := [.lit (.bool true)], args := [d1, d2] }
  | _ => none }
def fnExactQuotientOfRow : OpenClaim := { program := "yteegdecbdobdpaa", sum := "52cbb02995e2334939be0f1f03360f29e5ced0a3874787a216d6ba904deff7e8", func := "loop.example/residuatedtables/laws.FnExactQuotientOf", spec := "fnExactQuotientOf", unfollowed := true, recurses := true, apart := false }
def FnExactQuotientOfSaid : Prop := fnExactQuotientOfRow.holds Try.pinned (OpenSpec.ofChange fnExactQuotientOfSpec)

/-- ITS FALSE NEIGHBOUR: 'it returns false'. Refute it at one input. -/
def fnExactQuotientOfWrong : ChangeSpec := { name := "fnExactQuotientOf", fn := fun _ => fun
  | [d1, d2] => { results := [.lit (.bool false)], args := [d1, d2] }
  | _ => none }
def FnExactQuotientOfWrongFalsely : Prop := fnExactQuotientOfRow.holds Try.pinned (OpenSpec.ofChange fnExactQuotientOfWrong)

/-- 'laws.FnExactSizesOf': WHATEVER THE INPUT: true; the input reads as it did. -/
def fnExactSizesOfSpec : ChangeSpec := { name := "fnExactSizesOf", fn := fun _ => fun
  | [d] => { results := [.lit (.bool true)], args := [d] }
  | _ => none }
def fnExactSizesOfRow : OpenClaim := { program := "yteegdecbdobdpaa", sum := "52cbb02995e2334939be0f1f03360f29e5ced0a3874787a216d6ba904deff7e8", func := "loop.example/residuatedtables/laws.FnExactSizesOf", spec := "fnExactSizesOf", unfollowed := true, recurses := true, apart := false }
def FnExactSizesOfSaid : Prop := fnExactSizesOfRow.holds Try.pinned (OpenSpec.ofChange fnExactSizesOfSpec)

/-- ITS FALSE NEIGHBOUR: 'it returns false'. Refute it at one input. -/
def fnExactSizesOfWrong : ChangeSpec := { name := "fnExactSizesOf", fn := fun _ => fun
  | [d] => { results := [.lit (.bool false)], args := [d] }
  | _ => none }
def FnExactSizesOfWrongFalsely : Prop := fnExactSizesOfRow.holds Try.pinned (OpenSpec.ofChange fnExactSizesOfWrong)

/-- 'laws.FnFixedOf': WHATEVER THE INPUT: true; the input reads as it did. -/
def fnFixedOfSpec : ChangeSpec := { name := "fnFixedOf", fn := fun _ => fun
  | [d] => { results := [.lit (.bool true)], args := [d] }
  | _ => none }
def fnFixedOfRow : OpenClaim := { program := "yteegdecbdobdpaa", sum := "52cbb02995e2334939be0f1f03360f29e5ced0a3874787a216d6ba904deff7e8", func := "loop.example/residuatedtables/laws.FnFixedOf", spec := "fnFixedOf", unfollowed := true, recurses := true, apart := false }
def FnFixedOfSaid : Prop := fnFixedOfRow.holds Try.pinned (OpenSpec.ofChange fnFixedOfSpec)

/-- ITS FALSE NEIGHBOUR: 'it returns false'. Refute it at one input. -/
def fnFixedOfWrong : ChangeSpec := { name := "fnFixedOf", fn := fun _ => fun
  | [d] => { results := [.lit (.bool false)], args := [d] }
  | _ => none }
def FnFixedOfWrongFalsely : Prop := fnFixedOfRow.holds Try.pinned (OpenSpec.ofChange fnFixedOfWrong)

/-- 'laws.FnHasProperty': WHATEVER THE INPUT: true; the input reads as it did. -/
def fnHasPropertySpec : ChangeSpec := { name := "fnHasProperty", fn := fun _ => fun
  | [d] => { results := [.lit (.bool true)], args := [d] }
  | _ => none }
def fnHasPropertyRow : OpenClaim := { program := "yteegdecbdobdpaa", sum := "52cbb02995e2334939be0f1f03360f29e5ced0a3874787a216d6ba904deff7e8", func := "loop.example/residuatedtables/laws.FnHasProperty", spec := "fnHasProperty", unfollowed := true, recurses := true, apart := false }
def FnHasPropertySaid : Prop := fnHasPropertyRow.holds Try.pinned (OpenSpec.ofChange fnHasPropertySpec)

/-- ITS FALSE NEIGHBOUR: 'it returns false'. Refute it at one input. -/
def fnHasPropertyWrong : ChangeSpec := { name := "fnHasProperty", fn := fun _ => fun
  | [d] => { results := [.lit (.bool false)], args := [d] }
  | _ => none }
def FnHasPropertyWrongFalsely : Prop := fnHasPropertyRow.holds Try.pinned (OpenSpec.ofChange fnHasPropertyWrong)

/-- 'laws.FnValueOf': WHATEVER THE INPUT: true; the input reads as it did. -/
def fnValueOfSpec : ChangeSpec := { name := "fnValueOf", fn := fun _ => fun
  | [d] => { results := [.lit (.bool true)], args := [d] }
  | _ => none }
def fnValueOfRow : OpenClaim := { program := "yteegdecbdobdpaa", sum := "52cbb02995e2334939be0f1f03360f29e5ced0a3874787a216d6ba904deff7e8", func := "loop.example/residuatedtables/laws.FnValueOf", spec := "fnValueOf", unfollowed := true, recurses := true, apart := false }
def FnValueOfSaid : Prop := fnValueOfRow.holds Try.pinned (OpenSpec.ofChange fnValueOfSpec)

/-- ITS FALSE NEIGHBOUR: 'it returns false'. Refute it at one input. -/
def fnValueOfWrong : ChangeSpec := { name := "fnValueOf", fn := fun _ => fun
  | [d] => { results := [.lit (.bool false)], args := [d] }
  | _ => none }
def FnValueOfWrongFalsely : Prop := fnValueOfRow.holds Try.pinned (OpenSpec.ofChange fnValueOfWrong)

/-- 'laws.FnNucleiOf': WHATEVER THE INPUT: true; the input reads as it did. -/
def fnNucleiOfSpec : ChangeSpec := { name := "fnNucleiOf", fn := fun _ => fun
  | [d] => { results := [.lit (.bool true)], args := [d] }
  | _ => none }
def fnNucleiOfRow : OpenClaim := { program := "yteegdecbdobdpaa", sum := "52cbb02995e2334939be0f1f03360f29e5ced0a3874787a216d6ba904deff7e8", func := "loop.example/residuatedtables/laws.FnNucleiOf", spec := "fnNucleiOf", unfollowed := true, recurses := true, apart := false }
def FnNucleiOfSaid : Prop := fnNucleiOfRow.holds Try.pinned (OpenSpec.ofChange fnNucleiOfSpec)

/-- ITS FALSE NEIGHBOUR: 'it returns false'. Refute it at one input. -/
def fnNucleiOfWrong : ChangeSpec := { name := "fnNucleiOf", fn := fun _ => fun
  | [d] => { results := [.lit (.bool false)], args := [d] }
  | _ => none }
def FnNucleiOfWrongFalsely : Prop := fnNucleiOfRow.holds Try.pinned (OpenSpec.ofChange fnNucleiOfWrong)

/-- 'laws.FnRefuteTerm': WHATEVER THE INPUT: true; the input reads as it did. -/
def fnRefuteTermSpec : ChangeSpec := { name := "fnRefuteTerm", fn := fun _ => fun
  | [d] => { results := [.lit (.bool true)], args := [d] }
  | _ => none }
def fnRefuteTermRow : OpenClaim := { program := "yteegdecbdobdpaa", sum := "52cbb02995e2334939be0f1f03360f29e5ced0a3874787a216d6ba904deff7e8", func := "loop.example/residuatedtables/laws.FnRefuteTerm", spec := "fnRefuteTerm", unfollowed := true, recurses := true, apart := false }
def FnRefuteTermSaid : Prop := fnRefuteTermRow.holds Try.pinned (OpenSpec.ofChange fnRefuteTermSpec)

/-- ITS FALSE NEIGHBOUR: 'it returns false'. Refute it at one input. -/
def fnRefuteTermWrong : ChangeSpec := { name := "fnRefuteTerm", fn := fun _ => fun
  | [d] => { results := [.lit (.bool false)], args := [d] }
  | _ => none }
def FnRefuteTermWrongFalsely : Prop := fnRefuteTermRow.holds Try.pinned (OpenSpec.ofChange fnRefuteTermWrong)

/- THE SECOND FORM. 'bulk': how many values and letters a reading holds, each counted each time it is reached (what is shared counts as often as it is met; a slice's spare places count too). A statement '..UptoSaid' is the law's where the arguments, and the package variables that the reading takes, are together of bulk at most 1048576: NARROWER than '..Said'. Prove '..Said' where nothing that the law and all that it calls make is longer than what came in: it says more and counts as full. Else prove '..UptoSaid'. A law counts once. -/
mutual
def uptoBulk {H : Type} : DataW H → Nat
  | .lit (.string bytes) => bytes.length + 1
  | .lit _ => 1
  | .nil => 1
  | .ptr d => uptoBulk d + 1
  | .slice elems spare => uptoBulkAll elems + uptoBulkAll spare + 1
  | .agg parts => uptoBulkAll parts + 1
  | .iface _ d => uptoBulk d + 1
  | .map entries => uptoBulkEntries entries + 1
  | .held _ => 1
def uptoBulkAll {H : Type} : List (DataW H) → Nat
  | [] => 0
  | d :: r => uptoBulk d + uptoBulkAll r
def uptoBulkEntries {H : Type} : List (Lit × DataW H) → Nat
  | [] => 0
  | x :: r => uptoBulkEntry x + uptoBulkEntries r
def uptoBulkEntry {H : Type} : Lit × DataW H → Nat
  | (.string bytes, d) => bytes.length + uptoBulk d + 1
  | (_, d) => uptoBulk d + 1
 end
def uptoSmall : (H : Type) → List (DataW H) → Bool := fun _ ds => decide (uptoBulkAll ds ≤ 1048576)
def OpenSpec.upto (s : _root_.Go.ChangeSpec) : _root_.Go.OpenSpec := { _root_.Go.OpenSpec.ofChange s with cond := some uptoSmall }

/-- 'laws.FnExactPrimeFilters', WHERE WHAT IT READS IS OF BULK AT MOST 1048576: true; the input reads as it did. -/
def fnExactPrimeFiltersUptoRow : OpenClaim := { program := "yteegdecbdobdpaa", sum := "52cbb02995e2334939be0f1f03360f29e5ced0a3874787a216d6ba904deff7e8", func := "loop.example/residuatedtables/laws.FnExactPrimeFilters", spec := "fnExactPrimeFilters", unfollowed := true, recurses := true, apart := false, narrowed := true }
def FnExactPrimeFiltersUptoSaid : Prop := fnExactPrimeFiltersUptoRow.holds Try.pinned (OpenSpec.upto fnExactPrimeFiltersSpec)

/-- 'laws.FnExactChainsOf', WHERE WHAT IT READS IS OF BULK AT MOST 1048576: true; the input reads as it did. -/
def fnExactChainsOfUptoRow : OpenClaim := { program := "yteegdecbdobdpaa", sum := "52cbb02995e2334939be0f1f03360f29e5ced0a3874787a216d6ba904deff7e8", func := "loop.example/residuatedtables/laws.FnExactChainsOf", spec := "fnExactChainsOf", unfollowed := true, recurses := true, apart := false, narrowed := true }
def FnExactChainsOfUptoSaid : Prop := fnExactChainsOfUptoRow.holds Try.pinned (OpenSpec.upto fnExactChainsOfSpec)

/-- 'laws.FnExactChainCount', WHERE WHAT IT READS IS OF BULK AT MOST 1048576: true; the input reads as it did. -/
def fnExactChainCountUptoRow : OpenClaim := { program := "yteegdecbdobdpaa", sum := "52cbb02995e2334939be0f1f03360f29e5ced0a3874787a216d6ba904deff7e8", func := "loop.example/residuatedtables/laws.FnExactChainCount", spec := "fnExactChainCount", unfollowed := true, recurses := true, apart := false, narrowed := true }
def FnExactChainCountUptoSaid : Prop := fnExactChainCountUptoRow.holds Try.pinned (OpenSpec.upto fnExactChainCountSpec)

/-- 'laws.FnValidAlgebra', WHERE WHAT IT READS IS OF BULK AT MOST 1048576: true; the input reads as it did. -/
def fnValidAlgebraUptoRow : OpenClaim := { program := "yteegdecbdobdpaa", sum := "52cbb02995e2334939be0f1f03360f29e5ced0a3874787a216d6ba904deff7e8", func := "loop.example/residuatedtables/laws.FnValidAlgebra", spec := "fnValidAlgebra", unfollowed := true, recurses := true, apart := false, narrowed := true }
def FnValidAlgebraUptoSaid : Prop := fnValidAlgebraUptoRow.holds Try.pinned (OpenSpec.upto fnValidAlgebraSpec)

/-- 'laws.FnExactFixedBy', WHERE WHAT IT READS IS OF BULK AT MOST 1048576: true; the input reads as it did. -/
def fnExactFixedByUptoRow : OpenClaim := { program := "yteegdecbdobdpaa", sum := "52cbb02995e2334939be0f1f03360f29e5ced0a3874787a216d6ba904deff7e8", func := "loop.example/residuatedtables/laws.FnExactFixedBy", spec := "fnExactFixedBy", unfollowed := true, recurses := true, apart := false, narrowed := true }
def FnExactFixedByUptoSaid : Prop := fnExactFixedByUptoRow.holds Try.pinned (OpenSpec.upto fnExactFixedBySpec)

/-- 'laws.FnPowerOf', WHERE WHAT IT READS IS OF BULK AT MOST 1048576: true; the input reads as it did. -/
def fnPowerOfUptoRow : OpenClaim := { program := "yteegdecbdobdpaa", sum := "52cbb02995e2334939be0f1f03360f29e5ced0a3874787a216d6ba904deff7e8", func := "loop.example/residuatedtables/laws.FnPowerOf", spec := "fnPowerOf", unfollowed := true, recurses := true, apart := false, narrowed := true }
def FnPowerOfUptoSaid : Prop := fnPowerOfUptoRow.holds Try.pinned (OpenSpec.upto fnPowerOfSpec)

/-- 'laws.FnImplyOf', WHERE WHAT IT READS IS OF BULK AT MOST 1048576: true; the input reads as it did. -/
def fnImplyOfUptoRow : OpenClaim := { program := "yteegdecbdobdpaa", sum := "52cbb02995e2334939be0f1f03360f29e5ced0a3874787a216d6ba904deff7e8", func := "loop.example/residuatedtables/laws.FnImplyOf", spec := "fnImplyOf", unfollowed := true, recurses := true, apart := false, narrowed := true }
def FnImplyOfUptoSaid : Prop := fnImplyOfUptoRow.holds Try.pinned (OpenSpec.upto fnImplyOfSpec)

/-- 'laws.FnNearOf', WHERE WHAT IT READS IS OF BULK AT MOST 1048576: true; the input reads as it did. -/
def fnNearOfUptoRow : OpenClaim := { program := "yteegdecbdobdpaa", sum := "52cbb02995e2334939be0f1f03360f29e5ced0a3874787a216d6ba904deff7e8", func := "loop.example/residuatedtables/laws.FnNearOf", spec := "fnNearOf", unfollowed := true, recurses := true, apart := false, narrowed := true }
def FnNearOfUptoSaid : Prop := fnNearOfUptoRow.holds Try.pinned (OpenSpec.upto fnNearOfSpec)

/-- 'laws.FnNotOf', WHERE WHAT IT READS IS OF BULK AT MOST 1048576: true; the input reads as it did. -/
def fnNotOfUptoRow : OpenClaim := { program := "yteegdecbdobdpaa", sum := "52cbb02995e2334939be0f1f03360f29e5ced0a3874787a216d6ba904deff7e8", func := "loop.example/residuatedtables/laws.FnNotOf", spec := "fnNotOf", unfollowed := true, recurses := true, apart := false, narrowed := true }
def FnNotOfUptoSaid : Prop := fnNotOfUptoRow.holds Try.pinned (OpenSpec.upto fnNotOfSpec)

/-- 'laws.FnExactQuotientOf', WHERE WHAT IT READS IS OF BULK AT MOST 1048576: true; the input reads as it did. -/
def fnExactQuotientOfUptoRow : OpenClaim := { program := "yteegdecbdobdpaa", sum := "52cbb02995e2334939be0f1f03360f29e5ced0a3874787a216d6ba904deff7e8", func := "loop.example/residuatedtables/laws.FnExactQuotientOf", spec := "fnExactQuotientOf", unfollowed := true, recurses := true, apart := false, narrowed := true }
def FnExactQuotientOfUptoSaid : Prop := fnExactQuotientOfUptoRow.holds Try.pinned (OpenSpec.upto fnExactQuotientOfSpec)

/-- 'laws.FnExactSizesOf', WHERE WHAT IT READS IS OF BULK AT MOST 1048576: true; the input reads as it did. -/
def fnExactSizesOfUptoRow : OpenClaim := { program := "yteegdecbdobdpaa", sum := "52cbb02995e2334939be0f1f03360f29e5ced0a3874787a216d6ba904deff7e8", func := "loop.example/residuatedtables/laws.FnExactSizesOf", spec := "fnExactSizesOf", unfollowed := true, recurses := true, apart := false, narrowed := true }
def FnExactSizesOfUptoSaid : Prop := fnExactSizesOfUptoRow.holds Try.pinned (OpenSpec.upto fnExactSizesOfSpec)

/-- 'laws.FnFixedOf', WHERE WHAT IT READS IS OF BULK AT MOST 1048576: true; the input reads as it did. -/
def fnFixedOfUptoRow : OpenClaim := { program := "yteegdecbdobdpaa", sum := "52cbb02995e2334939be0f1f03360f29e5ced0a3874787a216d6ba904deff7e8", func := "loop.example/residuatedtables/laws.FnFixedOf", spec := "fnFixedOf", unfollowed := true, recurses := true, apart := false, narrowed := true }
def FnFixedOfUptoSaid : Prop := fnFixedOfUptoRow.holds Try.pinned (OpenSpec.upto fnFixedOfSpec)

/-- 'laws.FnHasProperty', WHERE WHAT IT READS IS OF BULK AT MOST 1048576: true; the input reads as it did. -/
def fnHasPropertyUptoRow : OpenClaim := { program := "yteegdecbdobdpaa", sum := "52cbb02995e2334939be0f1f03360f29e5ced0a3874787a216d6ba904deff7e8", func := "loop.example/residuatedtables/laws.FnHasProperty", spec := "fnHasProperty", unfollowed := true, recurses := true, apart := false, narrowed := true }
def FnHasPropertyUptoSaid : Prop := fnHasPropertyUptoRow.holds Try.pinned (OpenSpec.upto fnHasPropertySpec)

/-- 'laws.FnValueOf', WHERE WHAT IT READS IS OF BULK AT MOST 1048576: true; the input reads as it did. -/
def fnValueOfUptoRow : OpenClaim := { program := "yteegdecbdobdpaa", sum := "52cbb02995e2334939be0f1f03360f29e5ced0a3874787a216d6ba904deff7e8", func := "loop.example/residuatedtables/laws.FnValueOf", spec := "fnValueOf", unfollowed := true, recurses := true, apart := false, narrowed := true }
def FnValueOfUptoSaid : Prop := fnValueOfUptoRow.holds Try.pinned (OpenSpec.upto fnValueOfSpec)

/-- 'laws.FnNucleiOf', WHERE WHAT IT READS IS OF BULK AT MOST 1048576: true; the input reads as it did. -/
def fnNucleiOfUptoRow : OpenClaim := { program := "yteegdecbdobdpaa", sum := "52cbb02995e2334939be0f1f03360f29e5ced0a3874787a216d6ba904deff7e8", func := "loop.example/residuatedtables/laws.FnNucleiOf", spec := "fnNucleiOf", unfollowed := true, recurses := true, apart := false, narrowed := true }
def FnNucleiOfUptoSaid : Prop := fnNucleiOfUptoRow.holds Try.pinned (OpenSpec.upto fnNucleiOfSpec)

/-- 'laws.FnRefuteTerm', WHERE WHAT IT READS IS OF BULK AT MOST 1048576: true; the input reads as it did. -/
def fnRefuteTermUptoRow : OpenClaim := { program := "yteegdecbdobdpaa", sum := "52cbb02995e2334939be0f1f03360f29e5ced0a3874787a216d6ba904deff7e8", func := "loop.example/residuatedtables/laws.FnRefuteTerm", spec := "fnRefuteTerm", unfollowed := true, recurses := true, apart := false, narrowed := true }
def FnRefuteTermUptoSaid : Prop := fnRefuteTermUptoRow.holds Try.pinned (OpenSpec.upto fnRefuteTermSpec)

end Rows
end Go.Proofs.Yteegdecbdobdpaa
