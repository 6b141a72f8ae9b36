/-
  No cell of these rows narrows 'for every input' (looked for: loops, veiled, ifaces, maps, wideKeys, modest, calm, conditions, laid).
  DERIVED. THE GIVEN ROWS OF THIS SEAT. 9 by the template 'for every input the law returns true; each argument reads behind the call as it read before'; 0 by the template 'total and deterministic' (their statements: YtpcjbnglolfaaaaTotals.lean).
  GIVEN WITH THE SEED: the statements are not yours to turn. If you find one false, say at which input.
  Laid BY PROGRAM, IN A SANDBOX (cutbox-rows.mjs): the forced cells as the released guide's own fill.sh prints them over the translation 8651ff9bb0360b89… (all of the seat's roots in one cut). By AI agents, Wed Nov 11 2026. No macro, syntax, notation, axiom, sorry.
-/
import Derived.Test.YtpcjbnglolfaaaaChecked
import GoSem.Claim
import GoSem.ClaimJoined
import GoSem.ClaimMapViews
import Derived.JoinedTies
import Derived.KernelRfl
namespace Go.Proofs.Ytpcjbnglolfaaaa
/- THE CELL 'sum', in the pinned program and in every row, IS THE sha256 OF THE DUMP (.gsa) THAT YtpcjbnglolfaaaaProg.lean LOADS. Nothing in Lean hashes anything: it is a label: what it is worth is what the hold of that sum in a sandbox is worth. -/
noncomputable def Try.pinned : Pinned := { name := "ytpcjbnglolfaaaa", sum := "8651ff9bb0360b8915e814f2d926ee048cdfe027fc0a48d13bc98b0797ae348f", checked := Try.checked }
namespace Rows
def none {H : Type} : Left H := { results := [], args := [] }

/-- 'laws.FnExactUnsealed': WHATEVER THE INPUT: true; the input reads as it did. -/
def fnExactUnsealedSpec : ChangeSpec := { name := "fnExactUnsealed", fn := fun _ => fun
  | [d] => { results := [.lit (.bool true)], args := [d] }
  | _ => none }
def fnExactUnsealedRow : OpenClaim := { program := "ytpcjbnglolfaaaa", sum := "8651ff9bb0360b8915e814f2d926ee048cdfe027fc0a48d13bc98b0797ae348f", func := "loop.example/g00121/laws.FnExactUnsealed", spec := "fnExactUnsealed", apart := false }
def FnExactUnsealedSaid : Prop := fnExactUnsealedRow.holds Try.pinned (OpenSpec.ofChange fnExactUnsealedSpec)

/-- ITS FALSE NEIGHBOUR: 'it returns false'. Refute it at one input. -/
def fnExactUnsealedWrong : ChangeSpec := { name := "fnExactUnsealed", fn := fun _ => fun
  | [d] => { results := [.lit (.bool false)], args := [d] }
  | _ => none }
def FnExactUnsealedWrongFalsely : Prop := fnExactUnsealedRow.holds Try.pinned (OpenSpec.ofChange fnExactUnsealedWrong)

/-- 'laws.FnExactReadShort': WHATEVER THE INPUT: true; the input reads as it did. -/
def fnExactReadShortSpec : ChangeSpec := { name := "fnExactReadShort", fn := fun _ => fun
  | [d1, d2] => { results := [.lit (.bool true)], args := [d1, d2] }
  | _ => none }
def fnExactReadShortRow : OpenClaim := { program := "ytpcjbnglolfaaaa", sum := "8651ff9bb0360b8915e814f2d926ee048cdfe027fc0a48d13bc98b0797ae348f", func := "loop.example/g00121/laws.FnExactReadShort", spec := "fnExactReadShort", apart := false }
def FnExactReadShortSaid : Prop := fnExactReadShortRow.holds Try.pinned (OpenSpec.ofChange fnExactReadShortSpec)

/-- ITS FALSE NEIGHBOUR: 'it returns false'. Refute it at one input. -/
def fnExactReadShortWrong : ChangeSpec := { name := "fnExactReadShort", fn := fun _ => fun
  | [d1, d2] => { results := [.lit (.bool false)], args := [d1, d2] }
  | _ => none }
def FnExactReadShortWrongFalsely : Prop := fnExactReadShortRow.holds Try.pinned (OpenSpec.ofChange fnExactReadShortWrong)

/-- 'laws.FnExactChainWays': WHATEVER THE INPUT: true; the input reads as it did. -/
def fnExactChainWaysSpec : ChangeSpec := { name := "fnExactChainWays", fn := fun _ => fun
  | [d] => { results := [.lit (.bool true)], args := [d] }
  | _ => none }
def fnExactChainWaysRow : OpenClaim := { program := "ytpcjbnglolfaaaa", sum := "8651ff9bb0360b8915e814f2d926ee048cdfe027fc0a48d13bc98b0797ae348f", func := "loop.example/g00121/laws.FnExactChainWays", spec := "fnExactChainWays", recurses := true, apart := false }
def FnExactChainWaysSaid : Prop := fnExactChainWaysRow.holds Try.pinned (OpenSpec.ofChange fnExactChainWaysSpec)

/-- ITS FALSE NEIGHBOUR: 'it returns false'. Refute it at one input. -/
def fnExactChainWaysWrong : ChangeSpec := { name := "fnExactChainWays", fn := fun _ => fun
  | [d] => { results := [.lit (.bool false)], args := [d] }
  | _ => none }
def FnExactChainWaysWrongFalsely : Prop := fnExactChainWaysRow.holds Try.pinned (OpenSpec.ofChange fnExactChainWaysWrong)

/-- 'laws.FnExactSameOutcome': WHATEVER THE INPUT: true; the input reads as it did. -/
def fnExactSameOutcomeSpec : ChangeSpec := { name := "fnExactSameOutcome", fn := fun _ => fun
  | [d1, d2] => { results := [.lit (.bool true)], args := [d1, d2] }
  | _ => none }
def fnExactSameOutcomeRow : OpenClaim := { program := "ytpcjbnglolfaaaa", sum := "8651ff9bb0360b8915e814f2d926ee048cdfe027fc0a48d13bc98b0797ae348f", func := "loop.example/g00121/laws.FnExactSameOutcome", spec := "fnExactSameOutcome", apart := false }
def FnExactSameOutcomeSaid : Prop := fnExactSameOutcomeRow.holds Try.pinned (OpenSpec.ofChange fnExactSameOutcomeSpec)

/-- ITS FALSE NEIGHBOUR: 'it returns false'. Refute it at one input. -/
def fnExactSameOutcomeWrong : ChangeSpec := { name := "fnExactSameOutcome", fn := fun _ => fun
  | [d1, d2] => { results := [.lit (.bool false)], args := [d1, d2] }
  | _ => none }
def FnExactSameOutcomeWrongFalsely : Prop := fnExactSameOutcomeRow.holds Try.pinned (OpenSpec.ofChange fnExactSameOutcomeWrong)

/-- 'laws.FnTurned': WHATEVER THE INPUT: true; the input reads as it did. -/
def fnTurnedSpec : ChangeSpec := { name := "fnTurned", fn := fun _ => fun
  | [d] => { results := [.lit (.bool true)], args := [d] }
  | _ => none }
def fnTurnedRow : OpenClaim := { program := "ytpcjbnglolfaaaa", sum := "8651ff9bb0360b8915e814f2d926ee048cdfe027fc0a48d13bc98b0797ae348f", func := "loop.example/g00121/laws.FnTurned", spec := "fnTurned", apart := false }
def FnTurnedSaid : Prop := fnTurnedRow.holds Try.pinned (OpenSpec.ofChange fnTurnedSpec)

/-- ITS FALSE NEIGHBOUR: 'it returns false'. Refute it at one input. -/
def fnTurnedWrong : ChangeSpec := { name := "fnTurned", fn := fun _ => fun
  | [d] => { results := [.lit (.bool false)], args := [d] }
  | _ => none }
def FnTurnedWrongFalsely : Prop := fnTurnedRow.holds Try.pinned (OpenSpec.ofChange fnTurnedWrong)

/-- 'laws.FnExactChainCost': WHATEVER THE INPUT: true; the input reads as it did. -/
def fnExactChainCostSpec : ChangeSpec := { name := "fnExactChainCost", fn := fun _ => fun
  | [d] => { results := [.lit (.bool true)], args := [d] }
  | _ => none }
def fnExactChainCostRow : OpenClaim := { program := "ytpcjbnglolfaaaa", sum := "8651ff9bb0360b8915e814f2d926ee048cdfe027fc0a48d13bc98b0797ae348f", func := "loop.example/g00121/laws.FnExactChainCost", spec := "fnExactChainCost", recurses := true, apart := false }
def FnExactChainCostSaid : Prop := fnExactChainCostRow.holds Try.pinned (OpenSpec.ofChange fnExactChainCostSpec)

/-- ITS FALSE NEIGHBOUR: 'it returns false'. Refute it at one input. -/
def fnExactChainCostWrong : ChangeSpec := { name := "fnExactChainCost", fn := fun _ => fun
  | [d] => { results := [.lit (.bool false)], args := [d] }
  | _ => none }
def FnExactChainCostWrongFalsely : Prop := fnExactChainCostRow.holds Try.pinned (OpenSpec.ofChange fnExactChainCostWrong)

/-- 'laws.FnExactSameMatrix': WHATEVER THE INPUT: true; the input reads as it did. -/
def fnExactSameMatrixSpec : ChangeSpec := { name := "fnExactSameMatrix", fn := fun _ => fun
  | [d1, d2] => { results := [.lit (.bool true)], args := [d1, d2] }
  | _ => none }
def fnExactSameMatrixRow : OpenClaim := { program := "ytpcjbnglolfaaaa", sum := "8651ff9bb0360b8915e814f2d926ee048cdfe027fc0a48d13bc98b0797ae348f", func := "loop.example/g00121/laws.FnExactSameMatrix", spec := "fnExactSameMatrix", apart := false }
def FnExactSameMatrixSaid : Prop := fnExactSameMatrixRow.holds Try.pinned (OpenSpec.ofChange fnExactSameMatrixSpec)

/-- ITS FALSE NEIGHBOUR: 'it returns false'. Refute it at one input. -/
def fnExactSameMatrixWrong : ChangeSpec := { name := "fnExactSameMatrix", fn := fun _ => fun
  | [d1, d2] => { results := [.lit (.bool false)], args := [d1, d2] }
  | _ => none }
def FnExactSameMatrixWrongFalsely : Prop := fnExactSameMatrixRow.holds Try.pinned (OpenSpec.ofChange fnExactSameMatrixWrong)

/-- 'laws.FnExactCostOf': WHATEVER THE INPUT: true; the input reads as it did. -/
def fnExactCostOfSpec : ChangeSpec := { name := "fnExactCostOf", fn := fun _ => fun
  | [d1, d2] => { results := [.lit (.bool true)], args := [d1, d2] }
  | _ => none }
def fnExactCostOfRow : OpenClaim := { program := "ytpcjbnglolfaaaa", sum := "8651ff9bb0360b8915e814f2d926ee048cdfe027fc0a48d13bc98b0797ae348f", func := "loop.example/g00121/laws.FnExactCostOf", spec := "fnExactCostOf", recurses := true, apart := false }
def FnExactCostOfSaid : Prop := fnExactCostOfRow.holds Try.pinned (OpenSpec.ofChange fnExactCostOfSpec)

/-- ITS FALSE NEIGHBOUR: 'it returns false'. Refute it at one input. -/
def fnExactCostOfWrong : ChangeSpec := { name := "fnExactCostOf", fn := fun _ => fun
  | [d1, d2] => { results := [.lit (.bool false)], args := [d1, d2] }
  | _ => none }
def FnExactCostOfWrongFalsely : Prop := fnExactCostOfRow.holds Try.pinned (OpenSpec.ofChange fnExactCostOfWrong)

/-- 'laws.FnExactShapeOf': WHATEVER THE INPUT: true; the input reads as it did. -/
def fnExactShapeOfSpec : ChangeSpec := { name := "fnExactShapeOf", fn := fun _ => fun
  | [d1, d2, d3] => { results := [.lit (.bool true)], args := [d1, d2, d3] }
  | _ => none }
def fnExactShapeOfRow : OpenClaim := { program := "ytpcjbnglolfaaaa", sum := "8651ff9bb0360b8915e814f2d926ee048cdfe027fc0a48d13bc98b0797ae348f", func := "loop.example/g00121/laws.FnExactShapeOf", spec := "fnExactShapeOf", apart := false }
def FnExactShapeOfSaid : Prop := fnExactShapeOfRow.holds Try.pinned (OpenSpec.ofChange fnExactShapeOfSpec)

/-- ITS FALSE NEIGHBOUR: 'it returns false'. Refute it at one input. -/
def fnExactShapeOfWrong : ChangeSpec := { name := "fnExactShapeOf", fn := fun _ => fun
  | [d1, d2, d3] => { results := [.lit (.bool false)], args := [d1, d2, d3] }
  | _ => none }
def FnExactShapeOfWrongFalsely : Prop := fnExactShapeOfRow.holds Try.pinned (OpenSpec.ofChange fnExactShapeOfWrong)

/- THE SECOND FORM. 'bulk': how many values and letters a reading holds, each counted each time it is reached (what is shared counts as often as it is met; a slice's spare places count too). A statement '..UptoSaid' is the law's where the arguments, and the package variables that the reading takes, are together of bulk at most 1048576: NARROWER than '..Said'. Prove '..Said' where nothing that the law and all that it calls make is longer than what came in: it says more and counts as full. Else prove '..UptoSaid'. A law counts once. -/
mutual
def uptoBulk {H : Type} : DataW H → Nat
  | .lit (.string bytes) => bytes.length + 1
  | .lit _ => 1
  | .nil => 1
  | .ptr d => uptoBulk d + 1
  | .slice elems spare => uptoBulkAll elems + uptoBulkAll spare + 1
  | .agg parts => uptoBulkAll parts + 1
  | .iface _ d => uptoBulk d + 1
  | .map entries => uptoBulkEntries entries + 1
  | .held _ => 1
def uptoBulkAll {H : Type} : List (DataW H) → Nat
  | [] => 0
  | d :: r => uptoBulk d + uptoBulkAll r
def uptoBulkEntries {H : Type} : List (Lit × DataW H) → Nat
  | [] => 0
  | x :: r => uptoBulkEntry x + uptoBulkEntries r
def uptoBulkEntry {H : Type} : Lit × DataW H → Nat
  | (.string bytes, d) => bytes.length + uptoBulk d + 1
  | (_, d) => uptoBulk d + 1
 end
def uptoSmall : (H : Type) → List (DataW H) → Bool := fun _ ds => decide (uptoBulkAll ds ≤ 1048576)
def OpenSpec.upto (s : _root_.Go.ChangeSpec) : _root_.Go.OpenSpec := { _root_.Go.OpenSpec.ofChange s with cond := some uptoSmall }

/-- 'laws.FnExactUnsealed', WHERE WHAT IT READS IS OF BULK AT MOST 1048576: true; the input reads as it did. -/
def fnExactUnsealedUptoRow : OpenClaim := { program := "ytpcjbnglolfaaaa", sum := "8651ff9bb0360b8915e814f2d926ee048cdfe027fc0a48d13bc98b0797ae348f", func := "loop.example/g00121/laws.FnExactUnsealed", spec := "fnExactUnsealed", apart := false, narrowed := true }
def FnExactUnsealedUptoSaid : Prop := fnExactUnsealedUptoRow.holds Try.pinned (OpenSpec.upto fnExactUnsealedSpec)

/-- 'laws.FnExactReadShort', WHERE WHAT IT READS IS OF BULK AT MOST 1048576: true; the input reads as it did. -/
def fnExactReadShortUptoRow : OpenClaim := { program := "ytpcjbnglolfaaaa", sum := "8651ff9bb0360b8915e814f2d926ee048cdfe027fc0a48d13bc98b0797ae348f", func := "loop.example/g00121/laws.FnExactReadShort", spec := "fnExactReadShort", apart := false, narrowed := true }
def FnExactReadShortUptoSaid : Prop := fnExactReadShortUptoRow.holds Try.pinned (OpenSpec.upto fnExactReadShortSpec)

/-- 'laws.FnExactChainWays', WHERE WHAT IT READS IS OF BULK AT MOST 1048576: true; the input reads as it did. -/
def fnExactChainWaysUptoRow : OpenClaim := { program := "ytpcjbnglolfaaaa", sum := "8651ff9bb0360b8915e814f2d926ee048cdfe027fc0a48d13bc98b0797ae348f", func := "loop.example/g00121/laws.FnExactChainWays", spec := "fnExactChainWays", recurses := true, apart := false, narrowed := true }
def FnExactChainWaysUptoSaid : Prop := fnExactChainWaysUptoRow.holds Try.pinned (OpenSpec.upto fnExactChainWaysSpec)

/-- 'laws.FnExactSameOutcome', WHERE WHAT IT READS IS OF BULK AT MOST 1048576: true; the input reads as it did. -/
def fnExactSameOutcomeUptoRow : OpenClaim := { program := "ytpcjbnglolfaaaa", sum := "8651ff9bb0360b8915e814f2d926ee048cdfe027fc0a48d13bc98b0797ae348f", func := "loop.example/g00121/laws.FnExactSameOutcome", spec := "fnExactSameOutcome", apart := false, narrowed := true }
def FnExactSameOutcomeUptoSaid : Prop := fnExactSameOutcomeUptoRow.holds Try.pinned (OpenSpec.upto fnExactSameOutcomeSpec)

/-- 'laws.FnTurned', WHERE WHAT IT READS IS OF BULK AT MOST 1048576: true; the input reads as it did. -/
def fnTurnedUptoRow : OpenClaim := { program := "ytpcjbnglolfaaaa", sum := "8651ff9bb0360b8915e814f2d926ee048cdfe027fc0a48d13bc98b0797ae348f", func := "loop.example/g00121/laws.FnTurned", spec := "fnTurned", apart := false, narrowed := true }
def FnTurnedUptoSaid : Prop := fnTurnedUptoRow.holds Try.pinned (OpenSpec.upto fnTurnedSpec)

/-- 'laws.FnExactChainCost', WHERE WHAT IT READS IS OF BULK AT MOST 1048576: true; the input reads as it did. -/
def fnExactChainCostUptoRow : OpenClaim := { program := "ytpcjbnglolfaaaa", sum := "8651ff9bb0360b8915e814f2d926ee048cdfe027fc0a48d13bc98b0797ae348f", func := "loop.example/g00121/laws.FnExactChainCost", spec := "fnExactChainCost", recurses := true, apart := false, narrowed := true }
def FnExactChainCostUptoSaid : Prop := fnExactChainCostUptoRow.holds Try.pinned (OpenSpec.upto fnExactChainCostSpec)

/-- 'laws.FnExactSameMatrix', WHERE WHAT IT READS IS OF BULK AT MOST 1048576: true; the input reads as it did. -/
def fnExactSameMatrixUptoRow : OpenClaim := { program := "ytpcjbnglolfaaaa", sum := "8651ff9bb0360b8915e814f2d926ee048cdfe027fc0a48d13bc98b0797ae348f", func := "loop.example/g00121/laws.FnExactSameMatrix", spec := "fnExactSameMatrix", apart := false, narrowed := true }
def FnExactSameMatrixUptoSaid : Prop := fnExactSameMatrixUptoRow.holds Try.pinned (OpenSpec.upto fnExactSameMatrixSpec)

/-- 'laws.FnExactCostOf', WHERE WHAT IT READS IS OF BULK AT MOST 1048576: true; the input reads as it did. -/
def fnExactCostOfUptoRow : OpenClaim := { program := "ytpcjbnglolfaaaa", sum := "8651ff9bb0360b8915e814f2d926ee048cdfe027fc0a48d13bc98b0797ae348f", func := "loop.example/g00121/laws.FnExactCostOf", spec := "fnExactCostOf", recurses := true, apart := false, narrowed := true }
def FnExactCostOfUptoSaid : Prop := fnExactCostOfUptoRow.holds Try.pinned (OpenSpec.upto fnExactCostOfSpec)

/-- 'laws.FnExactShapeOf', WHERE WHAT IT READS IS OF BULK AT MOST 1048576: true; the input reads as it did. -/
def fnExactShapeOfUptoRow : OpenClaim := { program := "ytpcjbnglolfaaaa", sum := "8651ff9bb0360b8915e814f2d926ee048cdfe027fc0a48d13bc98b0797ae348f", func := "loop.example/g00121/laws.FnExactShapeOf", spec := "fnExactShapeOf", apart := false, narrowed := true }
def FnExactShapeOfUptoSaid : Prop := fnExactShapeOfUptoRow.holds Try.pinned (OpenSpec.upto fnExactShapeOfSpec)

end Rows
end Go.Proofs.Ytpcjbnglolfaaaa
