/-
  No cell of these rows narrows 'for every input' (looked for: loops, veiled, ifaces, maps, wideKeys, modest, calm, conditions, laid).
  DERIVED. THE GIVEN ROWS OF THIS SEAT. 10 by the template 'for every input the law returns true; each argument reads behind the call as it read before'; 0 by the template 'total and deterministic' (their statements: YtnakiceojcomlaaTotals.lean).
  GIVEN WITH THE SEED: the statements are not yours to turn. If you find one false, say at which input.
  Laid BY PROGRAM, IN A SANDBOX (cutbox-rows.mjs): the forced cells as the released guide's own fill.sh prints them over the translation d5a376a4bcd8feb8… (all of the seat's roots in one cut). By AI agents, Wed Nov 11 2026. No macro, syntax, notation, axiom, sorry.
-/
import Derived.Test.YtnakiceojcomlaaChecked
import GoSem.Claim
import GoSem.ClaimJoined
import GoSem.ClaimMapViews
import Derived.JoinedTies
import Derived.KernelRfl
namespace Go.Proofs.Ytnakiceojcomlaa
/- THE CELL 'sum', in the pinned program and in every row, IS THE sha256 OF THE DUMP (.gsa) THAT YtnakiceojcomlaaProg.lean LOADS. Nothing in Lean hashes anything: it is a label: what it is worth is what the hold of that sum in a sandbox is worth. -/
noncomputable def Try.pinned : Pinned := { name := "ytnakiceojcomlaa", sum := "d5a376a4bcd8feb821cdf9f1b9f3b21e6a94b0a60ab13bb032cee444490781b2", checked := Try.checked }
namespace Rows
def none {H : Type} : Left H := { results := [], args := [] }

/-- 'laws.FnExactTurnGame': WHATEVER THE INPUT: true; the input reads as it did. -/
def fnExactTurnGameSpec : ChangeSpec := { name := "fnExactTurnGame", fn := fun _ => fun
  | [d] => { results := [.lit (.bool true)], args := [d] }
  | _ => none }
def fnExactTurnGameRow : OpenClaim := { program := "ytnakiceojcomlaa", sum := "d5a376a4bcd8feb821cdf9f1b9f3b21e6a94b0a60ab13bb032cee444490781b2", func := "loop.example/g01365/laws.FnExactTurnGame", spec := "fnExactTurnGame", apart := false }
def FnExactTurnGameSaid : Prop := fnExactTurnGameRow.holds Try.pinned (OpenSpec.ofChange fnExactTurnGameSpec)

/-- ITS FALSE NEIGHBOUR: 'it returns false'. Refute it at one input. -/
def fnExactTurnGameWrong : ChangeSpec := { name := "fnExactTurnGame", fn := fun _ => fun
  | [d] => { results := [.lit (.bool false)], args := [d] }
  | _ => none }
def FnExactTurnGameWrongFalsely : Prop := fnExactTurnGameRow.holds Try.pinned (OpenSpec.ofChange fnExactTurnGameWrong)

/-- 'laws.FnExactBestColumns': WHATEVER THE INPUT: true; the input reads as it did. -/
def fnExactBestColumnsSpec : ChangeSpec := { name := "fnExactBestColumns", fn := fun _ => fun
  | [d1, d2] => { results := [.lit (.bool true)], args := [d1, d2] }
  | _ => none }
def fnExactBestColumnsRow : OpenClaim := { program := "ytnakiceojcomlaa", sum := "d5a376a4bcd8feb821cdf9f1b9f3b21e6a94b0a60ab13bb032cee444490781b2", func := "loop.example/g01365/laws.FnExactBestColumns", spec := "fnExactBestColumns", apart := false }
def FnExactBestColumnsSaid : Prop := fnExactBestColumnsRow.holds Try.pinned (OpenSpec.ofChange fnExactBestColumnsSpec)

/-- ITS FALSE NEIGHBOUR: 'it returns false'. Refute it at one input. -/
def fnExactBestColumnsWrong : ChangeSpec := { name := "fnExactBestColumns", fn := fun _ => fun
  | [d1, d2] => { results := [.lit (.bool false)], args := [d1, d2] }
  | _ => none }
def FnExactBestColumnsWrongFalsely : Prop := fnExactBestColumnsRow.holds Try.pinned (OpenSpec.ofChange fnExactBestColumnsWrong)

/-- 'laws.FnExactWorseColumns': WHATEVER THE INPUT: true; the input reads as it did. -/
def fnExactWorseColumnsSpec : ChangeSpec := { name := "fnExactWorseColumns", fn := fun _ => fun
  | [d] => { results := [.lit (.bool true)], args := [d] }
  | _ => none }
def fnExactWorseColumnsRow : OpenClaim := { program := "ytnakiceojcomlaa", sum := "d5a376a4bcd8feb821cdf9f1b9f3b21e6a94b0a60ab13bb032cee444490781b2", func := "loop.example/g01365/laws.FnExactWorseColumns", spec := "fnExactWorseColumns", unfollowed := true, recurses := true, apart := false }
def FnExactWorseColumnsSaid : Prop := fnExactWorseColumnsRow.holds Try.pinned (OpenSpec.ofChange fnExactWorseColumnsSpec)

/-- ITS FALSE NEIGHBOUR: 'it returns false'. Refute it at one input. -/
def fnExactWorseColumnsWrong : ChangeSpec := { name := "fnExactWorseColumns", fn := fun _ => fun
  | [d] => { results := [.lit (.bool false)], args := [d] }
  | _ => none }
def FnExactWorseColumnsWrongFalsely : Prop := fnExactWorseColumnsRow.holds Try.pinned (OpenSpec.ofChange fnExactWorseColumnsWrong)

/-- 'laws.FnExactPureEquilibria': WHATEVER THE INPUT: true; the input reads as it did. -/
def fnExactPureEquilibriaSpec : ChangeSpec := { name := "fnExactPureEquilibria", fn := fun _ => fun
  | [d] => { results := [.lit (.bool true)], args := [d] }
  | _ => none }
def fnExactPureEquilibriaRow : OpenClaim := { program := "ytnakiceojcomlaa", sum := "d5a376a4bcd8feb821cdf9f1b9f3b21e6a94b0a60ab13bb032cee444490781b2", func := "loop.example/g01365/laws.FnExactPureEquilibria", spec := "fnExactPureEquilibria", apart := false }
def FnExactPureEquilibriaSaid : Prop := fnExactPureEquilibriaRow.holds Try.pinned (OpenSpec.ofChange fnExactPureEquilibriaSpec)

/-- ITS FALSE NEIGHBOUR: 'it returns false'. Refute it at one input. -/
def fnExactPureEquilibriaWrong : ChangeSpec := { name := "fnExactPureEquilibria", fn := fun _ => fun
  | [d] => { results := [.lit (.bool false)], args := [d] }
  | _ => none }
def FnExactPureEquilibriaWrongFalsely : Prop := fnExactPureEquilibriaRow.holds Try.pinned (OpenSpec.ofChange fnExactPureEquilibriaWrong)

/-- 'laws.FnExactBetterSteps': WHATEVER THE INPUT: true; the input reads as it did. -/
def fnExactBetterStepsSpec : ChangeSpec := { name := "fnExactBetterSteps", fn := fun _ => fun
  | [d1, d2, d3] => { results := [.lit (.bool true)], args := [d1, d2, d3] }
  | _ => none }
def fnExactBetterStepsRow : OpenClaim := { program := "ytnakiceojcomlaa", sum := "d5a376a4bcd8feb821cdf9f1b9f3b21e6a94b0a60ab13bb032cee444490781b2", func := "loop.example/g01365/laws.FnExactBetterSteps", spec := "fnExactBetterSteps", apart := false }
def FnExactBetterStepsSaid : Prop := fnExactBetterStepsRow.holds Try.pinned (OpenSpec.ofChange fnExactBetterStepsSpec)

/-- ITS FALSE NEIGHBOUR: 'it returns false'. Refute it at one input. -/
def fnExactBetterStepsWrong : ChangeSpec := { name := "fnExactBetterSteps", fn := fun _ => fun
  | [d1, d2, d3] => { results := [.lit (.bool false)], args := [d1, d2, d3] }
  | _ => none }
def FnExactBetterStepsWrongFalsely : Prop := fnExactBetterStepsRow.holds Try.pinned (OpenSpec.ofChange fnExactBetterStepsWrong)

/-- 'laws.FnExactLearnRows': WHATEVER THE INPUT: true; the input reads as it did. -/
def fnExactLearnRowsSpec : ChangeSpec := { name := "fnExactLearnRows", fn := fun _ => fun
  | [d1, d2] => { results := [.lit (.bool true)], args := [d1, d2] }
  | _ => none }
def fnExactLearnRowsRow : OpenClaim := { program := "ytnakiceojcomlaa", sum := "d5a376a4bcd8feb821cdf9f1b9f3b21e6a94b0a60ab13bb032cee444490781b2", func := "loop.example/g01365/laws.FnExactLearnRows", spec := "fnExactLearnRows", apart := false }
def FnExactLearnRowsSaid : Prop := fnExactLearnRowsRow.holds Try.pinned (OpenSpec.ofChange fnExactLearnRowsSpec)

/-- ITS FALSE NEIGHBOUR: 'it returns false'. Refute it at one input. -/
def fnExactLearnRowsWrong : ChangeSpec := { name := "fnExactLearnRows", fn := fun _ => fun
  | [d1, d2] => { results := [.lit (.bool false)], args := [d1, d2] }
  | _ => none }
def FnExactLearnRowsWrongFalsely : Prop := fnExactLearnRowsRow.holds Try.pinned (OpenSpec.ofChange fnExactLearnRowsWrong)

/-- 'laws.FnExactSurvivorsOf': WHATEVER THE INPUT: true; the input reads as it did. -/
def fnExactSurvivorsOfSpec : ChangeSpec := { name := "fnExactSurvivorsOf", fn := fun _ => fun
  | [d] => { results := [.lit (.bool true)], args := [d] }
  | _ => none }
def fnExactSurvivorsOfRow : OpenClaim := { program := "ytnakiceojcomlaa", sum := "d5a376a4bcd8feb821cdf9f1b9f3b21e6a94b0a60ab13bb032cee444490781b2", func := "loop.example/g01365/laws.FnExactSurvivorsOf", spec := "fnExactSurvivorsOf", unfollowed := true, recurses := true, apart := false }
def FnExactSurvivorsOfSaid : Prop := fnExactSurvivorsOfRow.holds Try.pinned (OpenSpec.ofChange fnExactSurvivorsOfSpec)

/-- ITS FALSE NEIGHBOUR: 'it returns false'. Refute it at one input. -/
def fnExactSurvivorsOfWrong : ChangeSpec := { name := "fnExactSurvivorsOf", fn := fun _ => fun
  | [d] => { results := [.lit (.bool false)], args := [d] }
  | _ => none }
def FnExactSurvivorsOfWrongFalsely : Prop := fnExactSurvivorsOfRow.holds Try.pinned (OpenSpec.ofChange fnExactSurvivorsOfWrong)

/-- 'laws.FnExactTwoByTwo': WHATEVER THE INPUT: true; the input reads as it did. -/
def fnExactTwoByTwoSpec : ChangeSpec := { name := "fnExactTwoByTwo", fn := fun _ => fun
  | [d] => { results := [.lit (.bool true)], args := [d] }
  | _ => none }
def fnExactTwoByTwoRow : OpenClaim := { program := "ytnakiceojcomlaa", sum := "d5a376a4bcd8feb821cdf9f1b9f3b21e6a94b0a60ab13bb032cee444490781b2", func := "loop.example/g01365/laws.FnExactTwoByTwo", spec := "fnExactTwoByTwo", apart := false }
def FnExactTwoByTwoSaid : Prop := fnExactTwoByTwoRow.holds Try.pinned (OpenSpec.ofChange fnExactTwoByTwoSpec)

/-- ITS FALSE NEIGHBOUR: 'it returns false'. Refute it at one input. -/
def fnExactTwoByTwoWrong : ChangeSpec := { name := "fnExactTwoByTwo", fn := fun _ => fun
  | [d] => { results := [.lit (.bool false)], args := [d] }
  | _ => none }
def FnExactTwoByTwoWrongFalsely : Prop := fnExactTwoByTwoRow.holds Try.pinned (OpenSpec.ofChange fnExactTwoByTwoWrong)

/-- 'laws.FnExactGamesShared': WHATEVER THE INPUT: true; the input reads as it did. -/
def fnExactGamesSharedSpec : ChangeSpec := { name := "fnExactGamesShared", fn := fun _ => fun
  | [d1, d2] => { results := [.lit (.bool true)], args := [d1, d2] }
  | _ => none }
def fnExactGamesSharedRow : OpenClaim := { program := "ytnakiceojcomlaa", sum := "d5a376a4bcd8feb821cdf9f1b9f3b21e6a94b0a60ab13bb032cee444490781b2", func := "loop.example/g01365/laws.FnExactGamesShared", spec := "fnExactGamesShared", apart := false }
def FnExactGamesSharedSaid : Prop := fnExactGamesSharedRow.holds Try.pinned (OpenSpec.ofChange fnExactGamesSharedSpec)

/-- ITS FALSE NEIGHBOUR: 'it returns false'. Refute it at one input. -/
def fnExactGamesSharedWrong : ChangeSpec := { name := "fnExactGamesShared", fn := fun _ => fun
  | [d1, d2] => { results := [.lit (.bool false)], args := [d1, d2] }
  | _ => none }
def FnExactGamesSharedWrongFalsely : Prop := fnExactGamesSharedRow.holds Try.pinned (OpenSpec.ofChange fnExactGamesSharedWrong)

/-- 'laws.FnExactWouldGain': WHATEVER THE INPUT: true; the input reads as it did. -/
def fnExactWouldGainSpec : ChangeSpec := { name := "fnExactWouldGain", fn := fun _ => fun
  | [d1, d2, d3] => { results := [.lit (.bool true)], args := [d1, d2, d3] }
  | _ => none }
def fnExactWouldGainRow : OpenClaim := { program := "ytnakiceojcomlaa", sum := "d5a376a4bcd8feb821cdf9f1b9f3b21e6a94b0a60ab13bb032cee444490781b2", func := "loop.example/g01365/laws.FnExactWouldGain", spec := "fnExactWouldGain", unfollowed := true, recurses := true, apart := false }
def FnExactWouldGainSaid : Prop := fnExactWouldGainRow.holds Try.pinned (OpenSpec.ofChange fnExactWouldGainSpec)

/-- ITS FALSE NEIGHBOUR: 'it returns false'. Refute it at one input. -/
def fnExactWouldGainWrong : ChangeSpec := { name := "fnExactWouldGain", fn := fun _ => fun
  | [d1, d2, d3] => { results := [.lit (.bool false)], args := [d1, d2, d3] }
  | _ => none }
def FnExactWouldGainWrongFalsely : Prop := fnExactWouldGainRow.holds Try.pinned (OpenSpec.ofChange fnExactWouldGainWrong)

/- THE SECOND FORM. 'bulk': how many values and letters a reading holds, each counted each time it is reached (what is shared counts as often as it is met; a slice's spare places count too). A statement '..UptoSaid' is the law's where the arguments, and the package variables that the reading takes, are together of bulk at most 1048576: NARROWER than '..Said'. Prove '..Said' where nothing that the law and all that it calls make is longer than what came in: it says more and counts as full. Else prove '..UptoSaid'. A law counts once. -/
mutual
def uptoBulk {H : Type} : DataW H → Nat
  | .lit (.string bytes) => bytes.length + 1
  | .lit _ => 1
  | .nil => 1
  | .ptr d => uptoBulk d + 1
  | .slice elems spare => uptoBulkAll elems + uptoBulkAll spare + 1
  | .agg parts => uptoBulkAll parts + 1
  | .iface _ d => uptoBulk d + 1
  | .map entries => uptoBulkEntries entries + 1
  | .held _ => 1
def uptoBulkAll {H : Type} : List (DataW H) → Nat
  | [] => 0
  | d :: r => uptoBulk d + uptoBulkAll r
def uptoBulkEntries {H : Type} : List (Lit × DataW H) → Nat
  | [] => 0
  | x :: r => uptoBulkEntry x + uptoBulkEntries r
def uptoBulkEntry {H : Type} : Lit × DataW H → Nat
  | (.string bytes, d) => bytes.length + uptoBulk d + 1
  | (_, d) => uptoBulk d + 1
 end
def uptoSmall : (H : Type) → List (DataW H) → Bool := fun _ ds => decide (uptoBulkAll ds ≤ 1048576)
def OpenSpec.upto (s : _root_.Go.ChangeSpec) : _root_.Go.OpenSpec := { _root_.Go.OpenSpec.ofChange s with cond := some uptoSmall }

/-- 'laws.FnExactTurnGame', WHERE WHAT IT READS IS OF BULK AT MOST 1048576: true; the input reads as it did. -/
def fnExactTurnGameUptoRow : OpenClaim := { program := "ytnakiceojcomlaa", sum := "d5a376a4bcd8feb821cdf9f1b9f3b21e6a94b0a60ab13bb032cee444490781b2", func := "loop.example/g01365/laws.FnExactTurnGame", spec := "fnExactTurnGame", apart := false, narrowed := true }
def FnExactTurnGameUptoSaid : Prop := fnExactTurnGameUptoRow.holds Try.pinned (OpenSpec.upto fnExactTurnGameSpec)

/-- 'laws.FnExactBestColumns', WHERE WHAT IT READS IS OF BULK AT MOST 1048576: true; the input reads as it did. -/
def fnExactBestColumnsUptoRow : OpenClaim := { program := "ytnakiceojcomlaa", sum := "d5a376a4bcd8feb821cdf9f1b9f3b21e6a94b0a60ab13bb032cee444490781b2", func := "loop.example/g01365/laws.FnExactBestColumns", spec := "fnExactBestColumns", apart := false, narrowed := true }
def FnExactBestColumnsUptoSaid : Prop := fnExactBestColumnsUptoRow.holds Try.pinned (OpenSpec.upto fnExactBestColumnsSpec)

/-- 'laws.FnExactWorseColumns', WHERE WHAT IT READS IS OF BULK AT MOST 1048576: true; the input reads as it did. -/
def fnExactWorseColumnsUptoRow : OpenClaim := { program := "ytnakiceojcomlaa", sum := "d5a376a4bcd8feb821cdf9f1b9f3b21e6a94b0a60ab13bb032cee444490781b2", func := "loop.example/g01365/laws.FnExactWorseColumns", spec := "fnExactWorseColumns", unfollowed := true, recurses := true, apart := false, narrowed := true }
def FnExactWorseColumnsUptoSaid : Prop := fnExactWorseColumnsUptoRow.holds Try.pinned (OpenSpec.upto fnExactWorseColumnsSpec)

/-- 'laws.FnExactPureEquilibria', WHERE WHAT IT READS IS OF BULK AT MOST 1048576: true; the input reads as it did. -/
def fnExactPureEquilibriaUptoRow : OpenClaim := { program := "ytnakiceojcomlaa", sum := "d5a376a4bcd8feb821cdf9f1b9f3b21e6a94b0a60ab13bb032cee444490781b2", func := "loop.example/g01365/laws.FnExactPureEquilibria", spec := "fnExactPureEquilibria", apart := false, narrowed := true }
def FnExactPureEquilibriaUptoSaid : Prop := fnExactPureEquilibriaUptoRow.holds Try.pinned (OpenSpec.upto fnExactPureEquilibriaSpec)

/-- 'laws.FnExactBetterSteps', WHERE WHAT IT READS IS OF BULK AT MOST 1048576: true; the input reads as it did. -/
def fnExactBetterStepsUptoRow : OpenClaim := { program := "ytnakiceojcomlaa", sum := "d5a376a4bcd8feb821cdf9f1b9f3b21e6a94b0a60ab13bb032cee444490781b2", func := "loop.example/g01365/laws.FnExactBetterSteps", spec := "fnExactBetterSteps", apart := false, narrowed := true }
def FnExactBetterStepsUptoSaid : Prop := fnExactBetterStepsUptoRow.holds Try.pinned (OpenSpec.upto fnExactBetterStepsSpec)

/-- 'laws.FnExactLearnRows', WHERE WHAT IT READS IS OF BULK AT MOST 1048576: true; the input reads as it did. -/
def fnExactLearnRowsUptoRow : OpenClaim := { program := "ytnakiceojcomlaa", sum := "d5a376a4bcd8feb821cdf9f1b9f3b21e6a94b0a60ab13bb032cee444490781b2", func := "loop.example/g01365/laws.FnExactLearnRows", spec := "fnExactLearnRows", apart := false, narrowed := true }
def FnExactLearnRowsUptoSaid : Prop := fnExactLearnRowsUptoRow.holds Try.pinned (OpenSpec.upto fnExactLearnRowsSpec)

/-- 'laws.FnExactSurvivorsOf', WHERE WHAT IT READS IS OF BULK AT MOST 1048576: true; the input reads as it did. -/
def fnExactSurvivorsOfUptoRow : OpenClaim := { program := "ytnakiceojcomlaa", sum := "d5a376a4bcd8feb821cdf9f1b9f3b21e6a94b0a60ab13bb032cee444490781b2", func := "loop.example/g01365/laws.FnExactSurvivorsOf", spec := "fnExactSurvivorsOf", unfollowed := true, recurses := true, apart := false, narrowed := true }
def FnExactSurvivorsOfUptoSaid : Prop := fnExactSurvivorsOfUptoRow.holds Try.pinned (OpenSpec.upto fnExactSurvivorsOfSpec)

/-- 'laws.FnExactTwoByTwo', WHERE WHAT IT READS IS OF BULK AT MOST 1048576: true; the input reads as it did. -/
def fnExactTwoByTwoUptoRow : OpenClaim := { program := "ytnakiceojcomlaa", sum := "d5a376a4bcd8feb821cdf9f1b9f3b21e6a94b0a60ab13bb032cee444490781b2", func := "loop.example/g01365/laws.FnExactTwoByTwo", spec := "fnExactTwoByTwo", apart := false, narrowed := true }
def FnExactTwoByTwoUptoSaid : Prop := fnExactTwoByTwoUptoRow.holds Try.pinned (OpenSpec.upto fnExactTwoByTwoSpec)

/-- 'laws.FnExactGamesShared', WHERE WHAT IT READS IS OF BULK AT MOST 1048576: true; the input reads as it did. -/
def fnExactGamesSharedUptoRow : OpenClaim := { program := "ytnakiceojcomlaa", sum := "d5a376a4bcd8feb821cdf9f1b9f3b21e6a94b0a60ab13bb032cee444490781b2", func := "loop.example/g01365/laws.FnExactGamesShared", spec := "fnExactGamesShared", apart := false, narrowed := true }
def FnExactGamesSharedUptoSaid : Prop := fnExactGamesSharedUptoRow.holds Try.pinned (OpenSpec.upto fnExactGamesSharedSpec)

/-- 'laws.FnExactWouldGain', WHERE WHAT IT READS IS OF BULK AT MOST 1048576: true; the input reads as it did. -/
def fnExactWouldGainUptoRow : OpenClaim := { program := "ytnakiceojcomlaa", sum := "d5a376a4bcd8feb821cdf9f1b9f3b21e6a94b0a60ab13bb032cee444490781b2", func := "loop.example/g01365/laws.FnExactWouldGain", spec := "fnExactWouldGain", unfollowed := true, recurses := true, apart := false, narrowed := true }
def FnExactWouldGainUptoSaid : Prop := fnExactWouldGainUptoRow.holds Try.pinned (OpenSpec.upto fnExactWouldGainSpec)

end Rows
end Go.Proofs.Ytnakiceojcomlaa
