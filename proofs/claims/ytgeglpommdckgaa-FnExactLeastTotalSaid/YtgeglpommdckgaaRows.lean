/-
  No cell of these rows narrows 'for every input' (looked for: loops, veiled, ifaces, maps, wideKeys, modest, calm, conditions, laid).
  DERIVED. THE GIVEN ROWS OF THIS SEAT. 6 by the template 'for every input the law returns true; each argument reads behind the call as it read before'; 0 by the template 'total and deterministic' (their statements: YtgeglpommdckgaaTotals.lean).
  GIVEN WITH THE SEED: the statements are not yours to turn. If you find one false, say at which input.
  Laid BY PROGRAM, IN A SANDBOX (cutbox-rows.mjs): the forced cells as the released guide's own fill.sh prints them over the translation 3b24f0c5f2b2ed7e… (all of the seat's roots in one cut). By AI agents, Wed Nov 11 2026. No macro, syntax, notation, axiom, sorry.
-/
import Derived.Test.YtgeglpommdckgaaChecked
import GoSem.Claim
import GoSem.ClaimJoined
import GoSem.ClaimMapViews
import Derived.JoinedTies
import Derived.KernelRfl
namespace Go.Proofs.Ytgeglpommdckgaa
/- THE CELL 'sum', in the pinned program and in every row, IS THE sha256 OF THE DUMP (.gsa) THAT YtgeglpommdckgaaProg.lean LOADS. Nothing in Lean hashes anything: it is a label: what it is worth is what the hold of that sum in a sandbox is worth. -/
noncomputable def Try.pinned : Pinned := { name := "ytgeglpommdckgaa", sum := "3b24f0c5f2b2ed7eac1cd1323a7324337caec76c11289142557c069160c2c4f5", checked := Try.checked }
namespace Rows
def none {H : Type} : Left H := { results := [], args := [] }

/-- 'laws.FnExactTollsOf': WHATEVER THE INPUT: true; the input reads as it did. -/
def fnExactTollsOfSpec : ChangeSpec := { name := "fnExactTollsOf", fn := fun _ => fun
  | [d] => { results := [.lit (.bool true)], args := [d] }
  | _ => none }
def fnExactTollsOfRow : OpenClaim := { program := "ytgeglpommdckgaa", sum := "3b24f0c5f2b2ed7eac1cd1323a7324337caec76c11289142557c069160c2c4f5", func := "loop.example/g01365/laws.FnExactTollsOf", spec := "fnExactTollsOf", unfollowed := true, recurses := true, apart := false }
def FnExactTollsOfSaid : Prop := fnExactTollsOfRow.holds Try.pinned (OpenSpec.ofChange fnExactTollsOfSpec)

/-- ITS FALSE NEIGHBOUR: 'it returns false'. Refute it at one input. -/
def fnExactTollsOfWrong : ChangeSpec := { name := "fnExactTollsOf", fn := fun _ => fun
  | [d] => { results := [.lit (.bool false)], args := [d] }
  | _ => none }
def FnExactTollsOfWrongFalsely : Prop := fnExactTollsOfRow.holds Try.pinned (OpenSpec.ofChange fnExactTollsOfWrong)

/-- 'laws.FnExactMoreCosts': WHATEVER THE INPUT: true; the input reads as it did. -/
def fnExactMoreCostsSpec : ChangeSpec := { name := "fnExactMoreCosts", fn := fun _ => fun
  | [d1, d2] => { results := [.lit (.bool true)], args := [d1, d2] }
  | _ => none }
def fnExactMoreCostsRow : OpenClaim := { program := "ytgeglpommdckgaa", sum := "3b24f0c5f2b2ed7eac1cd1323a7324337caec76c11289142557c069160c2c4f5", func := "loop.example/g01365/laws.FnExactMoreCosts", spec := "fnExactMoreCosts", unfollowed := true, recurses := true, apart := false }
def FnExactMoreCostsSaid : Prop := fnExactMoreCostsRow.holds Try.pinned (OpenSpec.ofChange fnExactMoreCostsSpec)

/-- ITS FALSE NEIGHBOUR: 'it returns false'. Refute it at one input. -/
def fnExactMoreCostsWrong : ChangeSpec := { name := "fnExactMoreCosts", fn := fun _ => fun
  | [d1, d2] => { results := [.lit (.bool false)], args := [d1, d2] }
  | _ => none }
def FnExactMoreCostsWrongFalsely : Prop := fnExactMoreCostsRow.holds Try.pinned (OpenSpec.ofChange fnExactMoreCostsWrong)

/-- 'laws.FnExactLeastTotal': WHATEVER THE INPUT: true; the input reads as it did. -/
def fnExactLeastTotalSpec : ChangeSpec := { name := "fnExactLeastTotal", fn := fun _ => fun
  | [d] => { results := [.lit (.bool true)], args := [d] }
  | _ => none }
def fnExactLeastTotalRow : OpenClaim := { program := "ytgeglpommdckgaa", sum := "3b24f0c5f2b2ed7eac1cd1323a7324337caec76c11289142557c069160c2c4f5", func := "loop.example/g01365/laws.FnExactLeastTotal", spec := "fnExactLeastTotal", unfollowed := true, recurses := true, apart := false }
def FnExactLeastTotalSaid : Prop := fnExactLeastTotalRow.holds Try.pinned (OpenSpec.ofChange fnExactLeastTotalSpec)

/-- ITS FALSE NEIGHBOUR: 'it returns false'. Refute it at one input. -/
def fnExactLeastTotalWrong : ChangeSpec := { name := "fnExactLeastTotal", fn := fun _ => fun
  | [d] => { results := [.lit (.bool false)], args := [d] }
  | _ => none }
def FnExactLeastTotalWrongFalsely : Prop := fnExactLeastTotalRow.holds Try.pinned (OpenSpec.ofChange fnExactLeastTotalWrong)

/-- 'laws.FnExactEvenFlow': WHATEVER THE INPUT: true; the input reads as it did. -/
def fnExactEvenFlowSpec : ChangeSpec := { name := "fnExactEvenFlow", fn := fun _ => fun
  | [d1, d2, d3] => { results := [.lit (.bool true)], args := [d1, d2, d3] }
  | _ => none }
def fnExactEvenFlowRow : OpenClaim := { program := "ytgeglpommdckgaa", sum := "3b24f0c5f2b2ed7eac1cd1323a7324337caec76c11289142557c069160c2c4f5", func := "loop.example/g01365/laws.FnExactEvenFlow", spec := "fnExactEvenFlow", unfollowed := true, recurses := true, apart := false }
def FnExactEvenFlowSaid : Prop := fnExactEvenFlowRow.holds Try.pinned (OpenSpec.ofChange fnExactEvenFlowSpec)

/-- ITS FALSE NEIGHBOUR: 'it returns false'. Refute it at one input. -/
def fnExactEvenFlowWrong : ChangeSpec := { name := "fnExactEvenFlow", fn := fun _ => fun
  | [d1, d2, d3] => { results := [.lit (.bool false)], args := [d1, d2, d3] }
  | _ => none }
def FnExactEvenFlowWrongFalsely : Prop := fnExactEvenFlowRow.holds Try.pinned (OpenSpec.ofChange fnExactEvenFlowWrong)

/-- 'laws.FnExactTolledFlow': WHATEVER THE INPUT: true; the input reads as it did. -/
def fnExactTolledFlowSpec : ChangeSpec := { name := "fnExactTolledFlow", fn := fun _ => fun
  | [d1, d2, d3] => { results := [.lit (.bool true)], args := [d1, d2, d3] }
  | _ => none }
def fnExactTolledFlowRow : OpenClaim := { program := "ytgeglpommdckgaa", sum := "3b24f0c5f2b2ed7eac1cd1323a7324337caec76c11289142557c069160c2c4f5", func := "loop.example/g01365/laws.FnExactTolledFlow", spec := "fnExactTolledFlow", unfollowed := true, recurses := true, apart := false }
def FnExactTolledFlowSaid : Prop := fnExactTolledFlowRow.holds Try.pinned (OpenSpec.ofChange fnExactTolledFlowSpec)

/-- ITS FALSE NEIGHBOUR: 'it returns false'. Refute it at one input. -/
def fnExactTolledFlowWrong : ChangeSpec := { name := "fnExactTolledFlow", fn := fun _ => fun
  | [d1, d2, d3] => { results := [.lit (.bool false)], args := [d1, d2, d3] }
  | _ => none }
def FnExactTolledFlowWrongFalsely : Prop := fnExactTolledFlowRow.holds Try.pinned (OpenSpec.ofChange fnExactTolledFlowWrong)

/-- 'laws.FnFlowing': WHATEVER THE INPUT: true; the input reads as it did. -/
def fnFlowingSpec : ChangeSpec := { name := "fnFlowing", fn := fun _ => fun
  | [d1, d2] => { results := [.lit (.bool true)], args := [d1, d2] }
  | _ => none }
def fnFlowingRow : OpenClaim := { program := "ytgeglpommdckgaa", sum := "3b24f0c5f2b2ed7eac1cd1323a7324337caec76c11289142557c069160c2c4f5", func := "loop.example/g01365/laws.FnFlowing", spec := "fnFlowing", unfollowed := true, recurses := true, apart := false }
def FnFlowingSaid : Prop := fnFlowingRow.holds Try.pinned (OpenSpec.ofChange fnFlowingSpec)

/-- ITS FALSE NEIGHBOUR: 'it returns false'. Refute it at one input. -/
def fnFlowingWrong : ChangeSpec := { name := "fnFlowing", fn := fun _ => fun
  | [d1, d2] => { results := [.lit (.bool false)], args := [d1, d2] }
  | _ => none }
def FnFlowingWrongFalsely : Prop := fnFlowingRow.holds Try.pinned (OpenSpec.ofChange fnFlowingWrong)

/- THE SECOND FORM. 'bulk': how many values and letters a reading holds, each counted each time it is reached (what is shared counts as often as it is met; a slice's spare places count too). A statement '..UptoSaid' is the law's where the arguments, and the package variables that the reading takes, are together of bulk at most 1048576: NARROWER than '..Said'. Prove '..Said' where nothing that the law and all that it calls make is longer than what came in: it says more and counts as full. Else prove '..UptoSaid'. A law counts once. -/
mutual
def uptoBulk {H : Type} : DataW H → Nat
  | .lit (.string bytes) => bytes.length + 1
  | .lit _ => 1
  | .nil => 1
  | .ptr d => uptoBulk d + 1
  | .slice elems spare => uptoBulkAll elems + uptoBulkAll spare + 1
  | .agg parts => uptoBulkAll parts + 1
  | .iface _ d => uptoBulk d + 1
  | .map entries => uptoBulkEntries entries + 1
  | .held _ => 1
def uptoBulkAll {H : Type} : List (DataW H) → Nat
  | [] => 0
  | d :: r => uptoBulk d + uptoBulkAll r
def uptoBulkEntries {H : Type} : List (Lit × DataW H) → Nat
  | [] => 0
  | x :: r => uptoBulkEntry x + uptoBulkEntries r
def uptoBulkEntry {H : Type} : Lit × DataW H → Nat
  | (.string bytes, d) => bytes.length + uptoBulk d + 1
  | (_, d) => uptoBulk d + 1
 end
def uptoSmall : (H : Type) → List (DataW H) → Bool := fun _ ds => decide (uptoBulkAll ds ≤ 1048576)
def OpenSpec.upto (s : _root_.Go.ChangeSpec) : _root_.Go.OpenSpec := { _root_.Go.OpenSpec.ofChange s with cond := some uptoSmall }

/-- 'laws.FnExactTollsOf', WHERE WHAT IT READS IS OF BULK AT MOST 1048576: true; the input reads as it did. -/
def fnExactTollsOfUptoRow : OpenClaim := { program := "ytgeglpommdckgaa", sum := "3b24f0c5f2b2ed7eac1cd1323a7324337caec76c11289142557c069160c2c4f5", func := "loop.example/g01365/laws.FnExactTollsOf", spec := "fnExactTollsOf", unfollowed := true, recurses := true, apart := false, narrowed := true }
def FnExactTollsOfUptoSaid : Prop := fnExactTollsOfUptoRow.holds Try.pinned (OpenSpec.upto fnExactTollsOfSpec)

/-- 'laws.FnExactMoreCosts', WHERE WHAT IT READS IS OF BULK AT MOST 1048576: true; the input reads as it did. -/
def fnExactMoreCostsUptoRow : OpenClaim := { program := "ytgeglpommdckgaa", sum := "3b24f0c5f2b2ed7eac1cd1323a7324337caec76c11289142557c069160c2c4f5", func := "loop.example/g01365/laws.FnExactMoreCosts", spec := "fnExactMoreCosts", unfollowed := true, recurses := true, apart := false, narrowed := true }
def FnExactMoreCostsUptoSaid : Prop := fnExactMoreCostsUptoRow.holds Try.pinned (OpenSpec.upto fnExactMoreCostsSpec)

/-- 'laws.FnExactLeastTotal', WHERE WHAT IT READS IS OF BULK AT MOST 1048576: true; the input reads as it did. -/
def fnExactLeastTotalUptoRow : OpenClaim := { program := "ytgeglpommdckgaa", sum := "3b24f0c5f2b2ed7eac1cd1323a7324337caec76c11289142557c069160c2c4f5", func := "loop.example/g01365/laws.FnExactLeastTotal", spec := "fnExactLeastTotal", unfollowed := true, recurses := true, apart := false, narrowed := true }
def FnExactLeastTotalUptoSaid : Prop := fnExactLeastTotalUptoRow.holds Try.pinned (OpenSpec.upto fnExactLeastTotalSpec)

/-- 'laws.FnExactEvenFlow', WHERE WHAT IT READS IS OF BULK AT MOST 1048576: true; the input reads as it did. -/
def fnExactEvenFlowUptoRow : OpenClaim := { program := "ytgeglpommdckgaa", sum := "3b24f0c5f2b2ed7eac1cd1323a7324337caec76c11289142557c069160c2c4f5", func := "loop.example/g01365/laws.FnExactEvenFlow", spec := "fnExactEvenFlow", unfollowed := true, recurses := true, apart := false, narrowed := true }
def FnExactEvenFlowUptoSaid : Prop := fnExactEvenFlowUptoRow.holds Try.pinned (OpenSpec.upto fnExactEvenFlowSpec)

/-- 'laws.FnExactTolledFlow', WHERE WHAT IT READS IS OF BULK AT MOST 1048576: true; the input reads as it did. -/
def fnExactTolledFlowUptoRow : OpenClaim := { program := "ytgeglpommdckgaa", sum := "3b24f0c5f2b2ed7eac1cd1323a7324337caec76c11289142557c069160c2c4f5", func := "loop.example/g01365/laws.FnExactTolledFlow", spec := "fnExactTolledFlow", unfollowed := true, recurses := true, apart := false, narrowed := true }
def FnExactTolledFlowUptoSaid : Prop := fnExactTolledFlowUptoRow.holds Try.pinned (OpenSpec.upto fnExactTolledFlowSpec)

/-- 'laws.FnFlowing', WHERE WHAT IT READS IS OF BULK AT MOST 1048576: true; the input reads as it did. -/
def fnFlowingUptoRow : OpenClaim := { program := "ytgeglpommdckgaa", sum := "3b24f0c5f2b2ed7eac1cd1323a7324337caec76c11289142557c069160c2c4f5", func := "loop.example/g01365/laws.FnFlowing", spec := "fnFlowing", unfollowed := true, recurses := true, apart := false, narrowed := true }
def FnFlowingUptoSaid : Prop := fnFlowingUptoRow.holds Try.pinned (OpenSpec.upto fnFlowingSpec)

end Rows
end Go.Proofs.Ytgeglpommdckgaa
