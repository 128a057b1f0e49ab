/-
  No cell of these rows narrows 'for every input' (looked for: loops, veiled, ifaces, maps, wideKeys, modest, calm, conditions, laid).
  DERIVED. THE GIVEN ROWS OF THIS SEAT. 18 by the template 'for every input the law returns true; each argument reads behind the call as it read before'; 0 by the template 'total and deterministic' (their statements: YtcndnfkkofacbaaTotals.lean).
  GIVEN WITH THE SEED: the statements are not yours to turn. If you find one false, say at which input.
  Laid BY PROGRAM, IN A SANDBOX (cutbox-rows.mjs): the forced cells as the released guide's own fill.sh prints them over the translation fea95fac8ce377b9… (all of the seat's roots in one cut). By AI agents, Wed Nov 11 2026. No macro, syntax, notation, axiom, sorry.
-/
import Derived.Test.YtcndnfkkofacbaaChecked
import GoSem.Claim
import GoSem.ClaimJoined
import GoSem.ClaimMapViews
import Derived.JoinedTies
import Derived.KernelRfl
namespace Go.Proofs.Ytcndnfkkofacbaa
/- THE CELL 'sum', in the pinned program and in every row, IS THE sha256 OF THE DUMP (.gsa) THAT YtcndnfkkofacbaaProg.lean LOADS. Nothing in Lean hashes anything: it is a label: what it is worth is what the hold of that sum in a sandbox is worth. -/
noncomputable def Try.pinned : Pinned := { name := "ytcndnfkkofacbaa", sum := "fea95fac8ce377b9756b5122a07ffe656ba92e9c6584496e6bd25a02568283ff", checked := Try.checked }
namespace Rows
def none {H : Type} : Left H := { results := [], args := [] }

/-- 'laws.FnExactLineOf': WHATEVER THE INPUT: true; the input reads as it did. -/
def fnExactLineOfSpec : ChangeSpec := { name := "fnExactLineOf", fn := fun _ => fun
  | [d1, d2, d3] => { results := [.lit (.bool true)], args := [d1, d2, d3] }
  | _ => none }
def fnExactLineOfRow : OpenClaim := { program := "ytcndnfkkofacbaa", sum := "fea95fac8ce377b9756b5122a07ffe656ba92e9c6584496e6bd25a02568283ff", func := "loop.example/g01365/laws.FnExactLineOf", spec := "fnExactLineOf", apart := false }
def FnExactLineOfSaid : Prop := fnExactLineOfRow.holds Try.pinned (OpenSpec.ofChange fnExactLineOfSpec)

/-- ITS FALSE NEIGHBOUR: 'it returns false'. Refute it at one input. -/
def fnExactLineOfWrong : ChangeSpec := { name := "fnExactLineOf", fn := fun _ => fun
  | [d1, d2, d3] => { results := [.lit (.bool false)], args := [d1, d2, d3] }
  | _ => none }
def FnExactLineOfWrongFalsely : Prop := fnExactLineOfRow.holds Try.pinned (OpenSpec.ofChange fnExactLineOfWrong)

/-- 'laws.FnExactWaitOf': WHATEVER THE INPUT: true; the input reads as it did. -/
def fnExactWaitOfSpec : ChangeSpec := { name := "fnExactWaitOf", fn := fun _ => fun
  | [d1, d2, d3] => { results := [.lit (.bool true)], args := [d1, d2, d3] }
  | _ => none }
def fnExactWaitOfRow : OpenClaim := { program := "ytcndnfkkofacbaa", sum := "fea95fac8ce377b9756b5122a07ffe656ba92e9c6584496e6bd25a02568283ff", func := "loop.example/g01365/laws.FnExactWaitOf", spec := "fnExactWaitOf", apart := false }
def FnExactWaitOfSaid : Prop := fnExactWaitOfRow.holds Try.pinned (OpenSpec.ofChange fnExactWaitOfSpec)

/-- ITS FALSE NEIGHBOUR: 'it returns false'. Refute it at one input. -/
def fnExactWaitOfWrong : ChangeSpec := { name := "fnExactWaitOf", fn := fun _ => fun
  | [d1, d2, d3] => { results := [.lit (.bool false)], args := [d1, d2, d3] }
  | _ => none }
def FnExactWaitOfWrongFalsely : Prop := fnExactWaitOfRow.holds Try.pinned (OpenSpec.ofChange fnExactWaitOfWrong)

/-- 'laws.FnExactCrowdPotential': WHATEVER THE INPUT: true; the input reads as it did. -/
def fnExactCrowdPotentialSpec : ChangeSpec := { name := "fnExactCrowdPotential", fn := fun _ => fun
  | [d1, d2] => { results := [.lit (.bool true)], args := [d1, d2] }
  | _ => none }
def fnExactCrowdPotentialRow : OpenClaim := { program := "ytcndnfkkofacbaa", sum := "fea95fac8ce377b9756b5122a07ffe656ba92e9c6584496e6bd25a02568283ff", func := "loop.example/g01365/laws.FnExactCrowdPotential", spec := "fnExactCrowdPotential", apart := false }
def FnExactCrowdPotentialSaid : Prop := fnExactCrowdPotentialRow.holds Try.pinned (OpenSpec.ofChange fnExactCrowdPotentialSpec)

/-- ITS FALSE NEIGHBOUR: 'it returns false'. Refute it at one input. -/
def fnExactCrowdPotentialWrong : ChangeSpec := { name := "fnExactCrowdPotential", fn := fun _ => fun
  | [d1, d2] => { results := [.lit (.bool false)], args := [d1, d2] }
  | _ => none }
def FnExactCrowdPotentialWrongFalsely : Prop := fnExactCrowdPotentialRow.holds Try.pinned (OpenSpec.ofChange fnExactCrowdPotentialWrong)

/-- 'laws.FnExactLoadsOf': WHATEVER THE INPUT: true; the input reads as it did. -/
def fnExactLoadsOfSpec : ChangeSpec := { name := "fnExactLoadsOf", fn := fun _ => fun
  | [d1, d2] => { results := [.lit (.bool true)], args := [d1, d2] }
  | _ => none }
def fnExactLoadsOfRow : OpenClaim := { program := "ytcndnfkkofacbaa", sum := "fea95fac8ce377b9756b5122a07ffe656ba92e9c6584496e6bd25a02568283ff", func := "loop.example/g01365/laws.FnExactLoadsOf", spec := "fnExactLoadsOf", apart := false }
def FnExactLoadsOfSaid : Prop := fnExactLoadsOfRow.holds Try.pinned (OpenSpec.ofChange fnExactLoadsOfSpec)

/-- ITS FALSE NEIGHBOUR: 'it returns false'. Refute it at one input. -/
def fnExactLoadsOfWrong : ChangeSpec := { name := "fnExactLoadsOf", fn := fun _ => fun
  | [d1, d2] => { results := [.lit (.bool false)], args := [d1, d2] }
  | _ => none }
def FnExactLoadsOfWrongFalsely : Prop := fnExactLoadsOfRow.holds Try.pinned (OpenSpec.ofChange fnExactLoadsOfWrong)

/-- 'laws.FnExactMoreCosts': WHATEVER THE INPUT: true; the input reads as it did. -/
def fnExactMoreCostsSpec : ChangeSpec := { name := "fnExactMoreCosts", fn := fun _ => fun
  | [d1, d2] => { results := [.lit (.bool true)], args := [d1, d2] }
  | _ => none }
def fnExactMoreCostsRow : OpenClaim := { program := "ytcndnfkkofacbaa", sum := "fea95fac8ce377b9756b5122a07ffe656ba92e9c6584496e6bd25a02568283ff", func := "loop.example/g01365/laws.FnExactMoreCosts", spec := "fnExactMoreCosts", unfollowed := true, recurses := true, apart := false }
def FnExactMoreCostsSaid : Prop := fnExactMoreCostsRow.holds Try.pinned (OpenSpec.ofChange fnExactMoreCostsSpec)

/-- ITS FALSE NEIGHBOUR: 'it returns false'. Refute it at one input. -/
def fnExactMoreCostsWrong : ChangeSpec := { name := "fnExactMoreCosts", fn := fun _ => fun
  | [d1, d2] => { results := [.lit (.bool false)], args := [d1, d2] }
  | _ => none }
def FnExactMoreCostsWrongFalsely : Prop := fnExactMoreCostsRow.holds Try.pinned (OpenSpec.ofChange fnExactMoreCostsWrong)

/-- 'laws.FnExactTollsOf': WHATEVER THE INPUT: true; the input reads as it did. -/
def fnExactTollsOfSpec : ChangeSpec := { name := "fnExactTollsOf", fn := fun _ => fun
  | [d] => { results := [.lit (.bool true)], args := [d] }
  | _ => none }
def fnExactTollsOfRow : OpenClaim := { program := "ytcndnfkkofacbaa", sum := "fea95fac8ce377b9756b5122a07ffe656ba92e9c6584496e6bd25a02568283ff", func := "loop.example/g01365/laws.FnExactTollsOf", spec := "fnExactTollsOf", unfollowed := true, recurses := true, apart := false }
def FnExactTollsOfSaid : Prop := fnExactTollsOfRow.holds Try.pinned (OpenSpec.ofChange fnExactTollsOfSpec)

/-- ITS FALSE NEIGHBOUR: 'it returns false'. Refute it at one input. -/
def fnExactTollsOfWrong : ChangeSpec := { name := "fnExactTollsOf", fn := fun _ => fun
  | [d] => { results := [.lit (.bool false)], args := [d] }
  | _ => none }
def FnExactTollsOfWrongFalsely : Prop := fnExactTollsOfRow.holds Try.pinned (OpenSpec.ofChange fnExactTollsOfWrong)

/-- 'laws.FnExactTotalOf': WHATEVER THE INPUT: true; the input reads as it did. -/
def fnExactTotalOfSpec : ChangeSpec := { name := "fnExactTotalOf", fn := fun _ => fun
  | [d1, d2] => { results := [.lit (.bool true)], args := [d1, d2] }
  | _ => none }
def fnExactTotalOfRow : OpenClaim := { program := "ytcndnfkkofacbaa", sum := "fea95fac8ce377b9756b5122a07ffe656ba92e9c6584496e6bd25a02568283ff", func := "loop.example/g01365/laws.FnExactTotalOf", spec := "fnExactTotalOf", apart := false }
def FnExactTotalOfSaid : Prop := fnExactTotalOfRow.holds Try.pinned (OpenSpec.ofChange fnExactTotalOfSpec)

/-- ITS FALSE NEIGHBOUR: 'it returns false'. Refute it at one input. -/
def fnExactTotalOfWrong : ChangeSpec := { name := "fnExactTotalOf", fn := fun _ => fun
  | [d1, d2] => { results := [.lit (.bool false)], args := [d1, d2] }
  | _ => none }
def FnExactTotalOfWrongFalsely : Prop := fnExactTotalOfRow.holds Try.pinned (OpenSpec.ofChange fnExactTotalOfWrong)

/-- 'laws.FnExactCostsOf': WHATEVER THE INPUT: true; the input reads as it did. -/
def fnExactCostsOfSpec : ChangeSpec := { name := "fnExactCostsOf", fn := fun _ => fun
  | [d1, d2] => { results := [.lit (.bool true)], args := [d1, d2] }
  | _ => none }
def fnExactCostsOfRow : OpenClaim := { program := "ytcndnfkkofacbaa", sum := "fea95fac8ce377b9756b5122a07ffe656ba92e9c6584496e6bd25a02568283ff", func := "loop.example/g01365/laws.FnExactCostsOf", spec := "fnExactCostsOf", apart := false }
def FnExactCostsOfSaid : Prop := fnExactCostsOfRow.holds Try.pinned (OpenSpec.ofChange fnExactCostsOfSpec)

/-- ITS FALSE NEIGHBOUR: 'it returns false'. Refute it at one input. -/
def fnExactCostsOfWrong : ChangeSpec := { name := "fnExactCostsOf", fn := fun _ => fun
  | [d1, d2] => { results := [.lit (.bool false)], args := [d1, d2] }
  | _ => none }
def FnExactCostsOfWrongFalsely : Prop := fnExactCostsOfRow.holds Try.pinned (OpenSpec.ofChange fnExactCostsOfWrong)

/-- 'laws.FnExactArrowsOf': WHATEVER THE INPUT: true; the input reads as it did. -/
def fnExactArrowsOfSpec : ChangeSpec := { name := "fnExactArrowsOf", fn := fun _ => fun
  | [d1, d2] => { results := [.lit (.bool true)], args := [d1, d2] }
  | _ => none }
def fnExactArrowsOfRow : OpenClaim := { program := "ytcndnfkkofacbaa", sum := "fea95fac8ce377b9756b5122a07ffe656ba92e9c6584496e6bd25a02568283ff", func := "loop.example/g01365/laws.FnExactArrowsOf", spec := "fnExactArrowsOf", inPlace := ["math.Float32frombits", "math.Float64frombits", "math.Float64bits"], apart := false }
def FnExactArrowsOfSaid : Prop := fnExactArrowsOfRow.holds Try.pinned (OpenSpec.ofChange fnExactArrowsOfSpec)

/-- ITS FALSE NEIGHBOUR: 'it returns false'. Refute it at one input. -/
def fnExactArrowsOfWrong : ChangeSpec := { name := "fnExactArrowsOf", fn := fun _ => fun
  | [d1, d2] => { results := [.lit (.bool false)], args := [d1, d2] }
  | _ => none }
def FnExactArrowsOfWrongFalsely : Prop := fnExactArrowsOfRow.holds Try.pinned (OpenSpec.ofChange fnExactArrowsOfWrong)

/-- 'laws.FnExactShortestFirst': WHATEVER THE INPUT: true; the input reads as it did. -/
def fnExactShortestFirstSpec : ChangeSpec := { name := "fnExactShortestFirst", fn := fun _ => fun
  | [d] => { results := [.lit (.bool true)], args := [d] }
  | _ => none }
def fnExactShortestFirstRow : OpenClaim := { program := "ytcndnfkkofacbaa", sum := "fea95fac8ce377b9756b5122a07ffe656ba92e9c6584496e6bd25a02568283ff", func := "loop.example/g01365/laws.FnExactShortestFirst", spec := "fnExactShortestFirst", unfollowed := true, recurses := true, apart := false }
def FnExactShortestFirstSaid : Prop := fnExactShortestFirstRow.holds Try.pinned (OpenSpec.ofChange fnExactShortestFirstSpec)

/-- ITS FALSE NEIGHBOUR: 'it returns false'. Refute it at one input. -/
def fnExactShortestFirstWrong : ChangeSpec := { name := "fnExactShortestFirst", fn := fun _ => fun
  | [d] => { results := [.lit (.bool false)], args := [d] }
  | _ => none }
def FnExactShortestFirstWrongFalsely : Prop := fnExactShortestFirstRow.holds Try.pinned (OpenSpec.ofChange fnExactShortestFirstWrong)

/-- 'laws.FnExactLeastTotal': WHATEVER THE INPUT: true; the input reads as it did. -/
def fnExactLeastTotalSpec : ChangeSpec := { name := "fnExactLeastTotal", fn := fun _ => fun
  | [d] => { results := [.lit (.bool true)], args := [d] }
  | _ => none }
def fnExactLeastTotalRow : OpenClaim := { program := "ytcndnfkkofacbaa", sum := "fea95fac8ce377b9756b5122a07ffe656ba92e9c6584496e6bd25a02568283ff", func := "loop.example/g01365/laws.FnExactLeastTotal", spec := "fnExactLeastTotal", unfollowed := true, recurses := true, apart := false }
def FnExactLeastTotalSaid : Prop := fnExactLeastTotalRow.holds Try.pinned (OpenSpec.ofChange fnExactLeastTotalSpec)

/-- ITS FALSE NEIGHBOUR: 'it returns false'. Refute it at one input. -/
def fnExactLeastTotalWrong : ChangeSpec := { name := "fnExactLeastTotal", fn := fun _ => fun
  | [d] => { results := [.lit (.bool false)], args := [d] }
  | _ => none }
def FnExactLeastTotalWrongFalsely : Prop := fnExactLeastTotalRow.holds Try.pinned (OpenSpec.ofChange fnExactLeastTotalWrong)

/-- 'laws.FnExactEvenFlow': WHATEVER THE INPUT: true; the input reads as it did. -/
def fnExactEvenFlowSpec : ChangeSpec := { name := "fnExactEvenFlow", fn := fun _ => fun
  | [d1, d2, d3] => { results := [.lit (.bool true)], args := [d1, d2, d3] }
  | _ => none }
def fnExactEvenFlowRow : OpenClaim := { program := "ytcndnfkkofacbaa", sum := "fea95fac8ce377b9756b5122a07ffe656ba92e9c6584496e6bd25a02568283ff", func := "loop.example/g01365/laws.FnExactEvenFlow", spec := "fnExactEvenFlow", unfollowed := true, recurses := true, apart := false }
def FnExactEvenFlowSaid : Prop := fnExactEvenFlowRow.holds Try.pinned (OpenSpec.ofChange fnExactEvenFlowSpec)

/-- ITS FALSE NEIGHBOUR: 'it returns false'. Refute it at one input. -/
def fnExactEvenFlowWrong : ChangeSpec := { name := "fnExactEvenFlow", fn := fun _ => fun
  | [d1, d2, d3] => { results := [.lit (.bool false)], args := [d1, d2, d3] }
  | _ => none }
def FnExactEvenFlowWrongFalsely : Prop := fnExactEvenFlowRow.holds Try.pinned (OpenSpec.ofChange fnExactEvenFlowWrong)

/-- 'laws.FnExactTolledFlow': WHATEVER THE INPUT: true; the input reads as it did. -/
def fnExactTolledFlowSpec : ChangeSpec := { name := "fnExactTolledFlow", fn := fun _ => fun
  | [d1, d2, d3] => { results := [.lit (.bool true)], args := [d1, d2, d3] }
  | _ => none }
def fnExactTolledFlowRow : OpenClaim := { program := "ytcndnfkkofacbaa", sum := "fea95fac8ce377b9756b5122a07ffe656ba92e9c6584496e6bd25a02568283ff", func := "loop.example/g01365/laws.FnExactTolledFlow", spec := "fnExactTolledFlow", unfollowed := true, recurses := true, apart := false }
def FnExactTolledFlowSaid : Prop := fnExactTolledFlowRow.holds Try.pinned (OpenSpec.ofChange fnExactTolledFlowSpec)

/-- ITS FALSE NEIGHBOUR: 'it returns false'. Refute it at one input. -/
def fnExactTolledFlowWrong : ChangeSpec := { name := "fnExactTolledFlow", fn := fun _ => fun
  | [d1, d2, d3] => { results := [.lit (.bool false)], args := [d1, d2, d3] }
  | _ => none }
def FnExactTolledFlowWrongFalsely : Prop := fnExactTolledFlowRow.holds Try.pinned (OpenSpec.ofChange fnExactTolledFlowWrong)

/-- 'laws.FnExactAgreeOnce': WHATEVER THE INPUT: true; the input reads as it did. -/
def fnExactAgreeOnceSpec : ChangeSpec := { name := "fnExactAgreeOnce", fn := fun _ => fun
  | [d1, d2] => { results := [.lit (.bool true)], args := [d1, d2] }
  | _ => none }
def fnExactAgreeOnceRow : OpenClaim := { program := "ytcndnfkkofacbaa", sum := "fea95fac8ce377b9756b5122a07ffe656ba92e9c6584496e6bd25a02568283ff", func := "loop.example/g01365/laws.FnExactAgreeOnce", spec := "fnExactAgreeOnce", inPlace := ["math.Float32frombits", "math.Float64frombits", "math.Float64bits"], unfollowed := true, recurses := true, apart := false }
def FnExactAgreeOnceSaid : Prop := fnExactAgreeOnceRow.holds Try.pinned (OpenSpec.ofChange fnExactAgreeOnceSpec)

/-- ITS FALSE NEIGHBOUR: 'it returns false'. Refute it at one input. -/
def fnExactAgreeOnceWrong : ChangeSpec := { name := "fnExactAgreeOnce", fn := fun _ => fun
  | [d1, d2] => { results := [.lit (.bool false)], args := [d1, d2] }
  | _ => none }
def FnExactAgreeOnceWrongFalsely : Prop := fnExactAgreeOnceRow.holds Try.pinned (OpenSpec.ofChange fnExactAgreeOnceWrong)

/-- 'laws.FnExactAgreeRounds': WHATEVER THE INPUT: true; the input reads as it did. -/
def fnExactAgreeRoundsSpec : ChangeSpec := { name := "fnExactAgreeRounds", fn := fun _ => fun
  | [d1, d2, d3, d4] => { results := [.lit (.bool true)], args := [d1, d2, d3, d4] }
  | _ => none }
def fnExactAgreeRoundsRow : OpenClaim := { program := "ytcndnfkkofacbaa", sum := "fea95fac8ce377b9756b5122a07ffe656ba92e9c6584496e6bd25a02568283ff", func := "loop.example/g01365/laws.FnExactAgreeRounds", spec := "fnExactAgreeRounds", inPlace := ["math.Float32frombits", "math.Float64frombits", "math.Float64bits"], unfollowed := true, recurses := true, apart := false }
def FnExactAgreeRoundsSaid : Prop := fnExactAgreeRoundsRow.holds Try.pinned (OpenSpec.ofChange fnExactAgreeRoundsSpec)

/-- ITS FALSE NEIGHBOUR: 'it returns false'. Refute it at one input. -/
def fnExactAgreeRoundsWrong : ChangeSpec := { name := "fnExactAgreeRounds", fn := fun _ => fun
  | [d1, d2, d3, d4] => { results := [.lit (.bool false)], args := [d1, d2, d3, d4] }
  | _ => none }
def FnExactAgreeRoundsWrongFalsely : Prop := fnExactAgreeRoundsRow.holds Try.pinned (OpenSpec.ofChange fnExactAgreeRoundsWrong)

/-- 'laws.FnFlowing': WHATEVER THE INPUT: true; the input reads as it did. -/
def fnFlowingSpec : ChangeSpec := { name := "fnFlowing", fn := fun _ => fun
  | [d1, d2] => { results := [.lit (.bool true)], args := [d1, d2] }
  | _ => none }
def fnFlowingRow : OpenClaim := { program := "ytcndnfkkofacbaa", sum := "fea95fac8ce377b9756b5122a07ffe656ba92e9c6584496e6bd25a02568283ff", func := "loop.example/g01365/laws.FnFlowing", spec := "fnFlowing", unfollowed := true, recurses := true, apart := false }
def FnFlowingSaid : Prop := fnFlowingRow.holds Try.pinned (OpenSpec.ofChange fnFlowingSpec)

/-- ITS FALSE NEIGHBOUR: 'it returns false'. Refute it at one input. -/
def fnFlowingWrong : ChangeSpec := { name := "fnFlowing", fn := fun _ => fun
  | [d1, d2] => { results := [.lit (.bool false)], args := [d1, d2] }
  | _ => none }
def FnFlowingWrongFalsely : Prop := fnFlowingRow.holds Try.pinned (OpenSpec.ofChange fnFlowingWrong)

/-- 'laws.FnLinesWait': WHATEVER THE INPUT: true; the input reads as it did. -/
def fnLinesWaitSpec : ChangeSpec := { name := "fnLinesWait", fn := fun _ => fun
  | [d1, d2] => { results := [.lit (.bool true)], args := [d1, d2] }
  | _ => none }
def fnLinesWaitRow : OpenClaim := { program := "ytcndnfkkofacbaa", sum := "fea95fac8ce377b9756b5122a07ffe656ba92e9c6584496e6bd25a02568283ff", func := "loop.example/g01365/laws.FnLinesWait", spec := "fnLinesWait", unfollowed := true, recurses := true, apart := false }
def FnLinesWaitSaid : Prop := fnLinesWaitRow.holds Try.pinned (OpenSpec.ofChange fnLinesWaitSpec)

/-- ITS FALSE NEIGHBOUR: 'it returns false'. Refute it at one input. -/
def fnLinesWaitWrong : ChangeSpec := { name := "fnLinesWait", fn := fun _ => fun
  | [d1, d2] => { results := [.lit (.bool false)], args := [d1, d2] }
  | _ => none }
def FnLinesWaitWrongFalsely : Prop := fnLinesWaitRow.holds Try.pinned (OpenSpec.ofChange fnLinesWaitWrong)

/-- 'laws.FnArrowsAgree': WHATEVER THE INPUT: true; the input reads as it did. -/
def fnArrowsAgreeSpec : ChangeSpec := { name := "fnArrowsAgree", fn := fun _ => fun
  | [d1, d2] => { results := [.lit (.bool true)], args := [d1, d2] }
  | _ => none }
def fnArrowsAgreeRow : OpenClaim := { program := "ytcndnfkkofacbaa", sum := "fea95fac8ce377b9756b5122a07ffe656ba92e9c6584496e6bd25a02568283ff", func := "loop.example/g01365/laws.FnArrowsAgree", spec := "fnArrowsAgree", inPlace := ["math.Float64frombits", "math.Float64bits", "math.sqrt"], unfollowed := true, recurses := true, apart := false }
def FnArrowsAgreeSaid : Prop := fnArrowsAgreeRow.holds Try.pinned (OpenSpec.ofChange fnArrowsAgreeSpec)

/-- ITS FALSE NEIGHBOUR: 'it returns false'. Refute it at one input. -/
def fnArrowsAgreeWrong : ChangeSpec := { name := "fnArrowsAgree", fn := fun _ => fun
  | [d1, d2] => { results := [.lit (.bool false)], args := [d1, d2] }
  | _ => none }
def FnArrowsAgreeWrongFalsely : Prop := fnArrowsAgreeRow.holds Try.pinned (OpenSpec.ofChange fnArrowsAgreeWrong)

/- THE SECOND FORM. 'bulk': how many values and letters a reading holds, each counted each time it is reached (what is shared counts as often as it is met; a slice's spare places count too). A statement '..UptoSaid' is the law's where the arguments, and the package variables that the reading takes, are together of bulk at most 1048576: NARROWER than '..Said'. Prove '..Said' where nothing that the law and all that it calls make is longer than what came in: it says more and counts as full. Else prove '..UptoSaid'. A law counts once. -/
mutual
def uptoBulk {H : Type} : DataW H → Nat
  | .lit (.string bytes) => bytes.length + 1
  | .lit _ => 1
  | .nil => 1
  | .ptr d => uptoBulk d + 1
  | .slice elems spare => uptoBulkAll elems + uptoBulkAll spare + 1
  | .agg parts => uptoBulkAll parts + 1
  | .iface _ d => uptoBulk d + 1
  | .map entries => uptoBulkEntries entries + 1
  | .held _ => 1
def uptoBulkAll {H : Type} : List (DataW H) → Nat
  | [] => 0
  | d :: r => uptoBulk d + uptoBulkAll r
def uptoBulkEntries {H : Type} : List (Lit × DataW H) → Nat
  | [] => 0
  | x :: r => uptoBulkEntry x + uptoBulkEntries r
def uptoBulkEntry {H : Type} : Lit × DataW H → Nat
  | (.string bytes, d) => bytes.length + uptoBulk d + 1
  | (_, d) => uptoBulk d + 1
 end
def uptoSmall : (H : Type) → List (DataW H) → Bool := fun _ ds => decide (uptoBulkAll ds ≤ 1048576)
def OpenSpec.upto (s : _root_.Go.ChangeSpec) : _root_.Go.OpenSpec := { _root_.Go.OpenSpec.ofChange s with cond := some uptoSmall }

/-- 'laws.FnExactLineOf', WHERE WHAT IT READS IS OF BULK AT MOST 1048576: true; the input reads as it did. -/
def fnExactLineOfUptoRow : OpenClaim := { program := "ytcndnfkkofacbaa", sum := "fea95fac8ce377b9756b5122a07ffe656ba92e9c6584496e6bd25a02568283ff", func := "loop.example/g01365/laws.FnExactLineOf", spec := "fnExactLineOf", apart := false, narrowed := true }
def FnExactLineOfUptoSaid : Prop := fnExactLineOfUptoRow.holds Try.pinned (OpenSpec.upto fnExactLineOfSpec)

/-- 'laws.FnExactWaitOf', WHERE WHAT IT READS IS OF BULK AT MOST 1048576: true; the input reads as it did. -/
def fnExactWaitOfUptoRow : OpenClaim := { program := "ytcndnfkkofacbaa", sum := "fea95fac8ce377b9756b5122a07ffe656ba92e9c6584496e6bd25a02568283ff", func := "loop.example/g01365/laws.FnExactWaitOf", spec := "fnExactWaitOf", apart := false, narrowed := true }
def FnExactWaitOfUptoSaid : Prop := fnExactWaitOfUptoRow.holds Try.pinned (OpenSpec.upto fnExactWaitOfSpec)

/-- 'laws.FnExactCrowdPotential', WHERE WHAT IT READS IS OF BULK AT MOST 1048576: true; the input reads as it did. -/
def fnExactCrowdPotentialUptoRow : OpenClaim := { program := "ytcndnfkkofacbaa", sum := "fea95fac8ce377b9756b5122a07ffe656ba92e9c6584496e6bd25a02568283ff", func := "loop.example/g01365/laws.FnExactCrowdPotential", spec := "fnExactCrowdPotential", apart := false, narrowed := true }
def FnExactCrowdPotentialUptoSaid : Prop := fnExactCrowdPotentialUptoRow.holds Try.pinned (OpenSpec.upto fnExactCrowdPotentialSpec)

/-- 'laws.FnExactLoadsOf', WHERE WHAT IT READS IS OF BULK AT MOST 1048576: true; the input reads as it did. -/
def fnExactLoadsOfUptoRow : OpenClaim := { program := "ytcndnfkkofacbaa", sum := "fea95fac8ce377b9756b5122a07ffe656ba92e9c6584496e6bd25a02568283ff", func := "loop.example/g01365/laws.FnExactLoadsOf", spec := "fnExactLoadsOf", apart := false, narrowed := true }
def FnExactLoadsOfUptoSaid : Prop := fnExactLoadsOfUptoRow.holds Try.pinned (OpenSpec.upto fnExactLoadsOfSpec)

/-- 'laws.FnExactMoreCosts', WHERE WHAT IT READS IS OF BULK AT MOST 1048576: true; the input reads as it did. -/
def fnExactMoreCostsUptoRow : OpenClaim := { program := "ytcndnfkkofacbaa", sum := "fea95fac8ce377b9756b5122a07ffe656ba92e9c6584496e6bd25a02568283ff", func := "loop.example/g01365/laws.FnExactMoreCosts", spec := "fnExactMoreCosts", unfollowed := true, recurses := true, apart := false, narrowed := true }
def FnExactMoreCostsUptoSaid : Prop := fnExactMoreCostsUptoRow.holds Try.pinned (OpenSpec.upto fnExactMoreCostsSpec)

/-- 'laws.FnExactTollsOf', WHERE WHAT IT READS IS OF BULK AT MOST 1048576: true; the input reads as it did. -/
def fnExactTollsOfUptoRow : OpenClaim := { program := "ytcndnfkkofacbaa", sum := "fea95fac8ce377b9756b5122a07ffe656ba92e9c6584496e6bd25a02568283ff", func := "loop.example/g01365/laws.FnExactTollsOf", spec := "fnExactTollsOf", unfollowed := true, recurses := true, apart := false, narrowed := true }
def FnExactTollsOfUptoSaid : Prop := fnExactTollsOfUptoRow.holds Try.pinned (OpenSpec.upto fnExactTollsOfSpec)

/-- 'laws.FnExactTotalOf', WHERE WHAT IT READS IS OF BULK AT MOST 1048576: true; the input reads as it did. -/
def fnExactTotalOfUptoRow : OpenClaim := { program := "ytcndnfkkofacbaa", sum := "fea95fac8ce377b9756b5122a07ffe656ba92e9c6584496e6bd25a02568283ff", func := "loop.example/g01365/laws.FnExactTotalOf", spec := "fnExactTotalOf", apart := false, narrowed := true }
def FnExactTotalOfUptoSaid : Prop := fnExactTotalOfUptoRow.holds Try.pinned (OpenSpec.upto fnExactTotalOfSpec)

/-- 'laws.FnExactCostsOf', WHERE WHAT IT READS IS OF BULK AT MOST 1048576: true; the input reads as it did. -/
def fnExactCostsOfUptoRow : OpenClaim := { program := "ytcndnfkkofacbaa", sum := "fea95fac8ce377b9756b5122a07ffe656ba92e9c6584496e6bd25a02568283ff", func := "loop.example/g01365/laws.FnExactCostsOf", spec := "fnExactCostsOf", apart := false, narrowed := true }
def FnExactCostsOfUptoSaid : Prop := fnExactCostsOfUptoRow.holds Try.pinned (OpenSpec.upto fnExactCostsOfSpec)

/-- 'laws.FnExactArrowsOf', WHERE WHAT IT READS IS OF BULK AT MOST 1048576: true; the input reads as it did. -/
def fnExactArrowsOfUptoRow : OpenClaim := { program := "ytcndnfkkofacbaa", sum := "fea95fac8ce377b9756b5122a07ffe656ba92e9c6584496e6bd25a02568283ff", func := "loop.example/g01365/laws.FnExactArrowsOf", spec := "fnExactArrowsOf", inPlace := ["math.Float32frombits", "math.Float64frombits", "math.Float64bits"], apart := false, narrowed := true }
def FnExactArrowsOfUptoSaid : Prop := fnExactArrowsOfUptoRow.holds Try.pinned (OpenSpec.upto fnExactArrowsOfSpec)

/-- 'laws.FnExactShortestFirst', WHERE WHAT IT READS IS OF BULK AT MOST 1048576: true; the input reads as it did. -/
def fnExactShortestFirstUptoRow : OpenClaim := { program := "ytcndnfkkofacbaa", sum := "fea95fac8ce377b9756b5122a07ffe656ba92e9c6584496e6bd25a02568283ff", func := "loop.example/g01365/laws.FnExactShortestFirst", spec := "fnExactShortestFirst", unfollowed := true, recurses := true, apart := false, narrowed := true }
def FnExactShortestFirstUptoSaid : Prop := fnExactShortestFirstUptoRow.holds Try.pinned (OpenSpec.upto fnExactShortestFirstSpec)

/-- 'laws.FnExactLeastTotal', WHERE WHAT IT READS IS OF BULK AT MOST 1048576: true; the input reads as it did. -/
def fnExactLeastTotalUptoRow : OpenClaim := { program := "ytcndnfkkofacbaa", sum := "fea95fac8ce377b9756b5122a07ffe656ba92e9c6584496e6bd25a02568283ff", func := "loop.example/g01365/laws.FnExactLeastTotal", spec := "fnExactLeastTotal", unfollowed := true, recurses := true, apart := false, narrowed := true }
def FnExactLeastTotalUptoSaid : Prop := fnExactLeastTotalUptoRow.holds Try.pinned (OpenSpec.upto fnExactLeastTotalSpec)

/-- 'laws.FnExactEvenFlow', WHERE WHAT IT READS IS OF BULK AT MOST 1048576: true; the input reads as it did. -/
def fnExactEvenFlowUptoRow : OpenClaim := { program := "ytcndnfkkofacbaa", sum := "fea95fac8ce377b9756b5122a07ffe656ba92e9c6584496e6bd25a02568283ff", func := "loop.example/g01365/laws.FnExactEvenFlow", spec := "fnExactEvenFlow", unfollowed := true, recurses := true, apart := false, narrowed := true }
def FnExactEvenFlowUptoSaid : Prop := fnExactEvenFlowUptoRow.holds Try.pinned (OpenSpec.upto fnExactEvenFlowSpec)

/-- 'laws.FnExactTolledFlow', WHERE WHAT IT READS IS OF BULK AT MOST 1048576: true; the input reads as it did. -/
def fnExactTolledFlowUptoRow : OpenClaim := { program := "ytcndnfkkofacbaa", sum := "fea95fac8ce377b9756b5122a07ffe656ba92e9c6584496e6bd25a02568283ff", func := "loop.example/g01365/laws.FnExactTolledFlow", spec := "fnExactTolledFlow", unfollowed := true, recurses := true, apart := false, narrowed := true }
def FnExactTolledFlowUptoSaid : Prop := fnExactTolledFlowUptoRow.holds Try.pinned (OpenSpec.upto fnExactTolledFlowSpec)

/-- 'laws.FnExactAgreeOnce', WHERE WHAT IT READS IS OF BULK AT MOST 1048576: true; the input reads as it did. -/
def fnExactAgreeOnceUptoRow : OpenClaim := { program := "ytcndnfkkofacbaa", sum := "fea95fac8ce377b9756b5122a07ffe656ba92e9c6584496e6bd25a02568283ff", func := "loop.example/g01365/laws.FnExactAgreeOnce", spec := "fnExactAgreeOnce", inPlace := ["math.Float32frombits", "math.Float64frombits", "math.Float64bits"], unfollowed := true, recurses := true, apart := false, narrowed := true }
def FnExactAgreeOnceUptoSaid : Prop := fnExactAgreeOnceUptoRow.holds Try.pinned (OpenSpec.upto fnExactAgreeOnceSpec)

/-- 'laws.FnExactAgreeRounds', WHERE WHAT IT READS IS OF BULK AT MOST 1048576: true; the input reads as it did. -/
def fnExactAgreeRoundsUptoRow : OpenClaim := { program := "ytcndnfkkofacbaa", sum := "fea95fac8ce377b9756b5122a07ffe656ba92e9c6584496e6bd25a02568283ff", func := "loop.example/g01365/laws.FnExactAgreeRounds", spec := "fnExactAgreeRounds", inPlace := ["math.Float32frombits", "math.Float64frombits", "math.Float64bits"], unfollowed := true, recurses := true, apart := false, narrowed := true }
def FnExactAgreeRoundsUptoSaid : Prop := fnExactAgreeRoundsUptoRow.holds Try.pinned (OpenSpec.upto fnExactAgreeRoundsSpec)

/-- 'laws.FnFlowing', WHERE WHAT IT READS IS OF BULK AT MOST 1048576: true; the input reads as it did. -/
def fnFlowingUptoRow : OpenClaim := { program := "ytcndnfkkofacbaa", sum := "fea95fac8ce377b9756b5122a07ffe656ba92e9c6584496e6bd25a02568283ff", func := "loop.example/g01365/laws.FnFlowing", spec := "fnFlowing", unfollowed := true, recurses := true, apart := false, narrowed := true }
def FnFlowingUptoSaid : Prop := fnFlowingUptoRow.holds Try.pinned (OpenSpec.upto fnFlowingSpec)

/-- 'laws.FnLinesWait', WHERE WHAT IT READS IS OF BULK AT MOST 1048576: true; the input reads as it did. -/
def fnLinesWaitUptoRow : OpenClaim := { program := "ytcndnfkkofacbaa", sum := "fea95fac8ce377b9756b5122a07ffe656ba92e9c6584496e6bd25a02568283ff", func := "loop.example/g01365/laws.FnLinesWait", spec := "fnLinesWait", unfollowed := true, recurses := true, apart := false, narrowed := true }
def FnLinesWaitUptoSaid : Prop := fnLinesWaitUptoRow.holds Try.pinned (OpenSpec.upto fnLinesWaitSpec)

/-- 'laws.FnArrowsAgree', WHERE WHAT IT READS IS OF BULK AT MOST 1048576: true; the input reads as it did. -/
def fnArrowsAgreeUptoRow : OpenClaim := { program := "ytcndnfkkofacbaa", sum := "fea95fac8ce377b9756b5122a07ffe656ba92e9c6584496e6bd25a02568283ff", func := "loop.example/g01365/laws.FnArrowsAgree", spec := "fnArrowsAgree", inPlace := ["math.Float64frombits", "math.Float64bits", "math.sqrt"], unfollowed := true, recurses := true, apart := false, narrowed := true }
def FnArrowsAgreeUptoSaid : Prop := fnArrowsAgreeUptoRow.holds Try.pinned (OpenSpec.upto fnArrowsAgreeSpec)

end Rows
end Go.Proofs.Ytcndnfkkofacbaa
