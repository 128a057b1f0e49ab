/-
  No cell of these rows narrows 'for every input' (looked for: loops, veiled, ifaces, maps, wideKeys, modest, calm, conditions, laid).
  DERIVED. THE GIVEN ROWS OF THIS SEAT. 11 by the template 'for every input the law returns true; each argument reads behind the call as it read before'; 0 by the template 'total and deterministic' (their statements: YtmaegbgkpjbohaaTotals.lean).
  GIVEN WITH THE SEED: the statements are not yours to turn. If you find one false, say at which input.
  Laid BY PROGRAM, IN A SANDBOX (cutbox-rows.mjs): the forced cells as the released guide's own fill.sh prints them over the translation 041c9a089830dd9f… (all of the seat's roots in one cut). By AI agents, Wed Nov 11 2026. No macro, syntax, notation, axiom, sorry.
-/
import Derived.Test.YtmaegbgkpjbohaaChecked
import GoSem.Claim
import GoSem.ClaimJoined
import GoSem.ClaimMapViews
import Derived.JoinedTies
import Derived.KernelRfl
namespace Go.Proofs.Ytmaegbgkpjbohaa
/- THE CELL 'sum', in the pinned program and in every row, IS THE sha256 OF THE DUMP (.gsa) THAT YtmaegbgkpjbohaaProg.lean LOADS. Nothing in Lean hashes anything: it is a label: what it is worth is what the hold of that sum in a sandbox is worth. -/
noncomputable def Try.pinned : Pinned := { name := "ytmaegbgkpjbohaa", sum := "041c9a089830dd9f63b21ba428939e2fef64b6eb9e5d3206cc3f3319a1bea063", checked := Try.checked }
namespace Rows
def none {H : Type} : Left H := { results := [], args := [] }

/-- 'laws.FnExactIsBargain': WHATEVER THE INPUT: true; the input reads as it did. -/
def fnExactIsBargainSpec : ChangeSpec := { name := "fnExactIsBargain", fn := fun _ => fun
  | [d] => { results := [.lit (.bool true)], args := [d] }
  | _ => none }
def fnExactIsBargainRow : OpenClaim := { program := "ytmaegbgkpjbohaa", sum := "041c9a089830dd9f63b21ba428939e2fef64b6eb9e5d3206cc3f3319a1bea063", func := "loop.example/g01365/laws.FnExactIsBargain", spec := "fnExactIsBargain", apart := false }
def FnExactIsBargainSaid : Prop := fnExactIsBargainRow.holds Try.pinned (OpenSpec.ofChange fnExactIsBargainSpec)

/-- ITS FALSE NEIGHBOUR: 'it returns false'. Refute it at one input. -/
def fnExactIsBargainWrong : ChangeSpec := { name := "fnExactIsBargain", fn := fun _ => fun
  | [d] => { results := [.lit (.bool false)], args := [d] }
  | _ => none }
def FnExactIsBargainWrongFalsely : Prop := fnExactIsBargainRow.holds Try.pinned (OpenSpec.ofChange fnExactIsBargainWrong)

/-- 'laws.FnExactAreClaims': WHATEVER THE INPUT: true; the input reads as it did. -/
def fnExactAreClaimsSpec : ChangeSpec := { name := "fnExactAreClaims", fn := fun _ => fun
  | [d1, d2] => { results := [.lit (.bool true)], args := [d1, d2] }
  | _ => none }
def fnExactAreClaimsRow : OpenClaim := { program := "ytmaegbgkpjbohaa", sum := "041c9a089830dd9f63b21ba428939e2fef64b6eb9e5d3206cc3f3319a1bea063", func := "loop.example/g01365/laws.FnExactAreClaims", spec := "fnExactAreClaims", apart := false }
def FnExactAreClaimsSaid : Prop := fnExactAreClaimsRow.holds Try.pinned (OpenSpec.ofChange fnExactAreClaimsSpec)

/-- ITS FALSE NEIGHBOUR: 'it returns false'. Refute it at one input. -/
def fnExactAreClaimsWrong : ChangeSpec := { name := "fnExactAreClaims", fn := fun _ => fun
  | [d1, d2] => { results := [.lit (.bool false)], args := [d1, d2] }
  | _ => none }
def FnExactAreClaimsWrongFalsely : Prop := fnExactAreClaimsRow.holds Try.pinned (OpenSpec.ofChange fnExactAreClaimsWrong)

/-- 'laws.FnExactSameCrowd': WHATEVER THE INPUT: true; the input reads as it did. -/
def fnExactSameCrowdSpec : ChangeSpec := { name := "fnExactSameCrowd", fn := fun _ => fun
  | [d1, d2] => { results := [.lit (.bool true)], args := [d1, d2] }
  | _ => none }
def fnExactSameCrowdRow : OpenClaim := { program := "ytmaegbgkpjbohaa", sum := "041c9a089830dd9f63b21ba428939e2fef64b6eb9e5d3206cc3f3319a1bea063", func := "loop.example/g01365/laws.FnExactSameCrowd", spec := "fnExactSameCrowd", apart := false }
def FnExactSameCrowdSaid : Prop := fnExactSameCrowdRow.holds Try.pinned (OpenSpec.ofChange fnExactSameCrowdSpec)

/-- ITS FALSE NEIGHBOUR: 'it returns false'. Refute it at one input. -/
def fnExactSameCrowdWrong : ChangeSpec := { name := "fnExactSameCrowd", fn := fun _ => fun
  | [d1, d2] => { results := [.lit (.bool false)], args := [d1, d2] }
  | _ => none }
def FnExactSameCrowdWrongFalsely : Prop := fnExactSameCrowdRow.holds Try.pinned (OpenSpec.ofChange fnExactSameCrowdWrong)

/-- 'laws.FnExactKeepsQuota': WHATEVER THE INPUT: true; the input reads as it did. -/
def fnExactKeepsQuotaSpec : ChangeSpec := { name := "fnExactKeepsQuota", fn := fun _ => fun
  | [d1, d2] => { results := [.lit (.bool true)], args := [d1, d2] }
  | _ => none }
def fnExactKeepsQuotaRow : OpenClaim := { program := "ytmaegbgkpjbohaa", sum := "041c9a089830dd9f63b21ba428939e2fef64b6eb9e5d3206cc3f3319a1bea063", func := "loop.example/g01365/laws.FnExactKeepsQuota", spec := "fnExactKeepsQuota", apart := false }
def FnExactKeepsQuotaSaid : Prop := fnExactKeepsQuotaRow.holds Try.pinned (OpenSpec.ofChange fnExactKeepsQuotaSpec)

/-- ITS FALSE NEIGHBOUR: 'it returns false'. Refute it at one input. -/
def fnExactKeepsQuotaWrong : ChangeSpec := { name := "fnExactKeepsQuota", fn := fun _ => fun
  | [d1, d2] => { results := [.lit (.bool false)], args := [d1, d2] }
  | _ => none }
def FnExactKeepsQuotaWrongFalsely : Prop := fnExactKeepsQuotaRow.holds Try.pinned (OpenSpec.ofChange fnExactKeepsQuotaWrong)

/-- 'laws.FnExactValidCrowd': WHATEVER THE INPUT: true; the input reads as it did. -/
def fnExactValidCrowdSpec : ChangeSpec := { name := "fnExactValidCrowd", fn := fun _ => fun
  | [d] => { results := [.lit (.bool true)], args := [d] }
  | _ => none }
def fnExactValidCrowdRow : OpenClaim := { program := "ytmaegbgkpjbohaa", sum := "041c9a089830dd9f63b21ba428939e2fef64b6eb9e5d3206cc3f3319a1bea063", func := "loop.example/g01365/laws.FnExactValidCrowd", spec := "fnExactValidCrowd", apart := false }
def FnExactValidCrowdSaid : Prop := fnExactValidCrowdRow.holds Try.pinned (OpenSpec.ofChange fnExactValidCrowdSpec)

/-- ITS FALSE NEIGHBOUR: 'it returns false'. Refute it at one input. -/
def fnExactValidCrowdWrong : ChangeSpec := { name := "fnExactValidCrowd", fn := fun _ => fun
  | [d] => { results := [.lit (.bool false)], args := [d] }
  | _ => none }
def FnExactValidCrowdWrongFalsely : Prop := fnExactValidCrowdRow.holds Try.pinned (OpenSpec.ofChange fnExactValidCrowdWrong)

/-- 'laws.FnExactSureParts': WHATEVER THE INPUT: true; the input reads as it did. -/
def fnExactSurePartsSpec : ChangeSpec := { name := "fnExactSureParts", fn := fun _ => fun
  | [d1, d2] => { results := [.lit (.bool true)], args := [d1, d2] }
  | _ => none }
def fnExactSurePartsRow : OpenClaim := { program := "ytmaegbgkpjbohaa", sum := "041c9a089830dd9f63b21ba428939e2fef64b6eb9e5d3206cc3f3319a1bea063", func := "loop.example/g01365/laws.FnExactSureParts", spec := "fnExactSureParts", apart := false }
def FnExactSurePartsSaid : Prop := fnExactSurePartsRow.holds Try.pinned (OpenSpec.ofChange fnExactSurePartsSpec)

/-- ITS FALSE NEIGHBOUR: 'it returns false'. Refute it at one input. -/
def fnExactSurePartsWrong : ChangeSpec := { name := "fnExactSureParts", fn := fun _ => fun
  | [d1, d2] => { results := [.lit (.bool false)], args := [d1, d2] }
  | _ => none }
def FnExactSurePartsWrongFalsely : Prop := fnExactSurePartsRow.holds Try.pinned (OpenSpec.ofChange fnExactSurePartsWrong)

/-- 'laws.FnExactFlowCost': WHATEVER THE INPUT: true; the input reads as it did. -/
def fnExactFlowCostSpec : ChangeSpec := { name := "fnExactFlowCost", fn := fun _ => fun
  | [d1, d2, d3] => { results := [.lit (.bool true)], args := [d1, d2, d3] }
  | _ => none }
def fnExactFlowCostRow : OpenClaim := { program := "ytmaegbgkpjbohaa", sum := "041c9a089830dd9f63b21ba428939e2fef64b6eb9e5d3206cc3f3319a1bea063", func := "loop.example/g01365/laws.FnExactFlowCost", spec := "fnExactFlowCost", unfollowed := true, recurses := true, apart := false }
def FnExactFlowCostSaid : Prop := fnExactFlowCostRow.holds Try.pinned (OpenSpec.ofChange fnExactFlowCostSpec)

/-- ITS FALSE NEIGHBOUR: 'it returns false'. Refute it at one input. -/
def fnExactFlowCostWrong : ChangeSpec := { name := "fnExactFlowCost", fn := fun _ => fun
  | [d1, d2, d3] => { results := [.lit (.bool false)], args := [d1, d2, d3] }
  | _ => none }
def FnExactFlowCostWrongFalsely : Prop := fnExactFlowCostRow.holds Try.pinned (OpenSpec.ofChange fnExactFlowCostWrong)

/-- 'laws.FnExactLeastPoint': WHATEVER THE INPUT: true; the input reads as it did. -/
def fnExactLeastPointSpec : ChangeSpec := { name := "fnExactLeastPoint", fn := fun _ => fun
  | [d1, d2, d3] => { results := [.lit (.bool true)], args := [d1, d2, d3] }
  | _ => none }
def fnExactLeastPointRow : OpenClaim := { program := "ytmaegbgkpjbohaa", sum := "041c9a089830dd9f63b21ba428939e2fef64b6eb9e5d3206cc3f3319a1bea063", func := "loop.example/g01365/laws.FnExactLeastPoint", spec := "fnExactLeastPoint", unfollowed := true, recurses := true, apart := false }
def FnExactLeastPointSaid : Prop := fnExactLeastPointRow.holds Try.pinned (OpenSpec.ofChange fnExactLeastPointSpec)

/-- ITS FALSE NEIGHBOUR: 'it returns false'. Refute it at one input. -/
def fnExactLeastPointWrong : ChangeSpec := { name := "fnExactLeastPoint", fn := fun _ => fun
  | [d1, d2, d3] => { results := [.lit (.bool false)], args := [d1, d2, d3] }
  | _ => none }
def FnExactLeastPointWrongFalsely : Prop := fnExactLeastPointRow.holds Try.pinned (OpenSpec.ofChange fnExactLeastPointWrong)

/-- 'laws.FnExactProductPoint': WHATEVER THE INPUT: true; the input reads as it did. -/
def fnExactProductPointSpec : ChangeSpec := { name := "fnExactProductPoint", fn := fun _ => fun
  | [d1, d2, d3] => { results := [.lit (.bool true)], args := [d1, d2, d3] }
  | _ => none }
def fnExactProductPointRow : OpenClaim := { program := "ytmaegbgkpjbohaa", sum := "041c9a089830dd9f63b21ba428939e2fef64b6eb9e5d3206cc3f3319a1bea063", func := "loop.example/g01365/laws.FnExactProductPoint", spec := "fnExactProductPoint", unfollowed := true, recurses := true, apart := false }
def FnExactProductPointSaid : Prop := fnExactProductPointRow.holds Try.pinned (OpenSpec.ofChange fnExactProductPointSpec)

/-- ITS FALSE NEIGHBOUR: 'it returns false'. Refute it at one input. -/
def fnExactProductPointWrong : ChangeSpec := { name := "fnExactProductPoint", fn := fun _ => fun
  | [d1, d2, d3] => { results := [.lit (.bool false)], args := [d1, d2, d3] }
  | _ => none }
def FnExactProductPointWrongFalsely : Prop := fnExactProductPointRow.holds Try.pinned (OpenSpec.ofChange fnExactProductPointWrong)

/-- 'laws.FnExactAreBallots': WHATEVER THE INPUT: true; the input reads as it did. -/
def fnExactAreBallotsSpec : ChangeSpec := { name := "fnExactAreBallots", fn := fun _ => fun
  | [d] => { results := [.lit (.bool true)], args := [d] }
  | _ => none }
def fnExactAreBallotsRow : OpenClaim := { program := "ytmaegbgkpjbohaa", sum := "041c9a089830dd9f63b21ba428939e2fef64b6eb9e5d3206cc3f3319a1bea063", func := "loop.example/g01365/laws.FnExactAreBallots", spec := "fnExactAreBallots", unfollowed := true, recurses := true, apart := false }
def FnExactAreBallotsSaid : Prop := fnExactAreBallotsRow.holds Try.pinned (OpenSpec.ofChange fnExactAreBallotsSpec)

/-- ITS FALSE NEIGHBOUR: 'it returns false'. Refute it at one input. -/
def fnExactAreBallotsWrong : ChangeSpec := { name := "fnExactAreBallots", fn := fun _ => fun
  | [d] => { results := [.lit (.bool false)], args := [d] }
  | _ => none }
def FnExactAreBallotsWrongFalsely : Prop := fnExactAreBallotsRow.holds Try.pinned (OpenSpec.ofChange fnExactAreBallotsWrong)

/-- 'laws.FnExactEvenParts': WHATEVER THE INPUT: true; the input reads as it did. -/
def fnExactEvenPartsSpec : ChangeSpec := { name := "fnExactEvenParts", fn := fun _ => fun
  | [d1, d2] => { results := [.lit (.bool true)], args := [d1, d2] }
  | _ => none }
def fnExactEvenPartsRow : OpenClaim := { program := "ytmaegbgkpjbohaa", sum := "041c9a089830dd9f63b21ba428939e2fef64b6eb9e5d3206cc3f3319a1bea063", func := "loop.example/g01365/laws.FnExactEvenParts", spec := "fnExactEvenParts", apart := false }
def FnExactEvenPartsSaid : Prop := fnExactEvenPartsRow.holds Try.pinned (OpenSpec.ofChange fnExactEvenPartsSpec)

/-- ITS FALSE NEIGHBOUR: 'it returns false'. Refute it at one input. -/
def fnExactEvenPartsWrong : ChangeSpec := { name := "fnExactEvenParts", fn := fun _ => fun
  | [d1, d2] => { results := [.lit (.bool false)], args := [d1, d2] }
  | _ => none }
def FnExactEvenPartsWrongFalsely : Prop := fnExactEvenPartsRow.holds Try.pinned (OpenSpec.ofChange fnExactEvenPartsWrong)

/- THE SECOND FORM. 'bulk': how many values and letters a reading holds, each counted each time it is reached (what is shared counts as often as it is met; a slice's spare places count too). A statement '..UptoSaid' is the law's where the arguments, and the package variables that the reading takes, are together of bulk at most 1048576: NARROWER than '..Said'. Prove '..Said' where nothing that the law and all that it calls make is longer than what came in: it says more and counts as full. Else prove '..UptoSaid'. A law counts once. -/
mutual
def uptoBulk {H : Type} : DataW H → Nat
  | .lit (.string bytes) => bytes.length + 1
  | .lit _ => 1
  | .nil => 1
  | .ptr d => uptoBulk d + 1
  | .slice elems spare => uptoBulkAll elems + uptoBulkAll spare + 1
  | .agg parts => uptoBulkAll parts + 1
  | .iface _ d => uptoBulk d + 1
  | .map entries => uptoBulkEntries entries + 1
  | .held _ => 1
def uptoBulkAll {H : Type} : List (DataW H) → Nat
  | [] => 0
  | d :: r => uptoBulk d + uptoBulkAll r
def uptoBulkEntries {H : Type} : List (Lit × DataW H) → Nat
  | [] => 0
  | x :: r => uptoBulkEntry x + uptoBulkEntries r
def uptoBulkEntry {H : Type} : Lit × DataW H → Nat
  | (.string bytes, d) => bytes.length + uptoBulk d + 1
  | (_, d) => uptoBulk d + 1
 end
def uptoSmall : (H : Type) → List (DataW H) → Bool := fun _ ds => decide (uptoBulkAll ds ≤ 1048576)
def OpenSpec.upto (s : _root_.Go.ChangeSpec) : _root_.Go.OpenSpec := { _root_.Go.OpenSpec.ofChange s with cond := some uptoSmall }

/-- 'laws.FnExactIsBargain', WHERE WHAT IT READS IS OF BULK AT MOST 1048576: true; the input reads as it did. -/
def fnExactIsBargainUptoRow : OpenClaim := { program := "ytmaegbgkpjbohaa", sum := "041c9a089830dd9f63b21ba428939e2fef64b6eb9e5d3206cc3f3319a1bea063", func := "loop.example/g01365/laws.FnExactIsBargain", spec := "fnExactIsBargain", apart := false, narrowed := true }
def FnExactIsBargainUptoSaid : Prop := fnExactIsBargainUptoRow.holds Try.pinned (OpenSpec.upto fnExactIsBargainSpec)

/-- 'laws.FnExactAreClaims', WHERE WHAT IT READS IS OF BULK AT MOST 1048576: true; the input reads as it did. -/
def fnExactAreClaimsUptoRow : OpenClaim := { program := "ytmaegbgkpjbohaa", sum := "041c9a089830dd9f63b21ba428939e2fef64b6eb9e5d3206cc3f3319a1bea063", func := "loop.example/g01365/laws.FnExactAreClaims", spec := "fnExactAreClaims", apart := false, narrowed := true }
def FnExactAreClaimsUptoSaid : Prop := fnExactAreClaimsUptoRow.holds Try.pinned (OpenSpec.upto fnExactAreClaimsSpec)

/-- 'laws.FnExactSameCrowd', WHERE WHAT IT READS IS OF BULK AT MOST 1048576: true; the input reads as it did. -/
def fnExactSameCrowdUptoRow : OpenClaim := { program := "ytmaegbgkpjbohaa", sum := "041c9a089830dd9f63b21ba428939e2fef64b6eb9e5d3206cc3f3319a1bea063", func := "loop.example/g01365/laws.FnExactSameCrowd", spec := "fnExactSameCrowd", apart := false, narrowed := true }
def FnExactSameCrowdUptoSaid : Prop := fnExactSameCrowdUptoRow.holds Try.pinned (OpenSpec.upto fnExactSameCrowdSpec)

/-- 'laws.FnExactKeepsQuota', WHERE WHAT IT READS IS OF BULK AT MOST 1048576: true; the input reads as it did. -/
def fnExactKeepsQuotaUptoRow : OpenClaim := { program := "ytmaegbgkpjbohaa", sum := "041c9a089830dd9f63b21ba428939e2fef64b6eb9e5d3206cc3f3319a1bea063", func := "loop.example/g01365/laws.FnExactKeepsQuota", spec := "fnExactKeepsQuota", apart := false, narrowed := true }
def FnExactKeepsQuotaUptoSaid : Prop := fnExactKeepsQuotaUptoRow.holds Try.pinned (OpenSpec.upto fnExactKeepsQuotaSpec)

/-- 'laws.FnExactValidCrowd', WHERE WHAT IT READS IS OF BULK AT MOST 1048576: true; the input reads as it did. -/
def fnExactValidCrowdUptoRow : OpenClaim := { program := "ytmaegbgkpjbohaa", sum := "041c9a089830dd9f63b21ba428939e2fef64b6eb9e5d3206cc3f3319a1bea063", func := "loop.example/g01365/laws.FnExactValidCrowd", spec := "fnExactValidCrowd", apart := false, narrowed := true }
def FnExactValidCrowdUptoSaid : Prop := fnExactValidCrowdUptoRow.holds Try.pinned (OpenSpec.upto fnExactValidCrowdSpec)

/-- 'laws.FnExactSureParts', WHERE WHAT IT READS IS OF BULK AT MOST 1048576: true; the input reads as it did. -/
def fnExactSurePartsUptoRow : OpenClaim := { program := "ytmaegbgkpjbohaa", sum := "041c9a089830dd9f63b21ba428939e2fef64b6eb9e5d3206cc3f3319a1bea063", func := "loop.example/g01365/laws.FnExactSureParts", spec := "fnExactSureParts", apart := false, narrowed := true }
def FnExactSurePartsUptoSaid : Prop := fnExactSurePartsUptoRow.holds Try.pinned (OpenSpec.upto fnExactSurePartsSpec)

/-- 'laws.FnExactFlowCost', WHERE WHAT IT READS IS OF BULK AT MOST 1048576: true; the input reads as it did. -/
def fnExactFlowCostUptoRow : OpenClaim := { program := "ytmaegbgkpjbohaa", sum := "041c9a089830dd9f63b21ba428939e2fef64b6eb9e5d3206cc3f3319a1bea063", func := "loop.example/g01365/laws.FnExactFlowCost", spec := "fnExactFlowCost", unfollowed := true, recurses := true, apart := false, narrowed := true }
def FnExactFlowCostUptoSaid : Prop := fnExactFlowCostUptoRow.holds Try.pinned (OpenSpec.upto fnExactFlowCostSpec)

/-- 'laws.FnExactLeastPoint', WHERE WHAT IT READS IS OF BULK AT MOST 1048576: true; the input reads as it did. -/
def fnExactLeastPointUptoRow : OpenClaim := { program := "ytmaegbgkpjbohaa", sum := "041c9a089830dd9f63b21ba428939e2fef64b6eb9e5d3206cc3f3319a1bea063", func := "loop.example/g01365/laws.FnExactLeastPoint", spec := "fnExactLeastPoint", unfollowed := true, recurses := true, apart := false, narrowed := true }
def FnExactLeastPointUptoSaid : Prop := fnExactLeastPointUptoRow.holds Try.pinned (OpenSpec.upto fnExactLeastPointSpec)

/-- 'laws.FnExactProductPoint', WHERE WHAT IT READS IS OF BULK AT MOST 1048576: true; the input reads as it did. -/
def fnExactProductPointUptoRow : OpenClaim := { program := "ytmaegbgkpjbohaa", sum := "041c9a089830dd9f63b21ba428939e2fef64b6eb9e5d3206cc3f3319a1bea063", func := "loop.example/g01365/laws.FnExactProductPoint", spec := "fnExactProductPoint", unfollowed := true, recurses := true, apart := false, narrowed := true }
def FnExactProductPointUptoSaid : Prop := fnExactProductPointUptoRow.holds Try.pinned (OpenSpec.upto fnExactProductPointSpec)

/-- 'laws.FnExactAreBallots', WHERE WHAT IT READS IS OF BULK AT MOST 1048576: true; the input reads as it did. -/
def fnExactAreBallotsUptoRow : OpenClaim := { program := "ytmaegbgkpjbohaa", sum := "041c9a089830dd9f63b21ba428939e2fef64b6eb9e5d3206cc3f3319a1bea063", func := "loop.example/g01365/laws.FnExactAreBallots", spec := "fnExactAreBallots", unfollowed := true, recurses := true, apart := false, narrowed := true }
def FnExactAreBallotsUptoSaid : Prop := fnExactAreBallotsUptoRow.holds Try.pinned (OpenSpec.upto fnExactAreBallotsSpec)

/-- 'laws.FnExactEvenParts', WHERE WHAT IT READS IS OF BULK AT MOST 1048576: true; the input reads as it did. -/
def fnExactEvenPartsUptoRow : OpenClaim := { program := "ytmaegbgkpjbohaa", sum := "041c9a089830dd9f63b21ba428939e2fef64b6eb9e5d3206cc3f3319a1bea063", func := "loop.example/g01365/laws.FnExactEvenParts", spec := "fnExactEvenParts", apart := false, narrowed := true }
def FnExactEvenPartsUptoSaid : Prop := fnExactEvenPartsUptoRow.holds Try.pinned (OpenSpec.upto fnExactEvenPartsSpec)

end Rows
end Go.Proofs.Ytmaegbgkpjbohaa
