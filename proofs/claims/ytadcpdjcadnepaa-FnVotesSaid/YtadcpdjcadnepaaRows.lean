/-
  No cell of these rows narrows 'for every input' (looked for: loops, veiled, ifaces, maps, wideKeys, modest, calm, conditions, laid).
  DERIVED. THE GIVEN ROWS OF THIS SEAT. 4 by the template 'for every input the law returns true; each argument reads behind the call as it read before'; 0 by the template 'total and deterministic' (their statements: YtadcpdjcadnepaaTotals.lean).
  GIVEN WITH THE SEED: the statements are not yours to turn. If you find one false, say at which input.
  Laid BY PROGRAM, IN A SANDBOX (cutbox-rows.mjs): the forced cells as the released guide's own fill.sh prints them over the translation 7b39e3a24e6d611c… (all of the seat's roots in one cut). By AI agents, Wed Nov 11 2026. No macro, syntax, notation, axiom, sorry.
-/
import Derived.Test.YtadcpdjcadnepaaChecked
import GoSem.Claim
import GoSem.ClaimJoined
import GoSem.ClaimMapViews
import Derived.JoinedTies
import Derived.KernelRfl
namespace Go.Proofs.Ytadcpdjcadnepaa
/- THE CELL 'sum', in the pinned program and in every row, IS THE sha256 OF THE DUMP (.gsa) THAT YtadcpdjcadnepaaProg.lean LOADS. Nothing in Lean hashes anything: it is a label: what it is worth is what the hold of that sum in a sandbox is worth. -/
noncomputable def Try.pinned : Pinned := { name := "ytadcpdjcadnepaa", sum := "7b39e3a24e6d611c19a86ed90502ac062b3b8c7a2507cbd62eaeeb53da639af5", checked := Try.checked }
namespace Rows
def none {H : Type} : Left H := { results := [], args := [] }

/-- 'laws.FnBestParts': WHATEVER THE INPUT: true; the input reads as it did. -/
def fnBestPartsSpec : ChangeSpec := { name := "fnBestParts", fn := fun _ => fun
  | [d1, d2] => { results := [.lit (.bool true)], args := [d1, d2] }
  | _ => none }
def fnBestPartsRow : OpenClaim := { program := "ytadcpdjcadnepaa", sum := "7b39e3a24e6d611c19a86ed90502ac062b3b8c7a2507cbd62eaeeb53da639af5", func := "loop.example/g01365/laws.FnBestParts", spec := "fnBestParts", unfollowed := true, recurses := true, apart := false }
def FnBestPartsSaid : Prop := fnBestPartsRow.holds Try.pinned (OpenSpec.ofChange fnBestPartsSpec)

/-- ITS FALSE NEIGHBOUR: 'it returns false'. Refute it at one input. -/
def fnBestPartsWrong : ChangeSpec := { name := "fnBestParts", fn := fun _ => fun
  | [d1, d2] => { results := [.lit (.bool false)], args := [d1, d2] }
  | _ => none }
def FnBestPartsWrongFalsely : Prop := fnBestPartsRow.holds Try.pinned (OpenSpec.ofChange fnBestPartsWrong)

/-- 'laws.FnFairShares': WHATEVER THE INPUT: true; the input reads as it did. -/
def fnFairSharesSpec : ChangeSpec := { name := "fnFairShares", fn := fun _ => fun
  | [d1, d2] => { results := [.lit (.bool true)], args := [d1, d2] }
  | _ => none }
def fnFairSharesRow : OpenClaim := { program := "ytadcpdjcadnepaa", sum := "7b39e3a24e6d611c19a86ed90502ac062b3b8c7a2507cbd62eaeeb53da639af5", func := "loop.example/g01365/laws.FnFairShares", spec := "fnFairShares", unfollowed := true, recurses := true, apart := false }
def FnFairSharesSaid : Prop := fnFairSharesRow.holds Try.pinned (OpenSpec.ofChange fnFairSharesSpec)

/-- ITS FALSE NEIGHBOUR: 'it returns false'. Refute it at one input. -/
def fnFairSharesWrong : ChangeSpec := { name := "fnFairShares", fn := fun _ => fun
  | [d1, d2] => { results := [.lit (.bool false)], args := [d1, d2] }
  | _ => none }
def FnFairSharesWrongFalsely : Prop := fnFairSharesRow.holds Try.pinned (OpenSpec.ofChange fnFairSharesWrong)

/-- 'laws.FnFairParts': WHATEVER THE INPUT: true; the input reads as it did. -/
def fnFairPartsSpec : ChangeSpec := { name := "fnFairParts", fn := fun _ => fun
  | [d1, d2] => { results := [.lit (.bool true)], args := [d1, d2] }
  | _ => none }
def fnFairPartsRow : OpenClaim := { program := "ytadcpdjcadnepaa", sum := "7b39e3a24e6d611c19a86ed90502ac062b3b8c7a2507cbd62eaeeb53da639af5", func := "loop.example/g01365/laws.FnFairParts", spec := "fnFairParts", unfollowed := true, recurses := true, apart := false }
def FnFairPartsSaid : Prop := fnFairPartsRow.holds Try.pinned (OpenSpec.ofChange fnFairPartsSpec)

/-- ITS FALSE NEIGHBOUR: 'it returns false'. Refute it at one input. -/
def fnFairPartsWrong : ChangeSpec := { name := "fnFairParts", fn := fun _ => fun
  | [d1, d2] => { results := [.lit (.bool false)], args := [d1, d2] }
  | _ => none }
def FnFairPartsWrongFalsely : Prop := fnFairPartsRow.holds Try.pinned (OpenSpec.ofChange fnFairPartsWrong)

/-- 'laws.FnVotes': WHATEVER THE INPUT: true; the input reads as it did. -/
def fnVotesSpec : ChangeSpec := { name := "fnVotes", fn := fun _ => fun
  | [d1, d2] => { results := [.lit (.bool true)], args := [d1, d2] }
  | _ => none }
def fnVotesRow : OpenClaim := { program := "ytadcpdjcadnepaa", sum := "7b39e3a24e6d611c19a86ed90502ac062b3b8c7a2507cbd62eaeeb53da639af5", func := "loop.example/g01365/laws.FnVotes", spec := "fnVotes", unfollowed := true, recurses := true, apart := false }
def FnVotesSaid : Prop := fnVotesRow.holds Try.pinned (OpenSpec.ofChange fnVotesSpec)

/-- ITS FALSE NEIGHBOUR: 'it returns false'. Refute it at one input. -/
def fnVotesWrong : ChangeSpec := { name := "fnVotes", fn := fun _ => fun
  | [d1, d2] => { results := [.lit (.bool false)], args := [d1, d2] }
  | _ => none }
def FnVotesWrongFalsely : Prop := fnVotesRow.holds Try.pinned (OpenSpec.ofChange fnVotesWrong)

/- THE SECOND FORM. 'bulk': how many values and letters a reading holds, each counted each time it is reached (what is shared counts as often as it is met; a slice's spare places count too). A statement '..UptoSaid' is the law's where the arguments, and the package variables that the reading takes, are together of bulk at most 1048576: NARROWER than '..Said'. Prove '..Said' where nothing that the law and all that it calls make is longer than what came in: it says more and counts as full. Else prove '..UptoSaid'. A law counts once. -/
mutual
def uptoBulk {H : Type} : DataW H → Nat
  | .lit (.string bytes) => bytes.length + 1
  | .lit _ => 1
  | .nil => 1
  | .ptr d => uptoBulk d + 1
  | .slice elems spare => uptoBulkAll elems + uptoBulkAll spare + 1
  | .agg parts => uptoBulkAll parts + 1
  | .iface _ d => uptoBulk d + 1
  | .map entries => uptoBulkEntries entries + 1
  | .held _ => 1
def uptoBulkAll {H : Type} : List (DataW H) → Nat
  | [] => 0
  | d :: r => uptoBulk d + uptoBulkAll r
def uptoBulkEntries {H : Type} : List (Lit × DataW H) → Nat
  | [] => 0
  | x :: r => uptoBulkEntry x + uptoBulkEntries r
def uptoBulkEntry {H : Type} : Lit × DataW H → Nat
  | (.string bytes, d) => bytes.length + uptoBulk d + 1
  | (_, d) => uptoBulk d + 1
 end
def uptoSmall : (H : Type) → List (DataW H) → Bool := fun _ ds => decide (uptoBulkAll ds ≤ 1048576)
def OpenSpec.upto (s : _root_.Go.ChangeSpec) : _root_.Go.OpenSpec := { _root_.Go.OpenSpec.ofChange s with cond := some uptoSmall }

/-- 'laws.FnBestParts', WHERE WHAT IT READS IS OF BULK AT MOST 1048576: true; the input reads as it did. -/
def fnBestPartsUptoRow : OpenClaim := { program := "ytadcpdjcadnepaa", sum := "7b39e3a24e6d611c19a86ed90502ac062b3b8c7a2507cbd62eaeeb53da639af5", func := "loop.example/g01365/laws.FnBestParts", spec := "fnBestParts", unfollowed := true, recurses := true, apart := false, narrowed := true }
def FnBestPartsUptoSaid : Prop := fnBestPartsUptoRow.holds Try.pinned (OpenSpec.upto fnBestPartsSpec)

/-- 'laws.FnFairShares', WHERE WHAT IT READS IS OF BULK AT MOST 1048576: true; the input reads as it did. -/
def fnFairSharesUptoRow : OpenClaim := { program := "ytadcpdjcadnepaa", sum := "7b39e3a24e6d611c19a86ed90502ac062b3b8c7a2507cbd62eaeeb53da639af5", func := "loop.example/g01365/laws.FnFairShares", spec := "fnFairShares", unfollowed := true, recurses := true, apart := false, narrowed := true }
def FnFairSharesUptoSaid : Prop := fnFairSharesUptoRow.holds Try.pinned (OpenSpec.upto fnFairSharesSpec)

/-- 'laws.FnFairParts', WHERE WHAT IT READS IS OF BULK AT MOST 1048576: true; the input reads as it did. -/
def fnFairPartsUptoRow : OpenClaim := { program := "ytadcpdjcadnepaa", sum := "7b39e3a24e6d611c19a86ed90502ac062b3b8c7a2507cbd62eaeeb53da639af5", func := "loop.example/g01365/laws.FnFairParts", spec := "fnFairParts", unfollowed := true, recurses := true, apart := false, narrowed := true }
def FnFairPartsUptoSaid : Prop := fnFairPartsUptoRow.holds Try.pinned (OpenSpec.upto fnFairPartsSpec)

/-- 'laws.FnVotes', WHERE WHAT IT READS IS OF BULK AT MOST 1048576: true; the input reads as it did. -/
def fnVotesUptoRow : OpenClaim := { program := "ytadcpdjcadnepaa", sum := "7b39e3a24e6d611c19a86ed90502ac062b3b8c7a2507cbd62eaeeb53da639af5", func := "loop.example/g01365/laws.FnVotes", spec := "fnVotes", unfollowed := true, recurses := true, apart := false, narrowed := true }
def FnVotesUptoSaid : Prop := fnVotesUptoRow.holds Try.pinned (OpenSpec.upto fnVotesSpec)

end Rows
end Go.Proofs.Ytadcpdjcadnepaa
