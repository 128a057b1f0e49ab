/-
  No cell of these rows narrows 'for every input' (looked for: loops, veiled, ifaces, maps, wideKeys, modest, calm, conditions, laid).
  DERIVED. THE GIVEN ROWS OF THIS SEAT. 6 by the template 'for every input the law returns true; each argument reads behind the call as it read before'; 0 by the template 'total and deterministic' (their statements: YtkoongajnnaeoaaTotals.lean).
  GIVEN WITH THE SEED: the statements are not yours to turn. If you find one false, say at which input.
  Laid BY PROGRAM, IN A SANDBOX (cutbox-rows.mjs): the forced cells as the released guide's own fill.sh prints them over the translation d5665b37759526e9… (all of the seat's roots in one cut). By AI agents, Wed Nov 11 2026. No macro, syntax, notation, axiom, sorry.
-/
import Derived.Test.YtkoongajnnaeoaaChecked
import GoSem.Claim
import GoSem.ClaimJoined
import GoSem.ClaimMapViews
import Derived.JoinedTies
import Derived.KernelRfl
namespace Go.Proofs.Ytkoongajnnaeoaa
/- THE CELL 'sum', in the pinned program and in every row, IS THE sha256 OF THE DUMP (.gsa) THAT YtkoongajnnaeoaaProg.lean LOADS. Nothing in Lean hashes anything: it is a label: what it is worth is what the hold of that sum in a sandbox is worth. -/
noncomputable def Try.pinned : Pinned := { name := "ytkoongajnnaeoaa", sum := "d5665b37759526e9f859c9449859025f35753ec4212db4351add3541f2513e53", checked := Try.checked }
namespace Rows
def none {H : Type} : Left H := { results := [], args := [] }

/-- 'laws.FnBestParts': WHATEVER THE INPUT: true; the input reads as it did. -/
def fnBestPartsSpec : ChangeSpec := { name := "fnBestParts", fn := fun _ => fun
  | [d1, d2] => { results := [.lit (.bool true)], args := [d1, d2] }
  | _ => none }
def fnBestPartsRow : OpenClaim := { program := "ytkoongajnnaeoaa", sum := "d5665b37759526e9f859c9449859025f35753ec4212db4351add3541f2513e53", func := "loop.example/g01365/laws.FnBestParts", spec := "fnBestParts", unfollowed := true, recurses := true, apart := false }
def FnBestPartsSaid : Prop := fnBestPartsRow.holds Try.pinned (OpenSpec.ofChange fnBestPartsSpec)

/-- ITS FALSE NEIGHBOUR: 'it returns false'. Refute it at one input. -/
def fnBestPartsWrong : ChangeSpec := { name := "fnBestParts", fn := fun _ => fun
  | [d1, d2] => { results := [.lit (.bool false)], args := [d1, d2] }
  | _ => none }
def FnBestPartsWrongFalsely : Prop := fnBestPartsRow.holds Try.pinned (OpenSpec.ofChange fnBestPartsWrong)

/-- 'laws.FnExactMostGiven': WHATEVER THE INPUT: true; the input reads as it did. -/
def fnExactMostGivenSpec : ChangeSpec := { name := "fnExactMostGiven", fn := fun _ => fun
  | [d1, d2] => { results := [.lit (.bool true)], args := [d1, d2] }
  | _ => none }
def fnExactMostGivenRow : OpenClaim := { program := "ytkoongajnnaeoaa", sum := "d5665b37759526e9f859c9449859025f35753ec4212db4351add3541f2513e53", func := "loop.example/g01365/laws.FnExactMostGiven", spec := "fnExactMostGiven", unfollowed := true, recurses := true, apart := false }
def FnExactMostGivenSaid : Prop := fnExactMostGivenRow.holds Try.pinned (OpenSpec.ofChange fnExactMostGivenSpec)

/-- ITS FALSE NEIGHBOUR: 'it returns false'. Refute it at one input. -/
def fnExactMostGivenWrong : ChangeSpec := { name := "fnExactMostGiven", fn := fun _ => fun
  | [d1, d2] => { results := [.lit (.bool false)], args := [d1, d2] }
  | _ => none }
def FnExactMostGivenWrongFalsely : Prop := fnExactMostGivenRow.holds Try.pinned (OpenSpec.ofChange fnExactMostGivenWrong)

/-- 'laws.FnExactWishesShared': WHATEVER THE INPUT: true; the input reads as it did. -/
def fnExactWishesSharedSpec : ChangeSpec := { name := "fnExactWishesShared", fn := fun _ => fun
  | [d1, d2] => { results := [.lit (.bool true)], args := [d1, d2] }
  | _ => none }
def fnExactWishesSharedRow : OpenClaim := { program := "ytkoongajnnaeoaa", sum := "d5665b37759526e9f859c9449859025f35753ec4212db4351add3541f2513e53", func := "loop.example/g01365/laws.FnExactWishesShared", spec := "fnExactWishesShared", unfollowed := true, recurses := true, apart := false }
def FnExactWishesSharedSaid : Prop := fnExactWishesSharedRow.holds Try.pinned (OpenSpec.ofChange fnExactWishesSharedSpec)

/-- ITS FALSE NEIGHBOUR: 'it returns false'. Refute it at one input. -/
def fnExactWishesSharedWrong : ChangeSpec := { name := "fnExactWishesShared", fn := fun _ => fun
  | [d1, d2] => { results := [.lit (.bool false)], args := [d1, d2] }
  | _ => none }
def FnExactWishesSharedWrongFalsely : Prop := fnExactWishesSharedRow.holds Try.pinned (OpenSpec.ofChange fnExactWishesSharedWrong)

/-- 'laws.FnHouses': WHATEVER THE INPUT: true; the input reads as it did. -/
def fnHousesSpec : ChangeSpec := { name := "fnHouses", fn := fun _ => fun
  | [d1, d2] => { results := [.lit (.bool true)], args := [d1, d2] }
  | _ => none }
def fnHousesRow : OpenClaim := { program := "ytkoongajnnaeoaa", sum := "d5665b37759526e9f859c9449859025f35753ec4212db4351add3541f2513e53", func := "loop.example/g01365/laws.FnHouses", spec := "fnHouses", unfollowed := true, recurses := true, apart := false }
def FnHousesSaid : Prop := fnHousesRow.holds Try.pinned (OpenSpec.ofChange fnHousesSpec)

/-- ITS FALSE NEIGHBOUR: 'it returns false'. Refute it at one input. -/
def fnHousesWrong : ChangeSpec := { name := "fnHouses", fn := fun _ => fun
  | [d1, d2] => { results := [.lit (.bool false)], args := [d1, d2] }
  | _ => none }
def FnHousesWrongFalsely : Prop := fnHousesRow.holds Try.pinned (OpenSpec.ofChange fnHousesWrong)

/-- 'laws.FnFriends': WHATEVER THE INPUT: true; the input reads as it did. -/
def fnFriendsSpec : ChangeSpec := { name := "fnFriends", fn := fun _ => fun
  | [d1, d2] => { results := [.lit (.bool true)], args := [d1, d2] }
  | _ => none }
def fnFriendsRow : OpenClaim := { program := "ytkoongajnnaeoaa", sum := "d5665b37759526e9f859c9449859025f35753ec4212db4351add3541f2513e53", func := "loop.example/g01365/laws.FnFriends", spec := "fnFriends", unfollowed := true, recurses := true, apart := false }
def FnFriendsSaid : Prop := fnFriendsRow.holds Try.pinned (OpenSpec.ofChange fnFriendsSpec)

/-- ITS FALSE NEIGHBOUR: 'it returns false'. Refute it at one input. -/
def fnFriendsWrong : ChangeSpec := { name := "fnFriends", fn := fun _ => fun
  | [d1, d2] => { results := [.lit (.bool false)], args := [d1, d2] }
  | _ => none }
def FnFriendsWrongFalsely : Prop := fnFriendsRow.holds Try.pinned (OpenSpec.ofChange fnFriendsWrong)

/-- 'laws.FnExactGamesShared': WHATEVER THE INPUT: true; the input reads as it did. -/
def fnExactGamesSharedSpec : ChangeSpec := { name := "fnExactGamesShared", fn := fun _ => fun
  | [d1, d2] => { results := [.lit (.bool true)], args := [d1, d2] }
  | _ => none }
def fnExactGamesSharedRow : OpenClaim := { program := "ytkoongajnnaeoaa", sum := "d5665b37759526e9f859c9449859025f35753ec4212db4351add3541f2513e53", func := "loop.example/g01365/laws.FnExactGamesShared", spec := "fnExactGamesShared", apart := false }
def FnExactGamesSharedSaid : Prop := fnExactGamesSharedRow.holds Try.pinned (OpenSpec.ofChange fnExactGamesSharedSpec)

/-- ITS FALSE NEIGHBOUR: 'it returns false'. Refute it at one input. -/
def fnExactGamesSharedWrong : ChangeSpec := { name := "fnExactGamesShared", fn := fun _ => fun
  | [d1, d2] => { results := [.lit (.bool false)], args := [d1, d2] }
  | _ => none }
def FnExactGamesSharedWrongFalsely : Prop := fnExactGamesSharedRow.holds Try.pinned (OpenSpec.ofChange fnExactGamesSharedWrong)

/- THE SECOND FORM. 'bulk': how many values and letters a reading holds, each counted each time it is reached (what is shared counts as often as it is met; a slice's spare places count too). A statement '..UptoSaid' is the law's where the arguments, and the package variables that the reading takes, are together of bulk at most 1048576: NARROWER than '..Said'. Prove '..Said' where nothing that the law and all that it calls make is longer than what came in: it says more and counts as full. Else prove '..UptoSaid'. A law counts once. -/
mutual
def uptoBulk {H : Type} : DataW H → Nat
  | .lit (.string bytes) => bytes.length + 1
  | .lit _ => 1
  | .nil => 1
  | .ptr d => uptoBulk d + 1
  | .slice elems spare => uptoBulkAll elems + uptoBulkAll spare + 1
  | .agg parts => uptoBulkAll parts + 1
  | .iface _ d => uptoBulk d + 1
  | .map entries => uptoBulkEntries entries + 1
  | .held _ => 1
def uptoBulkAll {H : Type} : List (DataW H) → Nat
  | [] => 0
  | d :: r => uptoBulk d + uptoBulkAll r
def uptoBulkEntries {H : Type} : List (Lit × DataW H) → Nat
  | [] => 0
  | x :: r => uptoBulkEntry x + uptoBulkEntries r
def uptoBulkEntry {H : Type} : Lit × DataW H → Nat
  | (.string bytes, d) => bytes.length + uptoBulk d + 1
  | (_, d) => uptoBulk d + 1
 end
def uptoSmall : (H : Type) → List (DataW H) → Bool := fun _ ds => decide (uptoBulkAll ds ≤ 1048576)
def OpenSpec.upto (s : _root_.Go.ChangeSpec) : _root_.Go.OpenSpec := { _root_.Go.OpenSpec.ofChange s with cond := some uptoSmall }

/-- 'laws.FnBestParts', WHERE WHAT IT READS IS OF BULK AT MOST 1048576: true; the input reads as it did. -/
def fnBestPartsUptoRow : OpenClaim := { program := "ytkoongajnnaeoaa", sum := "d5665b37759526e9f859c9449859025f35753ec4212db4351add3541f2513e53", func := "loop.example/g01365/laws.FnBestParts", spec := "fnBestParts", unfollowed := true, recurses := true, apart := false, narrowed := true }
def FnBestPartsUptoSaid : Prop := fnBestPartsUptoRow.holds Try.pinned (OpenSpec.upto fnBestPartsSpec)

/-- 'laws.FnExactMostGiven', WHERE WHAT IT READS IS OF BULK AT MOST 1048576: true; the input reads as it did. -/
def fnExactMostGivenUptoRow : OpenClaim := { program := "ytkoongajnnaeoaa", sum := "d5665b37759526e9f859c9449859025f35753ec4212db4351add3541f2513e53", func := "loop.example/g01365/laws.FnExactMostGiven", spec := "fnExactMostGiven", unfollowed := true, recurses := true, apart := false, narrowed := true }
def FnExactMostGivenUptoSaid : Prop := fnExactMostGivenUptoRow.holds Try.pinned (OpenSpec.upto fnExactMostGivenSpec)

/-- 'laws.FnExactWishesShared', WHERE WHAT IT READS IS OF BULK AT MOST 1048576: true; the input reads as it did. -/
def fnExactWishesSharedUptoRow : OpenClaim := { program := "ytkoongajnnaeoaa", sum := "d5665b37759526e9f859c9449859025f35753ec4212db4351add3541f2513e53", func := "loop.example/g01365/laws.FnExactWishesShared", spec := "fnExactWishesShared", unfollowed := true, recurses := true, apart := false, narrowed := true }
def FnExactWishesSharedUptoSaid : Prop := fnExactWishesSharedUptoRow.holds Try.pinned (OpenSpec.upto fnExactWishesSharedSpec)

/-- 'laws.FnHouses', WHERE WHAT IT READS IS OF BULK AT MOST 1048576: true; the input reads as it did. -/
def fnHousesUptoRow : OpenClaim := { program := "ytkoongajnnaeoaa", sum := "d5665b37759526e9f859c9449859025f35753ec4212db4351add3541f2513e53", func := "loop.example/g01365/laws.FnHouses", spec := "fnHouses", unfollowed := true, recurses := true, apart := false, narrowed := true }
def FnHousesUptoSaid : Prop := fnHousesUptoRow.holds Try.pinned (OpenSpec.upto fnHousesSpec)

/-- 'laws.FnFriends', WHERE WHAT IT READS IS OF BULK AT MOST 1048576: true; the input reads as it did. -/
def fnFriendsUptoRow : OpenClaim := { program := "ytkoongajnnaeoaa", sum := "d5665b37759526e9f859c9449859025f35753ec4212db4351add3541f2513e53", func := "loop.example/g01365/laws.FnFriends", spec := "fnFriends", unfollowed := true, recurses := true, apart := false, narrowed := true }
def FnFriendsUptoSaid : Prop := fnFriendsUptoRow.holds Try.pinned (OpenSpec.upto fnFriendsSpec)

/-- 'laws.FnExactGamesShared', WHERE WHAT IT READS IS OF BULK AT MOST 1048576: true; the input reads as it did. -/
def fnExactGamesSharedUptoRow : OpenClaim := { program := "ytkoongajnnaeoaa", sum := "d5665b37759526e9f859c9449859025f35753ec4212db4351add3541f2513e53", func := "loop.example/g01365/laws.FnExactGamesShared", spec := "fnExactGamesShared", apart := false, narrowed := true }
def FnExactGamesSharedUptoSaid : Prop := fnExactGamesSharedUptoRow.holds Try.pinned (OpenSpec.upto fnExactGamesSharedSpec)

end Rows
end Go.Proofs.Ytkoongajnnaeoaa
