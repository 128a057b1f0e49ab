/-
  No cell of these rows narrows 'for every input' (looked for: loops, veiled, ifaces, maps, wideKeys, modest, calm, conditions, laid).
  DERIVED. THE GIVEN ROWS OF THIS SEAT. 3 by the template 'for every input the law returns true; each argument reads behind the call as it read before'; 0 by the template 'total and deterministic' (their statements: YthecninmmojkgaaTotals.lean).
  GIVEN WITH THE SEED: the statements are not yours to turn. If you find one false, say at which input.
  Laid BY PROGRAM, IN A SANDBOX (cutbox-rows.mjs): the forced cells as the released guide's own fill.sh prints them over the translation 04595b9a72390480… (all of the seat's roots in one cut). By AI agents, Wed Nov 11 2026. No macro, syntax, notation, axiom, sorry.
-/
import Derived.Test.YthecninmmojkgaaChecked
import GoSem.Claim
import GoSem.ClaimJoined
import GoSem.ClaimMapViews
import Derived.JoinedTies
import Derived.KernelRfl
namespace Go.Proofs.Ythecninmmojkgaa
/- THE CELL 'sum', in the pinned program and in every row, IS THE sha256 OF THE DUMP (.gsa) THAT YthecninmmojkgaaProg.lean LOADS. Nothing in Lean hashes anything: it is a label: what it is worth is what the hold of that sum in a sandbox is worth. -/
noncomputable def Try.pinned : Pinned := { name := "ythecninmmojkgaa", sum := "04595b9a72390480e24b23251ba0173a7d2d0473ed7bafe48445a16be6d7dfd7", checked := Try.checked }
namespace Rows
def none {H : Type} : Left H := { results := [], args := [] }

/-- 'laws.FnExactGamesShared': WHATEVER THE INPUT: true; the input reads as it did. -/
def fnExactGamesSharedSpec : ChangeSpec := { name := "fnExactGamesShared", fn := fun _ => fun
  | [d1, d2] => { results := [.lit (.bool true)], args := [d1, d2] }
  | _ => none }
def fnExactGamesSharedRow : OpenClaim := { program := "ythecninmmojkgaa", sum := "04595b9a72390480e24b23251ba0173a7d2d0473ed7bafe48445a16be6d7dfd7", func := "loop.example/g01365/laws.FnExactGamesShared", spec := "fnExactGamesShared", apart := false }
def FnExactGamesSharedSaid : Prop := fnExactGamesSharedRow.holds Try.pinned (OpenSpec.ofChange fnExactGamesSharedSpec)

/-- ITS FALSE NEIGHBOUR: 'it returns false'. Refute it at one input. -/
def fnExactGamesSharedWrong : ChangeSpec := { name := "fnExactGamesShared", fn := fun _ => fun
  | [d1, d2] => { results := [.lit (.bool false)], args := [d1, d2] }
  | _ => none }
def FnExactGamesSharedWrongFalsely : Prop := fnExactGamesSharedRow.holds Try.pinned (OpenSpec.ofChange fnExactGamesSharedWrong)

/-- 'laws.FnExactMostGiven': WHATEVER THE INPUT: true; the input reads as it did. -/
def fnExactMostGivenSpec : ChangeSpec := { name := "fnExactMostGiven", fn := fun _ => fun
  | [d1, d2] => { results := [.lit (.bool true)], args := [d1, d2] }
  | _ => none }
def fnExactMostGivenRow : OpenClaim := { program := "ythecninmmojkgaa", sum := "04595b9a72390480e24b23251ba0173a7d2d0473ed7bafe48445a16be6d7dfd7", func := "loop.example/g01365/laws.FnExactMostGiven", spec := "fnExactMostGiven", unfollowed := true, recurses := true, apart := false }
def FnExactMostGivenSaid : Prop := fnExactMostGivenRow.holds Try.pinned (OpenSpec.ofChange fnExactMostGivenSpec)

/-- ITS FALSE NEIGHBOUR: 'it returns false'. Refute it at one input. -/
def fnExactMostGivenWrong : ChangeSpec := { name := "fnExactMostGiven", fn := fun _ => fun
  | [d1, d2] => { results := [.lit (.bool false)], args := [d1, d2] }
  | _ => none }
def FnExactMostGivenWrongFalsely : Prop := fnExactMostGivenRow.holds Try.pinned (OpenSpec.ofChange fnExactMostGivenWrong)

/-- 'laws.FnExactWishesShared': WHATEVER THE INPUT: true; the input reads as it did. -/
def fnExactWishesSharedSpec : ChangeSpec := { name := "fnExactWishesShared", fn := fun _ => fun
  | [d1, d2] => { results := [.lit (.bool true)], args := [d1, d2] }
  | _ => none }
def fnExactWishesSharedRow : OpenClaim := { program := "ythecninmmojkgaa", sum := "04595b9a72390480e24b23251ba0173a7d2d0473ed7bafe48445a16be6d7dfd7", func := "loop.example/g01365/laws.FnExactWishesShared", spec := "fnExactWishesShared", unfollowed := true, recurses := true, apart := false }
def FnExactWishesSharedSaid : Prop := fnExactWishesSharedRow.holds Try.pinned (OpenSpec.ofChange fnExactWishesSharedSpec)

/-- ITS FALSE NEIGHBOUR: 'it returns false'. Refute it at one input. -/
def fnExactWishesSharedWrong : ChangeSpec := { name := "fnExactWishesShared", fn := fun _ => fun
  | [d1, d2] => { results := [.lit (.bool false)], args := [d1, d2] }
  | _ => none }
def FnExactWishesSharedWrongFalsely : Prop := fnExactWishesSharedRow.holds Try.pinned (OpenSpec.ofChange fnExactWishesSharedWrong)

/- THE SECOND FORM. 'bulk': how many values and letters a reading holds, each counted each time it is reached (what is shared counts as often as it is met; a slice's spare places count too). A statement '..UptoSaid' is the law's where the arguments, and the package variables that the reading takes, are together of bulk at most 1048576: NARROWER than '..Said'. Prove '..Said' where nothing that the law and all that it calls make is longer than what came in: it says more and counts as full. Else prove '..UptoSaid'. A law counts once. -/
mutual
def uptoBulk {H : Type} : DataW H → Nat
  | .lit (.string bytes) => bytes.length + 1
  | .lit _ => 1
  | .nil => 1
  | .ptr d => uptoBulk d + 1
  | .slice elems spare => uptoBulkAll elems + uptoBulkAll spare + 1
  | .agg parts => uptoBulkAll parts + 1
  | .iface _ d => uptoBulk d + 1
  | .map entries => uptoBulkEntries entries + 1
  | .held _ => 1
def uptoBulkAll {H : Type} : List (DataW H) → Nat
  | [] => 0
  | d :: r => uptoBulk d + uptoBulkAll r
def uptoBulkEntries {H : Type} : List (Lit × DataW H) → Nat
  | [] => 0
  | x :: r => uptoBulkEntry x + uptoBulkEntries r
def uptoBulkEntry {H : Type} : Lit × DataW H → Nat
  | (.string bytes, d) => bytes.length + uptoBulk d + 1
  | (_, d) => uptoBulk d + 1
 end
def uptoSmall : (H : Type) → List (DataW H) → Bool := fun _ ds => decide (uptoBulkAll ds ≤ 1048576)
def OpenSpec.upto (s : _root_.Go.ChangeSpec) : _root_.Go.OpenSpec := { _root_.Go.OpenSpec.ofChange s with cond := some uptoSmall }

/-- 'laws.FnExactGamesShared', WHERE WHAT IT READS IS OF BULK AT MOST 1048576: true; the input reads as it did. -/
def fnExactGamesSharedUptoRow : OpenClaim := { program := "ythecninmmojkgaa", sum := "04595b9a72390480e24b23251ba0173a7d2d0473ed7bafe48445a16be6d7dfd7", func := "loop.example/g01365/laws.FnExactGamesShared", spec := "fnExactGamesShared", apart := false, narrowed := true }
def FnExactGamesSharedUptoSaid : Prop := fnExactGamesSharedUptoRow.holds Try.pinned (OpenSpec.upto fnExactGamesSharedSpec)

/-- 'laws.FnExactMostGiven', WHERE WHAT IT READS IS OF BULK AT MOST 1048576: true; the input reads as it did. -/
def fnExactMostGivenUptoRow : OpenClaim := { program := "ythecninmmojkgaa", sum := "04595b9a72390480e24b23251ba0173a7d2d0473ed7bafe48445a16be6d7dfd7", func := "loop.example/g01365/laws.FnExactMostGiven", spec := "fnExactMostGiven", unfollowed := true, recurses := true, apart := false, narrowed := true }
def FnExactMostGivenUptoSaid : Prop := fnExactMostGivenUptoRow.holds Try.pinned (OpenSpec.upto fnExactMostGivenSpec)

/-- 'laws.FnExactWishesShared', WHERE WHAT IT READS IS OF BULK AT MOST 1048576: true; the input reads as it did. -/
def fnExactWishesSharedUptoRow : OpenClaim := { program := "ythecninmmojkgaa", sum := "04595b9a72390480e24b23251ba0173a7d2d0473ed7bafe48445a16be6d7dfd7", func := "loop.example/g01365/laws.FnExactWishesShared", spec := "fnExactWishesShared", unfollowed := true, recurses := true, apart := false, narrowed := true }
def FnExactWishesSharedUptoSaid : Prop := fnExactWishesSharedUptoRow.holds Try.pinned (OpenSpec.upto fnExactWishesSharedSpec)

end Rows
end Go.Proofs.Ythecninmmojkgaa
