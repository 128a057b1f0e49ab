/-
  No cell of these rows narrows 'for every input' (looked for: loops, veiled, ifaces, maps, wideKeys, modest, calm, conditions, laid).
  DERIVED. THE GIVEN ROWS OF THIS SEAT. 4 by the template 'for every input the law returns true; each argument reads behind the call as it read before'; 0 by the template 'total and deterministic' (their statements: YtdnnpdmeklpcoaaTotals.lean).
  GIVEN WITH THE SEED: the statements are not yours to turn. If you find one false, say at which input.
  Laid BY PROGRAM, IN A SANDBOX (cutbox-rows.mjs): the forced cells as the released guide's own fill.sh prints them over the translation ca93edec559786e1… (all of the seat's roots in one cut). By AI agents, Wed Nov 11 2026. No macro, syntax, notation, axiom, sorry.
-/
import Derived.Test.YtdnnpdmeklpcoaaChecked
import GoSem.Claim
import GoSem.ClaimJoined
import GoSem.ClaimMapViews
import Derived.JoinedTies
import Derived.KernelRfl
namespace Go.Proofs.Ytdnnpdmeklpcoaa
/- THE CELL 'sum', in the pinned program and in every row, IS THE sha256 OF THE DUMP (.gsa) THAT YtdnnpdmeklpcoaaProg.lean LOADS. Nothing in Lean hashes anything: it is a label: what it is worth is what the hold of that sum in a sandbox is worth. -/
noncomputable def Try.pinned : Pinned := { name := "ytdnnpdmeklpcoaa", sum := "ca93edec559786e105e2a6c48bf3200052d65a2bb97a9b1ea20db6234a7ebbe4", checked := Try.checked }
namespace Rows
def none {H : Type} : Left H := { results := [], args := [] }

/-- 'laws.FnExactAgreeOnce': WHATEVER THE INPUT: true; the input reads as it did. -/
def fnExactAgreeOnceSpec : ChangeSpec := { name := "fnExactAgreeOnce", fn := fun _ => fun
  | [d1, d2] => { results := [.lit (.bool true)], args := [d1, d2] }
  | _ => none }
def fnExactAgreeOnceRow : OpenClaim := { program := "ytdnnpdmeklpcoaa", sum := "ca93edec559786e105e2a6c48bf3200052d65a2bb97a9b1ea20db6234a7ebbe4", func := "loop.example/g01365/laws.FnExactAgreeOnce", spec := "fnExactAgreeOnce", inPlace := ["math.Float32frombits", "math.Float64frombits", "math.Float64bits"], unfollowed := true, recurses := true, apart := false }
def FnExactAgreeOnceSaid : Prop := fnExactAgreeOnceRow.holds Try.pinned (OpenSpec.ofChange fnExactAgreeOnceSpec)

/-- ITS FALSE NEIGHBOUR: 'it returns false'. Refute it at one input. -/
def fnExactAgreeOnceWrong : ChangeSpec := { name := "fnExactAgreeOnce", fn := fun _ => fun
  | [d1, d2] => { results := [.lit (.bool false)], args := [d1, d2] }
  | _ => none }
def FnExactAgreeOnceWrongFalsely : Prop := fnExactAgreeOnceRow.holds Try.pinned (OpenSpec.ofChange fnExactAgreeOnceWrong)

/-- 'laws.FnExactArrowsOf': WHATEVER THE INPUT: true; the input reads as it did. -/
def fnExactArrowsOfSpec : ChangeSpec := { name := "fnExactArrowsOf", fn := fun _ => fun
  | [d1, d2] => { results := [.lit (.bool true)], args := [d1, d2] }
  | _ => none }
def fnExactArrowsOfRow : OpenClaim := { program := "ytdnnpdmeklpcoaa", sum := "ca93edec559786e105e2a6c48bf3200052d65a2bb97a9b1ea20db6234a7ebbe4", func := "loop.example/g01365/laws.FnExactArrowsOf", spec := "fnExactArrowsOf", inPlace := ["math.Float32frombits", "math.Float64frombits", "math.Float64bits"], apart := false }
def FnExactArrowsOfSaid : Prop := fnExactArrowsOfRow.holds Try.pinned (OpenSpec.ofChange fnExactArrowsOfSpec)

/-- ITS FALSE NEIGHBOUR: 'it returns false'. Refute it at one input. -/
def fnExactArrowsOfWrong : ChangeSpec := { name := "fnExactArrowsOf", fn := fun _ => fun
  | [d1, d2] => { results := [.lit (.bool false)], args := [d1, d2] }
  | _ => none }
def FnExactArrowsOfWrongFalsely : Prop := fnExactArrowsOfRow.holds Try.pinned (OpenSpec.ofChange fnExactArrowsOfWrong)

/-- 'laws.FnExactAgreeRounds': WHATEVER THE INPUT: true; the input reads as it did. -/
def fnExactAgreeRoundsSpec : ChangeSpec := { name := "fnExactAgreeRounds", fn := fun _ => fun
  | [d1, d2, d3, d4] => { results := [.lit (.bool true)], args := [d1, d2, d3, d4] }
  | _ => none }
def fnExactAgreeRoundsRow : OpenClaim := { program := "ytdnnpdmeklpcoaa", sum := "ca93edec559786e105e2a6c48bf3200052d65a2bb97a9b1ea20db6234a7ebbe4", func := "loop.example/g01365/laws.FnExactAgreeRounds", spec := "fnExactAgreeRounds", inPlace := ["math.Float32frombits", "math.Float64frombits", "math.Float64bits"], unfollowed := true, recurses := true, apart := false }
def FnExactAgreeRoundsSaid : Prop := fnExactAgreeRoundsRow.holds Try.pinned (OpenSpec.ofChange fnExactAgreeRoundsSpec)

/-- ITS FALSE NEIGHBOUR: 'it returns false'. Refute it at one input. -/
def fnExactAgreeRoundsWrong : ChangeSpec := { name := "fnExactAgreeRounds", fn := fun _ => fun
  | [d1, d2, d3, d4] => { results := [.lit (.bool false)], args := [d1, d2, d3, d4] }
  | _ => none }
def FnExactAgreeRoundsWrongFalsely : Prop := fnExactAgreeRoundsRow.holds Try.pinned (OpenSpec.ofChange fnExactAgreeRoundsWrong)

/-- 'laws.FnArrowsAgree': WHATEVER THE INPUT: true; the input reads as it did. -/
def fnArrowsAgreeSpec : ChangeSpec := { name := "fnArrowsAgree", fn := fun _ => fun
  | [d1, d2] => { results := [.lit (.bool true)], args := [d1, d2] }
  | _ => none }
def fnArrowsAgreeRow : OpenClaim := { program := "ytdnnpdmeklpcoaa", sum := "ca93edec559786e105e2a6c48bf3200052d65a2bb97a9b1ea20db6234a7ebbe4", func := "loop.example/g01365/laws.FnArrowsAgree", spec := "fnArrowsAgree", inPlace := ["math.Float64frombits", "math.Float64bits", "math.sqrt"], unfollowed := true, recurses := true, apart := false }
def FnArrowsAgreeSaid : Prop := fnArrowsAgreeRow.holds Try.pinned (OpenSpec.ofChange fnArrowsAgreeSpec)

/-- ITS FALSE NEIGHBOUR: 'it returns false'. Refute it at one input. -/
def fnArrowsAgreeWrong : ChangeSpec := { name := "fnArrowsAgree", fn := fun _ => fun
  | [d1, d2] => { results := [.lit (.bool false)], args := [d1, d2] }
  | _ => none }
def FnArrowsAgreeWrongFalsely : Prop := fnArrowsAgreeRow.holds Try.pinned (OpenSpec.ofChange fnArrowsAgreeWrong)

/- THE SECOND FORM. 'bulk': how many values and letters a reading holds, each counted each time it is reached (what is shared counts as often as it is met; a slice's spare places count too). A statement '..UptoSaid' is the law's where the arguments, and the package variables that the reading takes, are together of bulk at most 1048576: NARROWER than '..Said'. Prove '..Said' where nothing that the law and all that it calls make is longer than what came in: it says more and counts as full. Else prove '..UptoSaid'. A law counts once. -/
mutual
def uptoBulk {H : Type} : DataW H → Nat
  | .lit (.string bytes) => bytes.length + 1
  | .lit _ => 1
  | .nil => 1
  | .ptr d => uptoBulk d + 1
  | .slice elems spare => uptoBulkAll elems + uptoBulkAll spare + 1
  | .agg parts => uptoBulkAll parts + 1
  | .iface _ d => uptoBulk d + 1
  | .map entries => uptoBulkEntries entries + 1
  | .held _ => 1
def uptoBulkAll {H : Type} : List (DataW H) → Nat
  | [] => 0
  | d :: r => uptoBulk d + uptoBulkAll r
def uptoBulkEntries {H : Type} : List (Lit × DataW H) → Nat
  | [] => 0
  | x :: r => uptoBulkEntry x + uptoBulkEntries r
def uptoBulkEntry {H : Type} : Lit × DataW H → Nat
  | (.string bytes, d) => bytes.length + uptoBulk d + 1
  | (_, d) => uptoBulk d + 1
 end
def uptoSmall : (H : Type) → List (DataW H) → Bool := fun _ ds => decide (uptoBulkAll ds ≤ 1048576)
def OpenSpec.upto (s : _root_.Go.ChangeSpec) : _root_.Go.OpenSpec := { _root_.Go.OpenSpec.ofChange s with cond := some uptoSmall }

/-- 'laws.FnExactAgreeOnce', WHERE WHAT IT READS IS OF BULK AT MOST 1048576: true; the input reads as it did. -/
def fnExactAgreeOnceUptoRow : OpenClaim := { program := "ytdnnpdmeklpcoaa", sum := "ca93edec559786e105e2a6c48bf3200052d65a2bb97a9b1ea20db6234a7ebbe4", func := "loop.example/g01365/laws.FnExactAgreeOnce", spec := "fnExactAgreeOnce", inPlace := ["math.Float32frombits", "math.Float64frombits", "math.Float64bits"], unfollowed := true, recurses := true, apart := false, narrowed := true }
def FnExactAgreeOnceUptoSaid : Prop := fnExactAgreeOnceUptoRow.holds Try.pinned (OpenSpec.upto fnExactAgreeOnceSpec)

/-- 'laws.FnExactArrowsOf', WHERE WHAT IT READS IS OF BULK AT MOST 1048576: true; the input reads as it did. -/
def fnExactArrowsOfUptoRow : OpenClaim := { program := "ytdnnpdmeklpcoaa", sum := "ca93edec559786e105e2a6c48bf3200052d65a2bb97a9b1ea20db6234a7ebbe4", func := "loop.example/g01365/laws.FnExactArrowsOf", spec := "fnExactArrowsOf", inPlace := ["math.Float32frombits", "math.Float64frombits", "math.Float64bits"], apart := false, narrowed := true }
def FnExactArrowsOfUptoSaid : Prop := fnExactArrowsOfUptoRow.holds Try.pinned (OpenSpec.upto fnExactArrowsOfSpec)

/-- 'laws.FnExactAgreeRounds', WHERE WHAT IT READS IS OF BULK AT MOST 1048576: true; the input reads as it did. -/
def fnExactAgreeRoundsUptoRow : OpenClaim := { program := "ytdnnpdmeklpcoaa", sum := "ca93edec559786e105e2a6c48bf3200052d65a2bb97a9b1ea20db6234a7ebbe4", func := "loop.example/g01365/laws.FnExactAgreeRounds", spec := "fnExactAgreeRounds", inPlace := ["math.Float32frombits", "math.Float64frombits", "math.Float64bits"], unfollowed := true, recurses := true, apart := false, narrowed := true }
def FnExactAgreeRoundsUptoSaid : Prop := fnExactAgreeRoundsUptoRow.holds Try.pinned (OpenSpec.upto fnExactAgreeRoundsSpec)

/-- 'laws.FnArrowsAgree', WHERE WHAT IT READS IS OF BULK AT MOST 1048576: true; the input reads as it did. -/
def fnArrowsAgreeUptoRow : OpenClaim := { program := "ytdnnpdmeklpcoaa", sum := "ca93edec559786e105e2a6c48bf3200052d65a2bb97a9b1ea20db6234a7ebbe4", func := "loop.example/g01365/laws.FnArrowsAgree", spec := "fnArrowsAgree", inPlace := ["math.Float64frombits", "math.Float64bits", "math.sqrt"], unfollowed := true, recurses := true, apart := false, narrowed := true }
def FnArrowsAgreeUptoSaid : Prop := fnArrowsAgreeUptoRow.holds Try.pinned (OpenSpec.upto fnArrowsAgreeSpec)

end Rows
end Go.Proofs.Ytdnnpdmeklpcoaa
