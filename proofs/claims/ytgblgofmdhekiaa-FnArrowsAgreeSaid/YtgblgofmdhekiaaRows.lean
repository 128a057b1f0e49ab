/-
  No cell of these rows narrows 'for every input' (looked for: loops, veiled, ifaces, maps, wideKeys, modest, calm, conditions, laid).
  DERIVED. THE GIVEN ROWS OF THIS SEAT. 4 by the template 'for every input the law returns true; each argument reads behind the call as it read before'; 0 by the template 'total and deterministic' (their statements: YtgblgofmdhekiaaTotals.lean).
  GIVEN WITH THE SEED: the statements are not yours to turn. If you find one false, say at which input.
  Laid BY PROGRAM, IN A SANDBOX (cutbox-rows.mjs): the forced cells as the released guide's own fill.sh prints them over the translation 8c55c0bf918c92f3… (all of the seat's roots in one cut). By AI agents, Wed Nov 11 2026. No macro, syntax, notation, axiom, sorry.
-/
import Derived.Test.YtgblgofmdhekiaaChecked
import GoSem.Claim
import GoSem.ClaimJoined
import GoSem.ClaimMapViews
import Derived.JoinedTies
import Derived.KernelRfl
namespace Go.Proofs.Ytgblgofmdhekiaa
/- THE CELL 'sum', in the pinned program and in every row, IS THE sha256 OF THE DUMP (.gsa) THAT YtgblgofmdhekiaaProg.lean LOADS. Nothing in Lean hashes anything: it is a label: what it is worth is what the hold of that sum in a sandbox is worth. -/
noncomputable def Try.pinned : Pinned := { name := "ytgblgofmdhekiaa", sum := "8c55c0bf918c92f314dc070837af5811003a70e6b675e3a0817962100fa73a47", checked := Try.checked }
namespace Rows
def none {H : Type} : Left H := { results := [], args := [] }

/-- 'laws.FnMachinesPlay': WHATEVER THE INPUT: true; the input reads as it did. -/
def fnMachinesPlaySpec : ChangeSpec := { name := "fnMachinesPlay", fn := fun _ => fun
  | [d1, d2] => { results := [.lit (.bool true)], args := [d1, d2] }
  | _ => none }
def fnMachinesPlayRow : OpenClaim := { program := "ytgblgofmdhekiaa", sum := "8c55c0bf918c92f314dc070837af5811003a70e6b675e3a0817962100fa73a47", func := "loop.example/g01365/laws.FnMachinesPlay", spec := "fnMachinesPlay", plainKeys := false, apart := false }
def FnMachinesPlaySaid : Prop := fnMachinesPlayRow.holds Try.pinned (OpenSpec.ofChange fnMachinesPlaySpec)

/-- ITS FALSE NEIGHBOUR: 'it returns false'. Refute it at one input. -/
def fnMachinesPlayWrong : ChangeSpec := { name := "fnMachinesPlay", fn := fun _ => fun
  | [d1, d2] => { results := [.lit (.bool false)], args := [d1, d2] }
  | _ => none }
def FnMachinesPlayWrongFalsely : Prop := fnMachinesPlayRow.holds Try.pinned (OpenSpec.ofChange fnMachinesPlayWrong)

/-- 'laws.FnMixtures': WHATEVER THE INPUT: true; the input reads as it did. -/
def fnMixturesSpec : ChangeSpec := { name := "fnMixtures", fn := fun _ => fun
  | [d1, d2] => { results := [.lit (.bool true)], args := [d1, d2] }
  | _ => none }
def fnMixturesRow : OpenClaim := { program := "ytgblgofmdhekiaa", sum := "8c55c0bf918c92f314dc070837af5811003a70e6b675e3a0817962100fa73a47", func := "loop.example/g01365/laws.FnMixtures", spec := "fnMixtures", unfollowed := true, recurses := true, plainKeys := false, apart := false }
def FnMixturesSaid : Prop := fnMixturesRow.holds Try.pinned (OpenSpec.ofChange fnMixturesSpec)

/-- ITS FALSE NEIGHBOUR: 'it returns false'. Refute it at one input. -/
def fnMixturesWrong : ChangeSpec := { name := "fnMixtures", fn := fun _ => fun
  | [d1, d2] => { results := [.lit (.bool false)], args := [d1, d2] }
  | _ => none }
def FnMixturesWrongFalsely : Prop := fnMixturesRow.holds Try.pinned (OpenSpec.ofChange fnMixturesWrong)

/-- 'laws.FnFlowing': WHATEVER THE INPUT: true; the input reads as it did. -/
def fnFlowingSpec : ChangeSpec := { name := "fnFlowing", fn := fun _ => fun
  | [d1, d2] => { results := [.lit (.bool true)], args := [d1, d2] }
  | _ => none }
def fnFlowingRow : OpenClaim := { program := "ytgblgofmdhekiaa", sum := "8c55c0bf918c92f314dc070837af5811003a70e6b675e3a0817962100fa73a47", func := "loop.example/g01365/laws.FnFlowing", spec := "fnFlowing", unfollowed := true, recurses := true, plainKeys := false, apart := false }
def FnFlowingSaid : Prop := fnFlowingRow.holds Try.pinned (OpenSpec.ofChange fnFlowingSpec)

/-- ITS FALSE NEIGHBOUR: 'it returns false'. Refute it at one input. -/
def fnFlowingWrong : ChangeSpec := { name := "fnFlowing", fn := fun _ => fun
  | [d1, d2] => { results := [.lit (.bool false)], args := [d1, d2] }
  | _ => none }
def FnFlowingWrongFalsely : Prop := fnFlowingRow.holds Try.pinned (OpenSpec.ofChange fnFlowingWrong)

/-- 'laws.FnArrowsAgree': WHATEVER THE INPUT: true; the input reads as it did. -/
def fnArrowsAgreeSpec : ChangeSpec := { name := "fnArrowsAgree", fn := fun _ => fun
  | [d1, d2] => { results := [.lit (.bool true)], args := [d1, d2] }
  | _ => none }
def fnArrowsAgreeRow : OpenClaim := { program := "ytgblgofmdhekiaa", sum := "8c55c0bf918c92f314dc070837af5811003a70e6b675e3a0817962100fa73a47", func := "loop.example/g01365/laws.FnArrowsAgree", spec := "fnArrowsAgree", inPlace := ["math.Float64frombits", "math.Float64bits", "math.sqrt"], unfollowed := true, recurses := true, plainKeys := false, apart := false }
def FnArrowsAgreeSaid : Prop := fnArrowsAgreeRow.holds Try.pinned (OpenSpec.ofChange fnArrowsAgreeSpec)

/-- ITS FALSE NEIGHBOUR: 'it returns false'. Refute it at one input. -/
def fnArrowsAgreeWrong : ChangeSpec := { name := "fnArrowsAgree", fn := fun _ => fun
  | [d1, d2] => { results := [.lit (.bool false)], args := [d1, d2] }
  | _ => none }
def FnArrowsAgreeWrongFalsely : Prop := fnArrowsAgreeRow.holds Try.pinned (OpenSpec.ofChange fnArrowsAgreeWrong)

/- THE SECOND FORM. 'bulk': how many values and letters a reading holds, each counted each time it is reached (what is shared counts as often as it is met; a slice's spare places count too). A statement '..UptoSaid' is the law's where the arguments, and the package variables that the reading takes, are together of bulk at most 1048576: NARROWER than '..Said'. Prove '..Said' where nothing that the law and all that it calls make is longer than what came in: it says more and counts as full. Else prove '..UptoSaid'. A law counts once. -/
mutual
def uptoBulk {H : Type} : DataW H → Nat
  | .lit (.string bytes) => bytes.length + 1
  | .lit _ => 1
  | .nil => 1
  | .ptr d => uptoBulk d + 1
  | .slice elems spare => uptoBulkAll elems + uptoBulkAll spare + 1
  | .agg parts => uptoBulkAll parts + 1
  | .iface _ d => uptoBulk d + 1
  | .map entries => uptoBulkEntries entries + 1
  | .held _ => 1
def uptoBulkAll {H : Type} : List (DataW H) → Nat
  | [] => 0
  | d :: r => uptoBulk d + uptoBulkAll r
def uptoBulkEntries {H : Type} : List (Lit × DataW H) → Nat
  | [] => 0
  | x :: r => uptoBulkEntry x + uptoBulkEntries r
def uptoBulkEntry {H : Type} : Lit × DataW H → Nat
  | (.string bytes, d) => bytes.length + uptoBulk d + 1
  | (_, d) => uptoBulk d + 1
 end
def uptoSmall : (H : Type) → List (DataW H) → Bool := fun _ ds => decide (uptoBulkAll ds ≤ 1048576)
def OpenSpec.upto (s : _root_.Go.ChangeSpec) : _root_.Go.OpenSpec := { _root_.Go.OpenSpec.ofChange s with cond := some uptoSmall }

/-- 'laws.FnMachinesPlay', WHERE WHAT IT READS IS OF BULK AT MOST 1048576: true; the input reads as it did. -/
def fnMachinesPlayUptoRow : OpenClaim := { program := "ytgblgofmdhekiaa", sum := "8c55c0bf918c92f314dc070837af5811003a70e6b675e3a0817962100fa73a47", func := "loop.example/g01365/laws.FnMachinesPlay", spec := "fnMachinesPlay", plainKeys := false, apart := false, narrowed := true }
def FnMachinesPlayUptoSaid : Prop := fnMachinesPlayUptoRow.holds Try.pinned (OpenSpec.upto fnMachinesPlaySpec)

/-- 'laws.FnMixtures', WHERE WHAT IT READS IS OF BULK AT MOST 1048576: true; the input reads as it did. -/
def fnMixturesUptoRow : OpenClaim := { program := "ytgblgofmdhekiaa", sum := "8c55c0bf918c92f314dc070837af5811003a70e6b675e3a0817962100fa73a47", func := "loop.example/g01365/laws.FnMixtures", spec := "fnMixtures", unfollowed := true, recurses := true, plainKeys := false, apart := false, narrowed := true }
def FnMixturesUptoSaid : Prop := fnMixturesUptoRow.holds Try.pinned (OpenSpec.upto fnMixturesSpec)

/-- 'laws.FnFlowing', WHERE WHAT IT READS IS OF BULK AT MOST 1048576: true; the input reads as it did. -/
def fnFlowingUptoRow : OpenClaim := { program := "ytgblgofmdhekiaa", sum := "8c55c0bf918c92f314dc070837af5811003a70e6b675e3a0817962100fa73a47", func := "loop.example/g01365/laws.FnFlowing", spec := "fnFlowing", unfollowed := true, recurses := true, plainKeys := false, apart := false, narrowed := true }
def FnFlowingUptoSaid : Prop := fnFlowingUptoRow.holds Try.pinned (OpenSpec.upto fnFlowingSpec)

/-- 'laws.FnArrowsAgree', WHERE WHAT IT READS IS OF BULK AT MOST 1048576: true; the input reads as it did. -/
def fnArrowsAgreeUptoRow : OpenClaim := { program := "ytgblgofmdhekiaa", sum := "8c55c0bf918c92f314dc070837af5811003a70e6b675e3a0817962100fa73a47", func := "loop.example/g01365/laws.FnArrowsAgree", spec := "fnArrowsAgree", inPlace := ["math.Float64frombits", "math.Float64bits", "math.sqrt"], unfollowed := true, recurses := true, plainKeys := false, apart := false, narrowed := true }
def FnArrowsAgreeUptoSaid : Prop := fnArrowsAgreeUptoRow.holds Try.pinned (OpenSpec.upto fnArrowsAgreeSpec)

end Rows
end Go.Proofs.Ytgblgofmdhekiaa
