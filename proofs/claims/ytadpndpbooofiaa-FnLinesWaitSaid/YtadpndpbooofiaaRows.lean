/-
  No cell of these rows narrows 'for every input' (looked for: loops, veiled, ifaces, maps, wideKeys, modest, calm, conditions, laid).
  DERIVED. THE GIVEN ROWS OF THIS SEAT. 4 by the template 'for every input the law returns true; each argument reads behind the call as it read before'; 0 by the template 'total and deterministic' (their statements: YtadpndpbooofiaaTotals.lean).
  GIVEN WITH THE SEED: the statements are not yours to turn. If you find one false, say at which input.
  Laid BY PROGRAM, IN A SANDBOX (cutbox-rows.mjs): the forced cells as the released guide's own fill.sh prints them over the translation 27af4627fa16d9c2… (all of the seat's roots in one cut). By AI agents, Wed Nov 11 2026. No macro, syntax, notation, axiom, sorry.
-/
import Derived.Test.YtadpndpbooofiaaChecked
import GoSem.Claim
import GoSem.ClaimJoined
import GoSem.ClaimMapViews
import Derived.JoinedTies
import Derived.KernelRfl
namespace Go.Proofs.Ytadpndpbooofiaa
/- THE CELL 'sum', in the pinned program and in every row, IS THE sha256 OF THE DUMP (.gsa) THAT YtadpndpbooofiaaProg.lean LOADS. Nothing in Lean hashes anything: it is a label: what it is worth is what the hold of that sum in a sandbox is worth. -/
noncomputable def Try.pinned : Pinned := { name := "ytadpndpbooofiaa", sum := "27af4627fa16d9c264acf32defd129e53c2227d8cd91852cd34339ed9b310bba", checked := Try.checked }
namespace Rows
def none {H : Type} : Left H := { results := [], args := [] }

/-- 'laws.FnExactRimOf': WHATEVER THE INPUT: true; the input reads as it did. -/
def fnExactRimOfSpec : ChangeSpec := { name := "fnExactRimOf", fn := fun _ => fun
  | [d] => { results := [.lit (.bool true)], args := [d] }
  | _ => none }
def fnExactRimOfRow : OpenClaim := { program := "ytadpndpbooofiaa", sum := "27af4627fa16d9c264acf32defd129e53c2227d8cd91852cd34339ed9b310bba", func := "loop.example/g01365/laws.FnExactRimOf", spec := "fnExactRimOf", unfollowed := true, recurses := true, apart := false }
def FnExactRimOfSaid : Prop := fnExactRimOfRow.holds Try.pinned (OpenSpec.ofChange fnExactRimOfSpec)

/-- ITS FALSE NEIGHBOUR: 'it returns false'. Refute it at one input. -/
def fnExactRimOfWrong : ChangeSpec := { name := "fnExactRimOf", fn := fun _ => fun
  | [d] => { results := [.lit (.bool false)], args := [d] }
  | _ => none }
def FnExactRimOfWrongFalsely : Prop := fnExactRimOfRow.holds Try.pinned (OpenSpec.ofChange fnExactRimOfWrong)

/-- 'laws.FnExactMixedPoint': WHATEVER THE INPUT: true; the input reads as it did. -/
def fnExactMixedPointSpec : ChangeSpec := { name := "fnExactMixedPoint", fn := fun _ => fun
  | [d1, d2, d3] => { results := [.lit (.bool true)], args := [d1, d2, d3] }
  | _ => none }
def fnExactMixedPointRow : OpenClaim := { program := "ytadpndpbooofiaa", sum := "27af4627fa16d9c264acf32defd129e53c2227d8cd91852cd34339ed9b310bba", func := "loop.example/g01365/laws.FnExactMixedPoint", spec := "fnExactMixedPoint", apart := false }
def FnExactMixedPointSaid : Prop := fnExactMixedPointRow.holds Try.pinned (OpenSpec.ofChange fnExactMixedPointSpec)

/-- ITS FALSE NEIGHBOUR: 'it returns false'. Refute it at one input. -/
def fnExactMixedPointWrong : ChangeSpec := { name := "fnExactMixedPoint", fn := fun _ => fun
  | [d1, d2, d3] => { results := [.lit (.bool false)], args := [d1, d2, d3] }
  | _ => none }
def FnExactMixedPointWrongFalsely : Prop := fnExactMixedPointRow.holds Try.pinned (OpenSpec.ofChange fnExactMixedPointWrong)

/-- 'laws.FnExactShortestFirst': WHATEVER THE INPUT: true; the input reads as it did. -/
def fnExactShortestFirstSpec : ChangeSpec := { name := "fnExactShortestFirst", fn := fun _ => fun
  | [d] => { results := [.lit (.bool true)], args := [d] }
  | _ => none }
def fnExactShortestFirstRow : OpenClaim := { program := "ytadpndpbooofiaa", sum := "27af4627fa16d9c264acf32defd129e53c2227d8cd91852cd34339ed9b310bba", func := "loop.example/g01365/laws.FnExactShortestFirst", spec := "fnExactShortestFirst", unfollowed := true, recurses := true, apart := false }
def FnExactShortestFirstSaid : Prop := fnExactShortestFirstRow.holds Try.pinned (OpenSpec.ofChange fnExactShortestFirstSpec)

/-- ITS FALSE NEIGHBOUR: 'it returns false'. Refute it at one input. -/
def fnExactShortestFirstWrong : ChangeSpec := { name := "fnExactShortestFirst", fn := fun _ => fun
  | [d] => { results := [.lit (.bool false)], args := [d] }
  | _ => none }
def FnExactShortestFirstWrongFalsely : Prop := fnExactShortestFirstRow.holds Try.pinned (OpenSpec.ofChange fnExactShortestFirstWrong)

/-- 'laws.FnLinesWait': WHATEVER THE INPUT: true; the input reads as it did. -/
def fnLinesWaitSpec : ChangeSpec := { name := "fnLinesWait", fn := fun _ => fun
  | [d1, d2] => { results := [.lit (.bool true)], args := [d1, d2] }
  | _ => none }
def fnLinesWaitRow : OpenClaim := { program := "ytadpndpbooofiaa", sum := "27af4627fa16d9c264acf32defd129e53c2227d8cd91852cd34339ed9b310bba", func := "loop.example/g01365/laws.FnLinesWait", spec := "fnLinesWait", unfollowed := true, recurses := true, apart := false }
def FnLinesWaitSaid : Prop := fnLinesWaitRow.holds Try.pinned (OpenSpec.ofChange fnLinesWaitSpec)

/-- ITS FALSE NEIGHBOUR: 'it returns false'. Refute it at one input. -/
def fnLinesWaitWrong : ChangeSpec := { name := "fnLinesWait", fn := fun _ => fun
  | [d1, d2] => { results := [.lit (.bool false)], args := [d1, d2] }
  | _ => none }
def FnLinesWaitWrongFalsely : Prop := fnLinesWaitRow.holds Try.pinned (OpenSpec.ofChange fnLinesWaitWrong)

/- THE SECOND FORM. 'bulk': how many values and letters a reading holds, each counted each time it is reached (what is shared counts as often as it is met; a slice's spare places count too). A statement '..UptoSaid' is the law's where the arguments, and the package variables that the reading takes, are together of bulk at most 1048576: NARROWER than '..Said'. Prove '..Said' where nothing that the law and all that it calls make is longer than what came in: it says more and counts as full. Else prove '..UptoSaid'. A law counts once. -/
mutual
def uptoBulk {H : Type} : DataW H → Nat
  | .lit (.string bytes) => bytes.length + 1
  | .lit _ => 1
  | .nil => 1
  | .ptr d => uptoBulk d + 1
  | .slice elems spare => uptoBulkAll elems + uptoBulkAll spare + 1
  | .agg parts => uptoBulkAll parts + 1
  | .iface _ d => uptoBulk d + 1
  | .map entries => uptoBulkEntries entries + 1
  | .held _ => 1
def uptoBulkAll {H : Type} : List (DataW H) → Nat
  | [] => 0
  | d :: r => uptoBulk d + uptoBulkAll r
def uptoBulkEntries {H : Type} : List (Lit × DataW H) → Nat
  | [] => 0
  | x :: r => uptoBulkEntry x + uptoBulkEntries r
def uptoBulkEntry {H : Type} : Lit × DataW H → Nat
  | (.string bytes, d) => bytes.length + uptoBulk d + 1
  | (_, d) => uptoBulk d + 1
 end
def uptoSmall : (H : Type) → List (DataW H) → Bool := fun _ ds => decide (uptoBulkAll ds ≤ 1048576)
def OpenSpec.upto (s : _root_.Go.ChangeSpec) : _root_.Go.OpenSpec := { _root_.Go.OpenSpec.ofChange s with cond := some uptoSmall }

/-- 'laws.FnExactRimOf', WHERE WHAT IT READS IS OF BULK AT MOST 1048576: true; the input reads as it did. -/
def fnExactRimOfUptoRow : OpenClaim := { program := "ytadpndpbooofiaa", sum := "27af4627fa16d9c264acf32defd129e53c2227d8cd91852cd34339ed9b310bba", func := "loop.example/g01365/laws.FnExactRimOf", spec := "fnExactRimOf", unfollowed := true, recurses := true, apart := false, narrowed := true }
def FnExactRimOfUptoSaid : Prop := fnExactRimOfUptoRow.holds Try.pinned (OpenSpec.upto fnExactRimOfSpec)

/-- 'laws.FnExactMixedPoint', WHERE WHAT IT READS IS OF BULK AT MOST 1048576: true; the input reads as it did. -/
def fnExactMixedPointUptoRow : OpenClaim := { program := "ytadpndpbooofiaa", sum := "27af4627fa16d9c264acf32defd129e53c2227d8cd91852cd34339ed9b310bba", func := "loop.example/g01365/laws.FnExactMixedPoint", spec := "fnExactMixedPoint", apart := false, narrowed := true }
def FnExactMixedPointUptoSaid : Prop := fnExactMixedPointUptoRow.holds Try.pinned (OpenSpec.upto fnExactMixedPointSpec)

/-- 'laws.FnExactShortestFirst', WHERE WHAT IT READS IS OF BULK AT MOST 1048576: true; the input reads as it did. -/
def fnExactShortestFirstUptoRow : OpenClaim := { program := "ytadpndpbooofiaa", sum := "27af4627fa16d9c264acf32defd129e53c2227d8cd91852cd34339ed9b310bba", func := "loop.example/g01365/laws.FnExactShortestFirst", spec := "fnExactShortestFirst", unfollowed := true, recurses := true, apart := false, narrowed := true }
def FnExactShortestFirstUptoSaid : Prop := fnExactShortestFirstUptoRow.holds Try.pinned (OpenSpec.upto fnExactShortestFirstSpec)

/-- 'laws.FnLinesWait', WHERE WHAT IT READS IS OF BULK AT MOST 1048576: true; the input reads as it did. -/
def fnLinesWaitUptoRow : OpenClaim := { program := "ytadpndpbooofiaa", sum := "27af4627fa16d9c264acf32defd129e53c2227d8cd91852cd34339ed9b310bba", func := "loop.example/g01365/laws.FnLinesWait", spec := "fnLinesWait", unfollowed := true, recurses := true, apart := false, narrowed := true }
def FnLinesWaitUptoSaid : Prop := fnLinesWaitUptoRow.holds Try.pinned (OpenSpec.upto fnLinesWaitSpec)

end Rows
end Go.Proofs.Ytadpndpbooofiaa
