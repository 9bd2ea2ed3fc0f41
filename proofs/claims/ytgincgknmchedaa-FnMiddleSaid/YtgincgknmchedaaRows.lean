/-
  No cell of these rows narrows 'for every input' (looked for: loops, veiled, ifaces, maps, wideKeys, modest, calm, conditions, laid).
  DERIVED. THE GIVEN ROWS OF THIS SEAT. 6 by the template 'for every input the law returns true; each argument reads behind the call as it read before'; 0 by the template 'total and deterministic' (their statements: YtgincgknmchedaaTotals.lean).
  GIVEN WITH THE SEED: the statements are not yours to turn. If you find one false, say at which input.
  Laid BY PROGRAM, IN A SANDBOX (cutbox-rows.mjs): the forced cells as the released guide's own fill.sh prints them over the translation a8565886ae7fcf6b… (all of the seat's roots in one cut). By AI agents, Wed Nov 11 2026. No macro, syntax, notation, axiom, sorry.
-/
import Derived.Test.YtgincgknmchedaaChecked
import GoSem.Claim
import GoSem.ClaimJoined
import GoSem.ClaimMapViews
import Derived.JoinedTies
import Derived.KernelRfl
namespace Go.Proofs.Ytgincgknmchedaa
/- THE CELL 'sum', in the pinned program and in every row, IS THE sha256 OF THE DUMP (.gsa) THAT YtgincgknmchedaaProg.lean LOADS. Nothing in Lean hashes anything: it is a label: what it is worth is what the hold of that sum in a sandbox is worth. -/
noncomputable def Try.pinned : Pinned := { name := "ytgincgknmchedaa", sum := "a8565886ae7fcf6bb19f729880b3980f83607dc055c19362a62aa941c2889a3c", checked := Try.checked }
namespace Rows
def none {H : Type} : Left H := { results := [], args := [] }

/-- 'laws.FnExactMiddle': WHATEVER THE INPUT: true; the input reads as it did. -/
def fnExactMiddleSpec : ChangeSpec := { name := "fnExactMiddle", fn := fun _ => fun
  | [d1, d2] => { results := [.lit (.bool true)], args := [d1, d2] }
  | _ => none }
def fnExactMiddleRow : OpenClaim := { program := "ytgincgknmchedaa", sum := "a8565886ae7fcf6bb19f729880b3980f83607dc055c19362a62aa941c2889a3c", func := "loop.example/g00043/laws.FnExactMiddle", spec := "fnExactMiddle", recurses := true, apart := false }
def FnExactMiddleSaid : Prop := fnExactMiddleRow.holds Try.pinned (OpenSpec.ofChange fnExactMiddleSpec)

/-- ITS FALSE NEIGHBOUR: 'it returns false'. Refute it at one input. -/
def fnExactMiddleWrong : ChangeSpec := { name := "fnExactMiddle", fn := fun _ => fun
  | [d1, d2] => { results := [.lit (.bool false)], args := [d1, d2] }
  | _ => none }
def FnExactMiddleWrongFalsely : Prop := fnExactMiddleRow.holds Try.pinned (OpenSpec.ofChange fnExactMiddleWrong)

/-- 'laws.FnMiddle': WHATEVER THE INPUT: true; the input reads as it did. -/
def fnMiddleSpec : ChangeSpec := { name := "fnMiddle", fn := fun _ => fun
  | [d] => { results := [.lit (.bool true)], args := [d] }
  | _ => none }
def fnMiddleRow : OpenClaim := { program := "ytgincgknmchedaa", sum := "a8565886ae7fcf6bb19f729880b3980f83607dc055c19362a62aa941c2889a3c", func := "loop.example/g00043/laws.FnMiddle", spec := "fnMiddle", recurses := true, apart := false }
def FnMiddleSaid : Prop := fnMiddleRow.holds Try.pinned (OpenSpec.ofChange fnMiddleSpec)

/-- ITS FALSE NEIGHBOUR: 'it returns false'. Refute it at one input. -/
def fnMiddleWrong : ChangeSpec := { name := "fnMiddle", fn := fun _ => fun
  | [d] => { results := [.lit (.bool false)], args := [d] }
  | _ => none }
def FnMiddleWrongFalsely : Prop := fnMiddleRow.holds Try.pinned (OpenSpec.ofChange fnMiddleWrong)

/-- 'laws.FnExactIir': WHATEVER THE INPUT: true; the input reads as it did. -/
def fnExactIirSpec : ChangeSpec := { name := "fnExactIir", fn := fun _ => fun
  | [d1, d2, d3] => { results := [.lit (.bool true)], args := [d1, d2, d3] }
  | _ => none }
def fnExactIirRow : OpenClaim := { program := "ytgincgknmchedaa", sum := "a8565886ae7fcf6bb19f729880b3980f83607dc055c19362a62aa941c2889a3c", func := "loop.example/g00043/laws.FnExactIir", spec := "fnExactIir", apart := false }
def FnExactIirSaid : Prop := fnExactIirRow.holds Try.pinned (OpenSpec.ofChange fnExactIirSpec)

/-- ITS FALSE NEIGHBOUR: 'it returns false'. Refute it at one input. -/
def fnExactIirWrong : ChangeSpec := { name := "fnExactIir", fn := fun _ => fun
  | [d1, d2, d3] => { results := [.lit (.bool false)], args := [d1, d2, d3] }
  | _ => none }
def FnExactIirWrongFalsely : Prop := fnExactIirRow.holds Try.pinned (OpenSpec.ofChange fnExactIirWrong)

/-- 'laws.FnExactAdapt': WHATEVER THE INPUT: true; the input reads as it did. -/
def fnExactAdaptSpec : ChangeSpec := { name := "fnExactAdapt", fn := fun _ => fun
  | [d1, d2, d3, d4] => { results := [.lit (.bool true)], args := [d1, d2, d3, d4] }
  | _ => none }
def fnExactAdaptRow : OpenClaim := { program := "ytgincgknmchedaa", sum := "a8565886ae7fcf6bb19f729880b3980f83607dc055c19362a62aa941c2889a3c", func := "loop.example/g00043/laws.FnExactAdapt", spec := "fnExactAdapt", apart := false }
def FnExactAdaptSaid : Prop := fnExactAdaptRow.holds Try.pinned (OpenSpec.ofChange fnExactAdaptSpec)

/-- ITS FALSE NEIGHBOUR: 'it returns false'. Refute it at one input. -/
def fnExactAdaptWrong : ChangeSpec := { name := "fnExactAdapt", fn := fun _ => fun
  | [d1, d2, d3, d4] => { results := [.lit (.bool false)], args := [d1, d2, d3, d4] }
  | _ => none }
def FnExactAdaptWrongFalsely : Prop := fnExactAdaptRow.holds Try.pinned (OpenSpec.ofChange fnExactAdaptWrong)

/-- 'laws.FnIirPieces': WHATEVER THE INPUT: true; the input reads as it did. -/
def fnIirPiecesSpec : ChangeSpec := { name := "fnIirPieces", fn := fun _ => fun
  | [d] => { results := [.lit (.bool true)], args := [d] }
  | _ => none }
def fnIirPiecesRow : OpenClaim := { program := "ytgincgknmchedaa", sum := "a8565886ae7fcf6bb19f729880b3980f83607dc055c19362a62aa941c2889a3c", func := "loop.example/g00043/laws.FnIirPieces", spec := "fnIirPieces", apart := false }
def FnIirPiecesSaid : Prop := fnIirPiecesRow.holds Try.pinned (OpenSpec.ofChange fnIirPiecesSpec)

/-- ITS FALSE NEIGHBOUR: 'it returns false'. Refute it at one input. -/
def fnIirPiecesWrong : ChangeSpec := { name := "fnIirPieces", fn := fun _ => fun
  | [d] => { results := [.lit (.bool false)], args := [d] }
  | _ => none }
def FnIirPiecesWrongFalsely : Prop := fnIirPiecesRow.holds Try.pinned (OpenSpec.ofChange fnIirPiecesWrong)

/-- 'laws.FnAdapted': WHATEVER THE INPUT: true; the input reads as it did. -/
def fnAdaptedSpec : ChangeSpec := { name := "fnAdapted", fn := fun _ => fun
  | [d] => { results := [.lit (.bool true)], args := [d] }
  | _ => none }
def fnAdaptedRow : OpenClaim := { program := "ytgincgknmchedaa", sum := "a8565886ae7fcf6bb19f729880b3980f83607dc055c19362a62aa941c2889a3c", func := "loop.example/g00043/laws.FnAdapted", spec := "fnAdapted", apart := false }
def FnAdaptedSaid : Prop := fnAdaptedRow.holds Try.pinned (OpenSpec.ofChange fnAdaptedSpec)

/-- ITS FALSE NEIGHBOUR: 'it returns false'. Refute it at one input. -/
def fnAdaptedWrong : ChangeSpec := { name := "fnAdapted", fn := fun _ => fun
  | [d] => { results := [.lit (.bool false)], args := [d] }
  | _ => none }
def FnAdaptedWrongFalsely : Prop := fnAdaptedRow.holds Try.pinned (OpenSpec.ofChange fnAdaptedWrong)

/- THE SECOND FORM. 'bulk': how many values and letters a reading holds, each counted each time it is reached (what is shared counts as often as it is met; a slice's spare places count too). A statement '..UptoSaid' is the law's where the arguments, and the package variables that the reading takes, are together of bulk at most 1048576: NARROWER than '..Said'. Prove '..Said' where nothing that the law and all that it calls make is longer than what came in: it says more and counts as full. Else prove '..UptoSaid'. A law counts once. -/
mutual
def uptoBulk {H : Type} : DataW H → Nat
  | .lit (.string bytes) => bytes.length + 1
  | .lit _ => 1
  | .nil => 1
  | .ptr d => uptoBulk d + 1
  | .slice elems spare => uptoBulkAll elems + uptoBulkAll spare + 1
  | .agg parts => uptoBulkAll parts + 1
  | .iface _ d => uptoBulk d + 1
  | .map entries => uptoBulkEntries entries + 1
  | .held _ => 1
def uptoBulkAll {H : Type} : List (DataW H) → Nat
  | [] => 0
  | d :: r => uptoBulk d + uptoBulkAll r
def uptoBulkEntries {H : Type} : List (Lit × DataW H) → Nat
  | [] => 0
  | x :: r => uptoBulkEntry x + uptoBulkEntries r
def uptoBulkEntry {H : Type} : Lit × DataW H → Nat
  | (.string bytes, d) => bytes.length + uptoBulk d + 1
  | (_, d) => uptoBulk d + 1
 end
def uptoSmall : (H : Type) → List (DataW H) → Bool := fun _ ds => decide (uptoBulkAll ds ≤ 1048576)
def OpenSpec.upto (s : _root_.Go.ChangeSpec) : _root_.Go.OpenSpec := { _root_.Go.OpenSpec.ofChange s with cond := some uptoSmall }

/-- 'laws.FnExactMiddle', WHERE WHAT IT READS IS OF BULK AT MOST 1048576: true; the input reads as it did. -/
def fnExactMiddleUptoRow : OpenClaim := { program := "ytgincgknmchedaa", sum := "a8565886ae7fcf6bb19f729880b3980f83607dc055c19362a62aa941c2889a3c", func := "loop.example/g00043/laws.FnExactMiddle", spec := "fnExactMiddle", recurses := true, apart := false, narrowed := true }
def FnExactMiddleUptoSaid : Prop := fnExactMiddleUptoRow.holds Try.pinned (OpenSpec.upto fnExactMiddleSpec)

/-- 'laws.FnMiddle', WHERE WHAT IT READS IS OF BULK AT MOST 1048576: true; the input reads as it did. -/
def fnMiddleUptoRow : OpenClaim := { program := "ytgincgknmchedaa", sum := "a8565886ae7fcf6bb19f729880b3980f83607dc055c19362a62aa941c2889a3c", func := "loop.example/g00043/laws.FnMiddle", spec := "fnMiddle", recurses := true, apart := false, narrowed := true }
def FnMiddleUptoSaid : Prop := fnMiddleUptoRow.holds Try.pinned (OpenSpec.upto fnMiddleSpec)

/-- 'laws.FnExactIir', WHERE WHAT IT READS IS OF BULK AT MOST 1048576: true; the input reads as it did. -/
def fnExactIirUptoRow : OpenClaim := { program := "ytgincgknmchedaa", sum := "a8565886ae7fcf6bb19f729880b3980f83607dc055c19362a62aa941c2889a3c", func := "loop.example/g00043/laws.FnExactIir", spec := "fnExactIir", apart := false, narrowed := true }
def FnExactIirUptoSaid : Prop := fnExactIirUptoRow.holds Try.pinned (OpenSpec.upto fnExactIirSpec)

/-- 'laws.FnExactAdapt', WHERE WHAT IT READS IS OF BULK AT MOST 1048576: true; the input reads as it did. -/
def fnExactAdaptUptoRow : OpenClaim := { program := "ytgincgknmchedaa", sum := "a8565886ae7fcf6bb19f729880b3980f83607dc055c19362a62aa941c2889a3c", func := "loop.example/g00043/laws.FnExactAdapt", spec := "fnExactAdapt", apart := false, narrowed := true }
def FnExactAdaptUptoSaid : Prop := fnExactAdaptUptoRow.holds Try.pinned (OpenSpec.upto fnExactAdaptSpec)

/-- 'laws.FnIirPieces', WHERE WHAT IT READS IS OF BULK AT MOST 1048576: true; the input reads as it did. -/
def fnIirPiecesUptoRow : OpenClaim := { program := "ytgincgknmchedaa", sum := "a8565886ae7fcf6bb19f729880b3980f83607dc055c19362a62aa941c2889a3c", func := "loop.example/g00043/laws.FnIirPieces", spec := "fnIirPieces", apart := false, narrowed := true }
def FnIirPiecesUptoSaid : Prop := fnIirPiecesUptoRow.holds Try.pinned (OpenSpec.upto fnIirPiecesSpec)

/-- 'laws.FnAdapted', WHERE WHAT IT READS IS OF BULK AT MOST 1048576: true; the input reads as it did. -/
def fnAdaptedUptoRow : OpenClaim := { program := "ytgincgknmchedaa", sum := "a8565886ae7fcf6bb19f729880b3980f83607dc055c19362a62aa941c2889a3c", func := "loop.example/g00043/laws.FnAdapted", spec := "fnAdapted", apart := false, narrowed := true }
def FnAdaptedUptoSaid : Prop := fnAdaptedUptoRow.holds Try.pinned (OpenSpec.upto fnAdaptedSpec)

end Rows
end Go.Proofs.Ytgincgknmchedaa
