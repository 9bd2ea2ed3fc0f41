/-
  No cell of these rows narrows 'for every input' (looked for: loops, veiled, ifaces, maps, wideKeys, modest, calm, conditions, laid).
  DERIVED. THE GIVEN ROWS OF THIS SEAT. 3 by the template 'for every input the law returns true; each argument reads behind the call as it read before'; 0 by the template 'total and deterministic' (their statements: YtlgepbckgfcklaaTotals.lean).
  GIVEN WITH THE SEED: the statements are not yours to turn. If you find one false, say at which input.
  Laid BY PROGRAM, IN A SANDBOX (cutbox-rows.mjs): the forced cells as the released guide's own fill.sh prints them over the translation 4c8b13b95d0a8478… (all of the seat's roots in one cut). By AI agents, Wed Nov 11 2026. No macro, syntax, notation, axiom, sorry.
-/
import Derived.Test.YtlgepbckgfcklaaChecked
import GoSem.Claim
import GoSem.ClaimJoined
import GoSem.ClaimMapViews
import Derived.JoinedTies
import Derived.KernelRfl
namespace Go.Proofs.Ytlgepbckgfcklaa
/- THE CELL 'sum', in the pinned program and in every row, IS THE sha256 OF THE DUMP (.gsa) THAT YtlgepbckgfcklaaProg.lean LOADS. Nothing in Lean hashes anything: it is a label: what it is worth is what the hold of that sum in a sandbox is worth. -/
noncomputable def Try.pinned : Pinned := { name := "ytlgepbckgfcklaa", sum := "4c8b13b95d0a847888d1dcdd6fb32ef22fdf2a3beffc442e440f8b9bc664757d", checked := Try.checked }
namespace Rows
def none {H : Type} : Left H := { results := [], args := [] }

/-- 'laws.FnExactPush': WHATEVER THE INPUT: true; the input reads as it did. -/
def fnExactPushSpec : ChangeSpec := { name := "fnExactPush", fn := fun _ => fun
  | [d1, d2] => { results := [.lit (.bool true)], args := [d1, d2] }
  | _ => none }
def fnExactPushRow : OpenClaim := { program := "ytlgepbckgfcklaa", sum := "4c8b13b95d0a847888d1dcdd6fb32ef22fdf2a3beffc442e440f8b9bc664757d", func := "loop.example/g00043/laws.FnExactPush", spec := "fnExactPush", apart := false }
def FnExactPushSaid : Prop := fnExactPushRow.holds Try.pinned (OpenSpec.ofChange fnExactPushSpec)

/-- ITS FALSE NEIGHBOUR: 'it returns false'. Refute it at one input. -/
def fnExactPushWrong : ChangeSpec := { name := "fnExactPush", fn := fun _ => fun
  | [d1, d2] => { results := [.lit (.bool false)], args := [d1, d2] }
  | _ => none }
def FnExactPushWrongFalsely : Prop := fnExactPushRow.holds Try.pinned (OpenSpec.ofChange fnExactPushWrong)

/-- 'laws.FnExactIir': WHATEVER THE INPUT: true; the input reads as it did. -/
def fnExactIirSpec : ChangeSpec := { name := "fnExactIir", fn := fun _ => fun
  | [d1, d2, d3] => { results := [.lit (.bool true)], args := [d1, d2, d3] }
  | _ => none }
def fnExactIirRow : OpenClaim := { program := "ytlgepbckgfcklaa", sum := "4c8b13b95d0a847888d1dcdd6fb32ef22fdf2a3beffc442e440f8b9bc664757d", func := "loop.example/g00043/laws.FnExactIir", spec := "fnExactIir", apart := false }
def FnExactIirSaid : Prop := fnExactIirRow.holds Try.pinned (OpenSpec.ofChange fnExactIirSpec)

/-- ITS FALSE NEIGHBOUR: 'it returns false'. Refute it at one input. -/
def fnExactIirWrong : ChangeSpec := { name := "fnExactIir", fn := fun _ => fun
  | [d1, d2, d3] => { results := [.lit (.bool false)], args := [d1, d2, d3] }
  | _ => none }
def FnExactIirWrongFalsely : Prop := fnExactIirRow.holds Try.pinned (OpenSpec.ofChange fnExactIirWrong)

/-- 'laws.FnIirPieces': WHATEVER THE INPUT: true; the input reads as it did. -/
def fnIirPiecesSpec : ChangeSpec := { name := "fnIirPieces", fn := fun _ => fun
  | [d] => { results := [.lit (.bool true)], args := [d] }
  | _ => none }
def fnIirPiecesRow : OpenClaim := { program := "ytlgepbckgfcklaa", sum := "4c8b13b95d0a847888d1dcdd6fb32ef22fdf2a3beffc442e440f8b9bc664757d", func := "loop.example/g00043/laws.FnIirPieces", spec := "fnIirPieces", apart := false }
def FnIirPiecesSaid : Prop := fnIirPiecesRow.holds Try.pinned (OpenSpec.ofChange fnIirPiecesSpec)

/-- ITS FALSE NEIGHBOUR: 'it returns false'. Refute it at one input. -/
def fnIirPiecesWrong : ChangeSpec := { name := "fnIirPieces", fn := fun _ => fun
  | [d] => { results := [.lit (.bool false)], args := [d] }
  | _ => none }
def FnIirPiecesWrongFalsely : Prop := fnIirPiecesRow.holds Try.pinned (OpenSpec.ofChange fnIirPiecesWrong)

/- THE SECOND FORM. 'bulk': how many values and letters a reading holds, each counted each time it is reached (what is shared counts as often as it is met; a slice's spare places count too). A statement '..UptoSaid' is the law's where the arguments, and the package variables that the reading takes, are together of bulk at most 1048576: NARROWER than '..Said'. Prove '..Said' where nothing that the law and all that it calls make is longer than what came in: it says more and counts as full. Else prove '..UptoSaid'. A law counts once. -/
mutual
def uptoBulk {H : Type} : DataW H → Nat
  | .lit (.string bytes) => bytes.length + 1
  | .lit _ => 1
  | .nil => 1
  | .ptr d => uptoBulk d + 1
  | .slice elems spare => uptoBulkAll elems + uptoBulkAll spare + 1
  | .agg parts => uptoBulkAll parts + 1
  | .iface _ d => uptoBulk d + 1
  | .map entries => uptoBulkEntries entries + 1
  | .held _ => 1
def uptoBulkAll {H : Type} : List (DataW H) → Nat
  | [] => 0
  | d :: r => uptoBulk d + uptoBulkAll r
def uptoBulkEntries {H : Type} : List (Lit × DataW H) → Nat
  | [] => 0
  | x :: r => uptoBulkEntry x + uptoBulkEntries r
def uptoBulkEntry {H : Type} : Lit × DataW H → Nat
  | (.string bytes, d) => bytes.length + uptoBulk d + 1
  | (_, d) => uptoBulk d + 1
 end
def uptoSmall : (H : Type) → List (DataW H) → Bool := fun _ ds => decide (uptoBulkAll ds ≤ 1048576)
def OpenSpec.upto (s : _root_.Go.ChangeSpec) : _root_.Go.OpenSpec := { _root_.Go.OpenSpec.ofChange s with cond := some uptoSmall }

/-- 'laws.FnExactPush', WHERE WHAT IT READS IS OF BULK AT MOST 1048576: true; the input reads as it did. -/
def fnExactPushUptoRow : OpenClaim := { program := "ytlgepbckgfcklaa", sum := "4c8b13b95d0a847888d1dcdd6fb32ef22fdf2a3beffc442e440f8b9bc664757d", func := "loop.example/g00043/laws.FnExactPush", spec := "fnExactPush", apart := false, narrowed := true }
def FnExactPushUptoSaid : Prop := fnExactPushUptoRow.holds Try.pinned (OpenSpec.upto fnExactPushSpec)

/-- 'laws.FnExactIir', WHERE WHAT IT READS IS OF BULK AT MOST 1048576: true; the input reads as it did. -/
def fnExactIirUptoRow : OpenClaim := { program := "ytlgepbckgfcklaa", sum := "4c8b13b95d0a847888d1dcdd6fb32ef22fdf2a3beffc442e440f8b9bc664757d", func := "loop.example/g00043/laws.FnExactIir", spec := "fnExactIir", apart := false, narrowed := true }
def FnExactIirUptoSaid : Prop := fnExactIirUptoRow.holds Try.pinned (OpenSpec.upto fnExactIirSpec)

/-- 'laws.FnIirPieces', WHERE WHAT IT READS IS OF BULK AT MOST 1048576: true; the input reads as it did. -/
def fnIirPiecesUptoRow : OpenClaim := { program := "ytlgepbckgfcklaa", sum := "4c8b13b95d0a847888d1dcdd6fb32ef22fdf2a3beffc442e440f8b9bc664757d", func := "loop.example/g00043/laws.FnIirPieces", spec := "fnIirPieces", apart := false, narrowed := true }
def FnIirPiecesUptoSaid : Prop := fnIirPiecesUptoRow.holds Try.pinned (OpenSpec.upto fnIirPiecesSpec)

end Rows
end Go.Proofs.Ytlgepbckgfcklaa
