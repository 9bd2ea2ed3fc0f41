/-
  No cell of these rows narrows 'for every input' (looked for: loops, veiled, ifaces, maps, wideKeys, modest, calm, conditions, laid).
  DERIVED. THE GIVEN ROWS OF THIS SEAT. 5 by the template 'for every input the law returns true; each argument reads behind the call as it read before'; 0 by the template 'total and deterministic' (their statements: YtofegdgcafameaaTotals.lean).
  GIVEN WITH THE SEED: the statements are not yours to turn. If you find one false, say at which input.
  Laid BY PROGRAM, IN A SANDBOX (cutbox-rows.mjs): the forced cells as the released guide's own fill.sh prints them over the translation 63ac90762d19b260… (all of the seat's roots in one cut). By AI agents, Wed Nov 11 2026. No macro, syntax, notation, axiom, sorry.
-/
import Derived.Test.YtofegdgcafameaaChecked
import GoSem.Claim
import GoSem.ClaimJoined
import GoSem.ClaimMapViews
import Derived.JoinedTies
import Derived.KernelRfl
namespace Go.Proofs.Ytofegdgcafameaa
/- THE CELL 'sum', in the pinned program and in every row, IS THE sha256 OF THE DUMP (.gsa) THAT YtofegdgcafameaaProg.lean LOADS. Nothing in Lean hashes anything: it is a label: what it is worth is what the hold of that sum in a sandbox is worth. -/
noncomputable def Try.pinned : Pinned := { name := "ytofegdgcafameaa", sum := "63ac90762d19b2603228412cd5c91bdf2ed4bfc2c29eb0f36564e7187643770b", checked := Try.checked }
namespace Rows
def none {H : Type} : Left H := { results := [], args := [] }

/-- 'laws.FnLiftedRows': WHATEVER THE INPUT: true; the input reads as it did. -/
def fnLiftedRowsSpec : ChangeSpec := { name := "fnLiftedRows", fn := fun _ => fun
  | [d] => { results := [.lit (.bool true)], args := [d] }
  | _ => none }
def fnLiftedRowsRow : OpenClaim := { program := "ytofegdgcafameaa", sum := "63ac90762d19b2603228412cd5c91bdf2ed4bfc2c29eb0f36564e7187643770b", func := "loop.example/g00043/laws.FnLiftedRows", spec := "fnLiftedRows", unfollowed := true, recurses := true, apart := false }
def FnLiftedRowsSaid : Prop := fnLiftedRowsRow.holds Try.pinned (OpenSpec.ofChange fnLiftedRowsSpec)

/-- ITS FALSE NEIGHBOUR: 'it returns false'. Refute it at one input. -/
def fnLiftedRowsWrong : ChangeSpec := { name := "fnLiftedRows", fn := fun _ => fun
  | [d] => { results := [.lit (.bool false)], args := [d] }
  | _ => none }
def FnLiftedRowsWrongFalsely : Prop := fnLiftedRowsRow.holds Try.pinned (OpenSpec.ofChange fnLiftedRowsWrong)

/-- 'laws.FnExactDft2': WHATEVER THE INPUT: true; the input reads as it did. -/
def fnExactDft2Spec : ChangeSpec := { name := "fnExactDft2", fn := fun _ => fun
  | [d1, d2, d3] => { results := [.lit (.bool true)], args := [d1, d2, d3] }
  | _ => none }
def fnExactDft2Row : OpenClaim := { program := "ytofegdgcafameaa", sum := "63ac90762d19b2603228412cd5c91bdf2ed4bfc2c29eb0f36564e7187643770b", func := "loop.example/g00043/laws.FnExactDft2", spec := "fnExactDft2", apart := false }
def FnExactDft2Said : Prop := fnExactDft2Row.holds Try.pinned (OpenSpec.ofChange fnExactDft2Spec)

/-- ITS FALSE NEIGHBOUR: 'it returns false'. Refute it at one input. -/
def fnExactDft2Wrong : ChangeSpec := { name := "fnExactDft2", fn := fun _ => fun
  | [d1, d2, d3] => { results := [.lit (.bool false)], args := [d1, d2, d3] }
  | _ => none }
def FnExactDft2WrongFalsely : Prop := fnExactDft2Row.holds Try.pinned (OpenSpec.ofChange fnExactDft2Wrong)

/-- 'laws.FnDftTwice': WHATEVER THE INPUT: true; the input reads as it did. -/
def fnDftTwiceSpec : ChangeSpec := { name := "fnDftTwice", fn := fun _ => fun
  | [d] => { results := [.lit (.bool true)], args := [d] }
  | _ => none }
def fnDftTwiceRow : OpenClaim := { program := "ytofegdgcafameaa", sum := "63ac90762d19b2603228412cd5c91bdf2ed4bfc2c29eb0f36564e7187643770b", func := "loop.example/g00043/laws.FnDftTwice", spec := "fnDftTwice", apart := false }
def FnDftTwiceSaid : Prop := fnDftTwiceRow.holds Try.pinned (OpenSpec.ofChange fnDftTwiceSpec)

/-- ITS FALSE NEIGHBOUR: 'it returns false'. Refute it at one input. -/
def fnDftTwiceWrong : ChangeSpec := { name := "fnDftTwice", fn := fun _ => fun
  | [d] => { results := [.lit (.bool false)], args := [d] }
  | _ => none }
def FnDftTwiceWrongFalsely : Prop := fnDftTwiceRow.holds Try.pinned (OpenSpec.ofChange fnDftTwiceWrong)

/-- 'laws.FnExactLift2': WHATEVER THE INPUT: true; the input reads as it did. -/
def fnExactLift2Spec : ChangeSpec := { name := "fnExactLift2", fn := fun _ => fun
  | [d1, d2] => { results := [.lit (.bool true)], args := [d1, d2] }
  | _ => none }
def fnExactLift2Row : OpenClaim := { program := "ytofegdgcafameaa", sum := "63ac90762d19b2603228412cd5c91bdf2ed4bfc2c29eb0f36564e7187643770b", func := "loop.example/g00043/laws.FnExactLift2", spec := "fnExactLift2", unfollowed := true, recurses := true, apart := false }
def FnExactLift2Said : Prop := fnExactLift2Row.holds Try.pinned (OpenSpec.ofChange fnExactLift2Spec)

/-- ITS FALSE NEIGHBOUR: 'it returns false'. Refute it at one input. -/
def fnExactLift2Wrong : ChangeSpec := { name := "fnExactLift2", fn := fun _ => fun
  | [d1, d2] => { results := [.lit (.bool false)], args := [d1, d2] }
  | _ => none }
def FnExactLift2WrongFalsely : Prop := fnExactLift2Row.holds Try.pinned (OpenSpec.ofChange fnExactLift2Wrong)

/-- 'laws.FnExactUnlift2': WHATEVER THE INPUT: true; the input reads as it did. -/
def fnExactUnlift2Spec : ChangeSpec := { name := "fnExactUnlift2", fn := fun _ => fun
  | [d1, d2] => { results := [.lit (.bool true)], args := [d1, d2] }
  | _ => none }
def fnExactUnlift2Row : OpenClaim := { program := "ytofegdgcafameaa", sum := "63ac90762d19b2603228412cd5c91bdf2ed4bfc2c29eb0f36564e7187643770b", func := "loop.example/g00043/laws.FnExactUnlift2", spec := "fnExactUnlift2", unfollowed := true, recurses := true, apart := false }
def FnExactUnlift2Said : Prop := fnExactUnlift2Row.holds Try.pinned (OpenSpec.ofChange fnExactUnlift2Spec)

/-- ITS FALSE NEIGHBOUR: 'it returns false'. Refute it at one input. -/
def fnExactUnlift2Wrong : ChangeSpec := { name := "fnExactUnlift2", fn := fun _ => fun
  | [d1, d2] => { results := [.lit (.bool false)], args := [d1, d2] }
  | _ => none }
def FnExactUnlift2WrongFalsely : Prop := fnExactUnlift2Row.holds Try.pinned (OpenSpec.ofChange fnExactUnlift2Wrong)

/- THE SECOND FORM. 'bulk': how many values and letters a reading holds, each counted each time it is reached (what is shared counts as often as it is met; a slice's spare places count too). A statement '..UptoSaid' is the law's where the arguments, and the package variables that the reading takes, are together of bulk at most 1048576: NARROWER than '..Said'. Prove '..Said' where nothing that the law and all that it calls make is longer than what came in: it says more and counts as full. Else prove '..UptoSaid'. A law counts once. -/
mutual
def uptoBulk {H : Type} : DataW H → Nat
  | .lit (.string bytes) => bytes.length + 1
  | .lit _ => 1
  | .nil => 1
  | .ptr d => uptoBulk d + 1
  | .slice elems spare => uptoBulkAll elems + uptoBulkAll spare + 1
  | .agg parts => uptoBulkAll parts + 1
  | .iface _ d => uptoBulk d + 1
  | .map entries => uptoBulkEntries entries + 1
  | .held _ => 1
def uptoBulkAll {H : Type} : List (DataW H) → Nat
  | [] => 0
  | d :: r => uptoBulk d + uptoBulkAll r
def uptoBulkEntries {H : Type} : List (Lit × DataW H) → Nat
  | [] => 0
  | x :: r => uptoBulkEntry x + uptoBulkEntries r
def uptoBulkEntry {H : Type} : Lit × DataW H → Nat
  | (.string bytes, d) => bytes.length + uptoBulk d + 1
  | (_, d) => uptoBulk d + 1
 end
def uptoSmall : (H : Type) → List (DataW H) → Bool := fun _ ds => decide (uptoBulkAll ds ≤ 1048576)
def OpenSpec.upto (s : _root_.Go.ChangeSpec) : _root_.Go.OpenSpec := { _root_.Go.OpenSpec.ofChange s with cond := some uptoSmall }

/-- 'laws.FnLiftedRows', WHERE WHAT IT READS IS OF BULK AT MOST 1048576: true; the input reads as it did. -/
def fnLiftedRowsUptoRow : OpenClaim := { program := "ytofegdgcafameaa", sum := "63ac90762d19b2603228412cd5c91bdf2ed4bfc2c29eb0f36564e7187643770b", func := "loop.example/g00043/laws.FnLiftedRows", spec := "fnLiftedRows", unfollowed := true, recurses := true, apart := false, narrowed := true }
def FnLiftedRowsUptoSaid : Prop := fnLiftedRowsUptoRow.holds Try.pinned (OpenSpec.upto fnLiftedRowsSpec)

/-- 'laws.FnExactDft2', WHERE WHAT IT READS IS OF BULK AT MOST 1048576: true; the input reads as it did. -/
def fnExactDft2UptoRow : OpenClaim := { program := "ytofegdgcafameaa", sum := "63ac90762d19b2603228412cd5c91bdf2ed4bfc2c29eb0f36564e7187643770b", func := "loop.example/g00043/laws.FnExactDft2", spec := "fnExactDft2", apart := false, narrowed := true }
def FnExactDft2UptoSaid : Prop := fnExactDft2UptoRow.holds Try.pinned (OpenSpec.upto fnExactDft2Spec)

/-- 'laws.FnDftTwice', WHERE WHAT IT READS IS OF BULK AT MOST 1048576: true; the input reads as it did. -/
def fnDftTwiceUptoRow : OpenClaim := { program := "ytofegdgcafameaa", sum := "63ac90762d19b2603228412cd5c91bdf2ed4bfc2c29eb0f36564e7187643770b", func := "loop.example/g00043/laws.FnDftTwice", spec := "fnDftTwice", apart := false, narrowed := true }
def FnDftTwiceUptoSaid : Prop := fnDftTwiceUptoRow.holds Try.pinned (OpenSpec.upto fnDftTwiceSpec)

/-- 'laws.FnExactLift2', WHERE WHAT IT READS IS OF BULK AT MOST 1048576: true; the input reads as it did. -/
def fnExactLift2UptoRow : OpenClaim := { program := "ytofegdgcafameaa", sum := "63ac90762d19b2603228412cd5c91bdf2ed4bfc2c29eb0f36564e7187643770b", func := "loop.example/g00043/laws.FnExactLift2", spec := "fnExactLift2", unfollowed := true, recurses := true, apart := false, narrowed := true }
def FnExactLift2UptoSaid : Prop := fnExactLift2UptoRow.holds Try.pinned (OpenSpec.upto fnExactLift2Spec)

/-- 'laws.FnExactUnlift2', WHERE WHAT IT READS IS OF BULK AT MOST 1048576: true; the input reads as it did. -/
def fnExactUnlift2UptoRow : OpenClaim := { program := "ytofegdgcafameaa", sum := "63ac90762d19b2603228412cd5c91bdf2ed4bfc2c29eb0f36564e7187643770b", func := "loop.example/g00043/laws.FnExactUnlift2", spec := "fnExactUnlift2", unfollowed := true, recurses := true, apart := false, narrowed := true }
def FnExactUnlift2UptoSaid : Prop := fnExactUnlift2UptoRow.holds Try.pinned (OpenSpec.upto fnExactUnlift2Spec)

end Rows
end Go.Proofs.Ytofegdgcafameaa
