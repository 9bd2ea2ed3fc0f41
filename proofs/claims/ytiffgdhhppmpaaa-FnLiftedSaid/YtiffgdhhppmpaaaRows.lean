/-
  No cell of these rows narrows 'for every input' (looked for: loops, veiled, ifaces, maps, wideKeys, modest, calm, conditions, laid).
  DERIVED. THE GIVEN ROWS OF THIS SEAT. 9 by the template 'for every input the law returns true; each argument reads behind the call as it read before'; 0 by the template 'total and deterministic' (their statements: YtiffgdhhppmpaaaTotals.lean).
  GIVEN WITH THE SEED: the statements are not yours to turn. If you find one false, say at which input.
  Laid BY PROGRAM, IN A SANDBOX (cutbox-rows.mjs): the forced cells as the released guide's own fill.sh prints them over the translation 1e4b7cbaf11c0134… (all of the seat's roots in one cut). By AI agents, Wed Nov 11 2026. No macro, syntax, notation, axiom, sorry.
-/
import Derived.Test.YtiffgdhhppmpaaaChecked
import GoSem.Claim
import GoSem.ClaimJoined
import GoSem.ClaimMapViews
import Derived.JoinedTies
import Derived.KernelRfl
namespace Go.Proofs.Ytiffgdhhppmpaaa
/- THE CELL 'sum', in the pinned program and in every row, IS THE sha256 OF THE DUMP (.gsa) THAT YtiffgdhhppmpaaaProg.lean LOADS. Nothing in Lean hashes anything: it is a label: what it is worth is what the hold of that sum in a sandbox is worth. -/
noncomputable def Try.pinned : Pinned := { name := "ytiffgdhhppmpaaa", sum := "1e4b7cbaf11c0134306300bbb6a74d9bb5e93ae2e39778d71be403898f0194fa", checked := Try.checked }
namespace Rows
def none {H : Type} : Left H := { results := [], args := [] }

/-- 'laws.FnLiftedRows': WHATEVER THE INPUT: true; the input reads as it did. -/
def fnLiftedRowsSpec : ChangeSpec := { name := "fnLiftedRows", fn := fun _ => fun
  | [d] => { results := [.lit (.bool true)], args := [d] }
  | _ => none }
def fnLiftedRowsRow : OpenClaim := { program := "ytiffgdhhppmpaaa", sum := "1e4b7cbaf11c0134306300bbb6a74d9bb5e93ae2e39778d71be403898f0194fa", func := "loop.example/g00043/laws.FnLiftedRows", spec := "fnLiftedRows", unfollowed := true, recurses := true, apart := false }
def FnLiftedRowsSaid : Prop := fnLiftedRowsRow.holds Try.pinned (OpenSpec.ofChange fnLiftedRowsSpec)

/-- ITS FALSE NEIGHBOUR: 'it returns false'. Refute it at one input. -/
def fnLiftedRowsWrong : ChangeSpec := { name := "fnLiftedRows", fn := fun _ => fun
  | [d] => { results := [.lit (.bool false)], args := [d] }
  | _ => none }
def FnLiftedRowsWrongFalsely : Prop := fnLiftedRowsRow.holds Try.pinned (OpenSpec.ofChange fnLiftedRowsWrong)

/-- 'laws.FnStill': WHATEVER THE INPUT: true; the input reads as it did. -/
def fnStillSpec : ChangeSpec := { name := "fnStill", fn := fun _ => fun
  | [d] => { results := [.lit (.bool true)], args := [d] }
  | _ => none }
def fnStillRow : OpenClaim := { program := "ytiffgdhhppmpaaa", sum := "1e4b7cbaf11c0134306300bbb6a74d9bb5e93ae2e39778d71be403898f0194fa", func := "loop.example/g00043/laws.FnStill", spec := "fnStill", apart := false }
def FnStillSaid : Prop := fnStillRow.holds Try.pinned (OpenSpec.ofChange fnStillSpec)

/-- ITS FALSE NEIGHBOUR: 'it returns false'. Refute it at one input. -/
def fnStillWrong : ChangeSpec := { name := "fnStill", fn := fun _ => fun
  | [d] => { results := [.lit (.bool false)], args := [d] }
  | _ => none }
def FnStillWrongFalsely : Prop := fnStillRow.holds Try.pinned (OpenSpec.ofChange fnStillWrong)

/-- 'laws.FnExactLiftOnce': WHATEVER THE INPUT: true; the input reads as it did. -/
def fnExactLiftOnceSpec : ChangeSpec := { name := "fnExactLiftOnce", fn := fun _ => fun
  | [d1, d2] => { results := [.lit (.bool true)], args := [d1, d2] }
  | _ => none }
def fnExactLiftOnceRow : OpenClaim := { program := "ytiffgdhhppmpaaa", sum := "1e4b7cbaf11c0134306300bbb6a74d9bb5e93ae2e39778d71be403898f0194fa", func := "loop.example/g00043/laws.FnExactLiftOnce", spec := "fnExactLiftOnce", apart := false }
def FnExactLiftOnceSaid : Prop := fnExactLiftOnceRow.holds Try.pinned (OpenSpec.ofChange fnExactLiftOnceSpec)

/-- ITS FALSE NEIGHBOUR: 'it returns false'. Refute it at one input. -/
def fnExactLiftOnceWrong : ChangeSpec := { name := "fnExactLiftOnce", fn := fun _ => fun
  | [d1, d2] => { results := [.lit (.bool false)], args := [d1, d2] }
  | _ => none }
def FnExactLiftOnceWrongFalsely : Prop := fnExactLiftOnceRow.holds Try.pinned (OpenSpec.ofChange fnExactLiftOnceWrong)

/-- 'laws.FnExactLiftBack': WHATEVER THE INPUT: true; the input reads as it did. -/
def fnExactLiftBackSpec : ChangeSpec := { name := "fnExactLiftBack", fn := fun _ => fun
  | [d1, d2, d3] => { results := [.lit (.bool true)], args := [d1, d2, d3] }
  | _ => none }
def fnExactLiftBackRow : OpenClaim := { program := "ytiffgdhhppmpaaa", sum := "1e4b7cbaf11c0134306300bbb6a74d9bb5e93ae2e39778d71be403898f0194fa", func := "loop.example/g00043/laws.FnExactLiftBack", spec := "fnExactLiftBack", apart := false }
def FnExactLiftBackSaid : Prop := fnExactLiftBackRow.holds Try.pinned (OpenSpec.ofChange fnExactLiftBackSpec)

/-- ITS FALSE NEIGHBOUR: 'it returns false'. Refute it at one input. -/
def fnExactLiftBackWrong : ChangeSpec := { name := "fnExactLiftBack", fn := fun _ => fun
  | [d1, d2, d3] => { results := [.lit (.bool false)], args := [d1, d2, d3] }
  | _ => none }
def FnExactLiftBackWrongFalsely : Prop := fnExactLiftBackRow.holds Try.pinned (OpenSpec.ofChange fnExactLiftBackWrong)

/-- 'laws.FnExactUnlift': WHATEVER THE INPUT: true; the input reads as it did. -/
def fnExactUnliftSpec : ChangeSpec := { name := "fnExactUnlift", fn := fun _ => fun
  | [d1, d2, d3] => { results := [.lit (.bool true)], args := [d1, d2, d3] }
  | _ => none }
def fnExactUnliftRow : OpenClaim := { program := "ytiffgdhhppmpaaa", sum := "1e4b7cbaf11c0134306300bbb6a74d9bb5e93ae2e39778d71be403898f0194fa", func := "loop.example/g00043/laws.FnExactUnlift", spec := "fnExactUnlift", apart := false }
def FnExactUnliftSaid : Prop := fnExactUnliftRow.holds Try.pinned (OpenSpec.ofChange fnExactUnliftSpec)

/-- ITS FALSE NEIGHBOUR: 'it returns false'. Refute it at one input. -/
def fnExactUnliftWrong : ChangeSpec := { name := "fnExactUnlift", fn := fun _ => fun
  | [d1, d2, d3] => { results := [.lit (.bool false)], args := [d1, d2, d3] }
  | _ => none }
def FnExactUnliftWrongFalsely : Prop := fnExactUnliftRow.holds Try.pinned (OpenSpec.ofChange fnExactUnliftWrong)

/-- 'laws.FnExactLift': WHATEVER THE INPUT: true; the input reads as it did. -/
def fnExactLiftSpec : ChangeSpec := { name := "fnExactLift", fn := fun _ => fun
  | [d1, d2, d3] => { results := [.lit (.bool true)], args := [d1, d2, d3] }
  | _ => none }
def fnExactLiftRow : OpenClaim := { program := "ytiffgdhhppmpaaa", sum := "1e4b7cbaf11c0134306300bbb6a74d9bb5e93ae2e39778d71be403898f0194fa", func := "loop.example/g00043/laws.FnExactLift", spec := "fnExactLift", apart := false }
def FnExactLiftSaid : Prop := fnExactLiftRow.holds Try.pinned (OpenSpec.ofChange fnExactLiftSpec)

/-- ITS FALSE NEIGHBOUR: 'it returns false'. Refute it at one input. -/
def fnExactLiftWrong : ChangeSpec := { name := "fnExactLift", fn := fun _ => fun
  | [d1, d2, d3] => { results := [.lit (.bool false)], args := [d1, d2, d3] }
  | _ => none }
def FnExactLiftWrongFalsely : Prop := fnExactLiftRow.holds Try.pinned (OpenSpec.ofChange fnExactLiftWrong)

/-- 'laws.FnLifted': WHATEVER THE INPUT: true; the input reads as it did. -/
def fnLiftedSpec : ChangeSpec := { name := "fnLifted", fn := fun _ => fun
  | [d] => { results := [.lit (.bool true)], args := [d] }
  | _ => none }
def fnLiftedRow : OpenClaim := { program := "ytiffgdhhppmpaaa", sum := "1e4b7cbaf11c0134306300bbb6a74d9bb5e93ae2e39778d71be403898f0194fa", func := "loop.example/g00043/laws.FnLifted", spec := "fnLifted", apart := false }
def FnLiftedSaid : Prop := fnLiftedRow.holds Try.pinned (OpenSpec.ofChange fnLiftedSpec)

/-- ITS FALSE NEIGHBOUR: 'it returns false'. Refute it at one input. -/
def fnLiftedWrong : ChangeSpec := { name := "fnLifted", fn := fun _ => fun
  | [d] => { results := [.lit (.bool false)], args := [d] }
  | _ => none }
def FnLiftedWrongFalsely : Prop := fnLiftedRow.holds Try.pinned (OpenSpec.ofChange fnLiftedWrong)

/-- 'laws.FnExactLift2': WHATEVER THE INPUT: true; the input reads as it did. -/
def fnExactLift2Spec : ChangeSpec := { name := "fnExactLift2", fn := fun _ => fun
  | [d1, d2] => { results := [.lit (.bool true)], args := [d1, d2] }
  | _ => none }
def fnExactLift2Row : OpenClaim := { program := "ytiffgdhhppmpaaa", sum := "1e4b7cbaf11c0134306300bbb6a74d9bb5e93ae2e39778d71be403898f0194fa", func := "loop.example/g00043/laws.FnExactLift2", spec := "fnExactLift2", unfollowed := true, recurses := true, apart := false }
def FnExactLift2Said : Prop := fnExactLift2Row.holds Try.pinned (OpenSpec.ofChange fnExactLift2Spec)

/-- ITS FALSE NEIGHBOUR: 'it returns false'. Refute it at one input. -/
def fnExactLift2Wrong : ChangeSpec := { name := "fnExactLift2", fn := fun _ => fun
  | [d1, d2] => { results := [.lit (.bool false)], args := [d1, d2] }
  | _ => none }
def FnExactLift2WrongFalsely : Prop := fnExactLift2Row.holds Try.pinned (OpenSpec.ofChange fnExactLift2Wrong)

/-- 'laws.FnExactUnlift2': WHATEVER THE INPUT: true; the input reads as it did. -/
def fnExactUnlift2Spec : ChangeSpec := { name := "fnExactUnlift2", fn := fun _ => fun
  | [d1, d2] => { results := [.lit (.bool true)], args := [d1, d2] }
  | _ => none }
def fnExactUnlift2Row : OpenClaim := { program := "ytiffgdhhppmpaaa", sum := "1e4b7cbaf11c0134306300bbb6a74d9bb5e93ae2e39778d71be403898f0194fa", func := "loop.example/g00043/laws.FnExactUnlift2", spec := "fnExactUnlift2", unfollowed := true, recurses := true, apart := false }
def FnExactUnlift2Said : Prop := fnExactUnlift2Row.holds Try.pinned (OpenSpec.ofChange fnExactUnlift2Spec)

/-- ITS FALSE NEIGHBOUR: 'it returns false'. Refute it at one input. -/
def fnExactUnlift2Wrong : ChangeSpec := { name := "fnExactUnlift2", fn := fun _ => fun
  | [d1, d2] => { results := [.lit (.bool false)], args := [d1, d2] }
  | _ => none }
def FnExactUnlift2WrongFalsely : Prop := fnExactUnlift2Row.holds Try.pinned (OpenSpec.ofChange fnExactUnlift2Wrong)

/- THE SECOND FORM. 'bulk': how many values and letters a reading holds, each counted each time it is reached (what is shared counts as often as it is met; a slice's spare places count too). A statement '..UptoSaid' is the law's where the arguments, and the package variables that the reading takes, are together of bulk at most 1048576: NARROWER than '..Said'. Prove '..Said' where nothing that the law and all that it calls make is longer than what came in: it says more and counts as full. Else prove '..UptoSaid'. A law counts once. -/
mutual
def uptoBulk {H : Type} : DataW H → Nat
  | .lit (.string bytes) => bytes.length + 1
  | .lit _ => 1
  | .nil => 1
  | .ptr d => uptoBulk d + 1
  | .slice elems spare => uptoBulkAll elems + uptoBulkAll spare + 1
  | .agg parts => uptoBulkAll parts + 1
  | .iface _ d => uptoBulk d + 1
  | .map entries => uptoBulkEntries entries + 1
  | .held _ => 1
def uptoBulkAll {H : Type} : List (DataW H) → Nat
  | [] => 0
  | d :: r => uptoBulk d + uptoBulkAll r
def uptoBulkEntries {H : Type} : List (Lit × DataW H) → Nat
  | [] => 0
  | x :: r => uptoBulkEntry x + uptoBulkEntries r
def uptoBulkEntry {H : Type} : Lit × DataW H → Nat
  | (.string bytes, d) => bytes.length + uptoBulk d + 1
  | (_, d) => uptoBulk d + 1
 end
def uptoSmall : (H : Type) → List (DataW H) → Bool := fun _ ds => decide (uptoBulkAll ds ≤ 1048576)
def OpenSpec.upto (s : _root_.Go.ChangeSpec) : _root_.Go.OpenSpec := { _root_.Go.OpenSpec.ofChange s with cond := some uptoSmall }

/-- 'laws.FnLiftedRows', WHERE WHAT IT READS IS OF BULK AT MOST 1048576: true; the input reads as it did. -/
def fnLiftedRowsUptoRow : OpenClaim := { program := "ytiffgdhhppmpaaa", sum := "1e4b7cbaf11c0134306300bbb6a74d9bb5e93ae2e39778d71be403898f0194fa", func := "loop.example/g00043/laws.FnLiftedRows", spec := "fnLiftedRows", unfollowed := true, recurses := true, apart := false, narrowed := true }
def FnLiftedRowsUptoSaid : Prop := fnLiftedRowsUptoRow.holds Try.pinned (OpenSpec.upto fnLiftedRowsSpec)

/-- 'laws.FnStill', WHERE WHAT IT READS IS OF BULK AT MOST 1048576: true; the input reads as it did. -/
def fnStillUptoRow : OpenClaim := { program := "ytiffgdhhppmpaaa", sum := "1e4b7cbaf11c0134306300bbb6a74d9bb5e93ae2e39778d71be403898f0194fa", func := "loop.example/g00043/laws.FnStill", spec := "fnStill", apart := false, narrowed := true }
def FnStillUptoSaid : Prop := fnStillUptoRow.holds Try.pinned (OpenSpec.upto fnStillSpec)

/-- 'laws.FnExactLiftOnce', WHERE WHAT IT READS IS OF BULK AT MOST 1048576: true; the input reads as it did. -/
def fnExactLiftOnceUptoRow : OpenClaim := { program := "ytiffgdhhppmpaaa", sum := "1e4b7cbaf11c0134306300bbb6a74d9bb5e93ae2e39778d71be403898f0194fa", func := "loop.example/g00043/laws.FnExactLiftOnce", spec := "fnExactLiftOnce", apart := false, narrowed := true }
def FnExactLiftOnceUptoSaid : Prop := fnExactLiftOnceUptoRow.holds Try.pinned (OpenSpec.upto fnExactLiftOnceSpec)

/-- 'laws.FnExactLiftBack', WHERE WHAT IT READS IS OF BULK AT MOST 1048576: true; the input reads as it did. -/
def fnExactLiftBackUptoRow : OpenClaim := { program := "ytiffgdhhppmpaaa", sum := "1e4b7cbaf11c0134306300bbb6a74d9bb5e93ae2e39778d71be403898f0194fa", func := "loop.example/g00043/laws.FnExactLiftBack", spec := "fnExactLiftBack", apart := false, narrowed := true }
def FnExactLiftBackUptoSaid : Prop := fnExactLiftBackUptoRow.holds Try.pinned (OpenSpec.upto fnExactLiftBackSpec)

/-- 'laws.FnExactUnlift', WHERE WHAT IT READS IS OF BULK AT MOST 1048576: true; the input reads as it did. -/
def fnExactUnliftUptoRow : OpenClaim := { program := "ytiffgdhhppmpaaa", sum := "1e4b7cbaf11c0134306300bbb6a74d9bb5e93ae2e39778d71be403898f0194fa", func := "loop.example/g00043/laws.FnExactUnlift", spec := "fnExactUnlift", apart := false, narrowed := true }
def FnExactUnliftUptoSaid : Prop := fnExactUnliftUptoRow.holds Try.pinned (OpenSpec.upto fnExactUnliftSpec)

/-- 'laws.FnExactLift', WHERE WHAT IT READS IS OF BULK AT MOST 1048576: true; the input reads as it did. -/
def fnExactLiftUptoRow : OpenClaim := { program := "ytiffgdhhppmpaaa", sum := "1e4b7cbaf11c0134306300bbb6a74d9bb5e93ae2e39778d71be403898f0194fa", func := "loop.example/g00043/laws.FnExactLift", spec := "fnExactLift", apart := false, narrowed := true }
def FnExactLiftUptoSaid : Prop := fnExactLiftUptoRow.holds Try.pinned (OpenSpec.upto fnExactLiftSpec)

/-- 'laws.FnLifted', WHERE WHAT IT READS IS OF BULK AT MOST 1048576: true; the input reads as it did. -/
def fnLiftedUptoRow : OpenClaim := { program := "ytiffgdhhppmpaaa", sum := "1e4b7cbaf11c0134306300bbb6a74d9bb5e93ae2e39778d71be403898f0194fa", func := "loop.example/g00043/laws.FnLifted", spec := "fnLifted", apart := false, narrowed := true }
def FnLiftedUptoSaid : Prop := fnLiftedUptoRow.holds Try.pinned (OpenSpec.upto fnLiftedSpec)

/-- 'laws.FnExactLift2', WHERE WHAT IT READS IS OF BULK AT MOST 1048576: true; the input reads as it did. -/
def fnExactLift2UptoRow : OpenClaim := { program := "ytiffgdhhppmpaaa", sum := "1e4b7cbaf11c0134306300bbb6a74d9bb5e93ae2e39778d71be403898f0194fa", func := "loop.example/g00043/laws.FnExactLift2", spec := "fnExactLift2", unfollowed := true, recurses := true, apart := false, narrowed := true }
def FnExactLift2UptoSaid : Prop := fnExactLift2UptoRow.holds Try.pinned (OpenSpec.upto fnExactLift2Spec)

/-- 'laws.FnExactUnlift2', WHERE WHAT IT READS IS OF BULK AT MOST 1048576: true; the input reads as it did. -/
def fnExactUnlift2UptoRow : OpenClaim := { program := "ytiffgdhhppmpaaa", sum := "1e4b7cbaf11c0134306300bbb6a74d9bb5e93ae2e39778d71be403898f0194fa", func := "loop.example/g00043/laws.FnExactUnlift2", spec := "fnExactUnlift2", unfollowed := true, recurses := true, apart := false, narrowed := true }
def FnExactUnlift2UptoSaid : Prop := fnExactUnlift2UptoRow.holds Try.pinned (OpenSpec.upto fnExactUnlift2Spec)

end Rows
end Go.Proofs.Ytiffgdhhppmpaaa
