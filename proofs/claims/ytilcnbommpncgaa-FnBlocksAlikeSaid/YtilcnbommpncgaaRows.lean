/-
  No cell of these rows narrows 'for every input' (looked for: loops, veiled, ifaces, maps, wideKeys, modest, calm, conditions, laid).
  DERIVED. THE GIVEN ROWS OF THIS SEAT. 11 by the template 'for every input the law returns true; each argument reads behind the call as it read before'; 0 by the template 'total and deterministic' (their statements: YtilcnbommpncgaaTotals.lean).
  GIVEN WITH THE SEED: the statements are not yours to turn. If you find one false, say at which input.
  Laid BY PROGRAM, IN A SANDBOX (cutbox-rows.mjs): the forced cells as the released guide's own fill.sh prints them over the translation d78ecf0f25d22fad… (all of the seat's roots in one cut). By AI agents, Wed Nov 11 2026. No macro, syntax, notation, axiom, sorry.
-/
import Derived.Test.YtilcnbommpncgaaChecked
import GoSem.Claim
import GoSem.ClaimJoined
import GoSem.ClaimMapViews
import Derived.JoinedTies
import Derived.KernelRfl
namespace Go.Proofs.Ytilcnbommpncgaa
/- THE CELL 'sum', in the pinned program and in every row, IS THE sha256 OF THE DUMP (.gsa) THAT YtilcnbommpncgaaProg.lean LOADS. Nothing in Lean hashes anything: it is a label: what it is worth is what the hold of that sum in a sandbox is worth. -/
noncomputable def Try.pinned : Pinned := { name := "ytilcnbommpncgaa", sum := "d78ecf0f25d22fad6501d3bd3307bfb35dda571060e47727f7f737f8ededfe13", checked := Try.checked }
namespace Rows
def none {H : Type} : Left H := { results := [], args := [] }

/-- 'laws.FnExactConvolve': WHATEVER THE INPUT: true; the input reads as it did. -/
def fnExactConvolveSpec : ChangeSpec := { name := "fnExactConvolve", fn := fun _ => fun
  | [d1, d2] => { results := [.lit (.bool true)], args := [d1, d2] }
  | _ => none }
def fnExactConvolveRow : OpenClaim := { program := "ytilcnbommpncgaa", sum := "d78ecf0f25d22fad6501d3bd3307bfb35dda571060e47727f7f737f8ededfe13", func := "loop.example/g00043/laws.FnExactConvolve", spec := "fnExactConvolve", apart := false }
def FnExactConvolveSaid : Prop := fnExactConvolveRow.holds Try.pinned (OpenSpec.ofChange fnExactConvolveSpec)

/-- ITS FALSE NEIGHBOUR: 'it returns false'. Refute it at one input. -/
def fnExactConvolveWrong : ChangeSpec := { name := "fnExactConvolve", fn := fun _ => fun
  | [d1, d2] => { results := [.lit (.bool false)], args := [d1, d2] }
  | _ => none }
def FnExactConvolveWrongFalsely : Prop := fnExactConvolveRow.holds Try.pinned (OpenSpec.ofChange fnExactConvolveWrong)

/-- 'laws.FnExactBlocks': WHATEVER THE INPUT: true; the input reads as it did. -/
def fnExactBlocksSpec : ChangeSpec := { name := "fnExactBlocks", fn := fun _ => fun
  | [d1, d2, d3] => { results := [.lit (.bool true)], args := [d1, d2, d3] }
  | _ => none }
def fnExactBlocksRow : OpenClaim := { program := "ytilcnbommpncgaa", sum := "d78ecf0f25d22fad6501d3bd3307bfb35dda571060e47727f7f737f8ededfe13", func := "loop.example/g00043/laws.FnExactBlocks", spec := "fnExactBlocks", apart := false }
def FnExactBlocksSaid : Prop := fnExactBlocksRow.holds Try.pinned (OpenSpec.ofChange fnExactBlocksSpec)

/-- ITS FALSE NEIGHBOUR: 'it returns false'. Refute it at one input. -/
def fnExactBlocksWrong : ChangeSpec := { name := "fnExactBlocks", fn := fun _ => fun
  | [d1, d2, d3] => { results := [.lit (.bool false)], args := [d1, d2, d3] }
  | _ => none }
def FnExactBlocksWrongFalsely : Prop := fnExactBlocksRow.holds Try.pinned (OpenSpec.ofChange fnExactBlocksWrong)

/-- 'laws.FnInverse': WHATEVER THE INPUT: true; the input reads as it did. -/
def fnInverseSpec : ChangeSpec := { name := "fnInverse", fn := fun _ => fun
  | [d] => { results := [.lit (.bool true)], args := [d] }
  | _ => none }
def fnInverseRow : OpenClaim := { program := "ytilcnbommpncgaa", sum := "d78ecf0f25d22fad6501d3bd3307bfb35dda571060e47727f7f737f8ededfe13", func := "loop.example/g00043/laws.FnInverse", spec := "fnInverse", apart := false }
def FnInverseSaid : Prop := fnInverseRow.holds Try.pinned (OpenSpec.ofChange fnInverseSpec)

/-- ITS FALSE NEIGHBOUR: 'it returns false'. Refute it at one input. -/
def fnInverseWrong : ChangeSpec := { name := "fnInverse", fn := fun _ => fun
  | [d] => { results := [.lit (.bool false)], args := [d] }
  | _ => none }
def FnInverseWrongFalsely : Prop := fnInverseRow.holds Try.pinned (OpenSpec.ofChange fnInverseWrong)

/-- 'laws.FnExactWalsh': WHATEVER THE INPUT: true; the input reads as it did. -/
def fnExactWalshSpec : ChangeSpec := { name := "fnExactWalsh", fn := fun _ => fun
  | [d] => { results := [.lit (.bool true)], args := [d] }
  | _ => none }
def fnExactWalshRow : OpenClaim := { program := "ytilcnbommpncgaa", sum := "d78ecf0f25d22fad6501d3bd3307bfb35dda571060e47727f7f737f8ededfe13", func := "loop.example/g00043/laws.FnExactWalsh", spec := "fnExactWalsh", apart := false }
def FnExactWalshSaid : Prop := fnExactWalshRow.holds Try.pinned (OpenSpec.ofChange fnExactWalshSpec)

/-- ITS FALSE NEIGHBOUR: 'it returns false'. Refute it at one input. -/
def fnExactWalshWrong : ChangeSpec := { name := "fnExactWalsh", fn := fun _ => fun
  | [d] => { results := [.lit (.bool false)], args := [d] }
  | _ => none }
def FnExactWalshWrongFalsely : Prop := fnExactWalshRow.holds Try.pinned (OpenSpec.ofChange fnExactWalshWrong)

/-- 'laws.FnBlocksAlike': WHATEVER THE INPUT: true; the input reads as it did. -/
def fnBlocksAlikeSpec : ChangeSpec := { name := "fnBlocksAlike", fn := fun _ => fun
  | [d] => { results := [.lit (.bool true)], args := [d] }
  | _ => none }
def fnBlocksAlikeRow : OpenClaim := { program := "ytilcnbommpncgaa", sum := "d78ecf0f25d22fad6501d3bd3307bfb35dda571060e47727f7f737f8ededfe13", func := "loop.example/g00043/laws.FnBlocksAlike", spec := "fnBlocksAlike", apart := false }
def FnBlocksAlikeSaid : Prop := fnBlocksAlikeRow.holds Try.pinned (OpenSpec.ofChange fnBlocksAlikeSpec)

/-- ITS FALSE NEIGHBOUR: 'it returns false'. Refute it at one input. -/
def fnBlocksAlikeWrong : ChangeSpec := { name := "fnBlocksAlike", fn := fun _ => fun
  | [d] => { results := [.lit (.bool false)], args := [d] }
  | _ => none }
def FnBlocksAlikeWrongFalsely : Prop := fnBlocksAlikeRow.holds Try.pinned (OpenSpec.ofChange fnBlocksAlikeWrong)

/-- 'laws.FnExactDft': WHATEVER THE INPUT: true; the input reads as it did. -/
def fnExactDftSpec : ChangeSpec := { name := "fnExactDft", fn := fun _ => fun
  | [d1, d2, d3] => { results := [.lit (.bool true)], args := [d1, d2, d3] }
  | _ => none }
def fnExactDftRow : OpenClaim := { program := "ytilcnbommpncgaa", sum := "d78ecf0f25d22fad6501d3bd3307bfb35dda571060e47727f7f737f8ededfe13", func := "loop.example/g00043/laws.FnExactDft", spec := "fnExactDft", apart := false }
def FnExactDftSaid : Prop := fnExactDftRow.holds Try.pinned (OpenSpec.ofChange fnExactDftSpec)

/-- ITS FALSE NEIGHBOUR: 'it returns false'. Refute it at one input. -/
def fnExactDftWrong : ChangeSpec := { name := "fnExactDft", fn := fun _ => fun
  | [d1, d2, d3] => { results := [.lit (.bool false)], args := [d1, d2, d3] }
  | _ => none }
def FnExactDftWrongFalsely : Prop := fnExactDftRow.holds Try.pinned (OpenSpec.ofChange fnExactDftWrong)

/-- 'laws.FnWalshTwice': WHATEVER THE INPUT: true; the input reads as it did. -/
def fnWalshTwiceSpec : ChangeSpec := { name := "fnWalshTwice", fn := fun _ => fun
  | [d] => { results := [.lit (.bool true)], args := [d] }
  | _ => none }
def fnWalshTwiceRow : OpenClaim := { program := "ytilcnbommpncgaa", sum := "d78ecf0f25d22fad6501d3bd3307bfb35dda571060e47727f7f737f8ededfe13", func := "loop.example/g00043/laws.FnWalshTwice", spec := "fnWalshTwice", apart := false }
def FnWalshTwiceSaid : Prop := fnWalshTwiceRow.holds Try.pinned (OpenSpec.ofChange fnWalshTwiceSpec)

/-- ITS FALSE NEIGHBOUR: 'it returns false'. Refute it at one input. -/
def fnWalshTwiceWrong : ChangeSpec := { name := "fnWalshTwice", fn := fun _ => fun
  | [d] => { results := [.lit (.bool false)], args := [d] }
  | _ => none }
def FnWalshTwiceWrongFalsely : Prop := fnWalshTwiceRow.holds Try.pinned (OpenSpec.ofChange fnWalshTwiceWrong)

/-- 'laws.FnConvolved': WHATEVER THE INPUT: true; the input reads as it did. -/
def fnConvolvedSpec : ChangeSpec := { name := "fnConvolved", fn := fun _ => fun
  | [d] => { results := [.lit (.bool true)], args := [d] }
  | _ => none }
def fnConvolvedRow : OpenClaim := { program := "ytilcnbommpncgaa", sum := "d78ecf0f25d22fad6501d3bd3307bfb35dda571060e47727f7f737f8ededfe13", func := "loop.example/g00043/laws.FnConvolved", spec := "fnConvolved", apart := false }
def FnConvolvedSaid : Prop := fnConvolvedRow.holds Try.pinned (OpenSpec.ofChange fnConvolvedSpec)

/-- ITS FALSE NEIGHBOUR: 'it returns false'. Refute it at one input. -/
def fnConvolvedWrong : ChangeSpec := { name := "fnConvolved", fn := fun _ => fun
  | [d] => { results := [.lit (.bool false)], args := [d] }
  | _ => none }
def FnConvolvedWrongFalsely : Prop := fnConvolvedRow.holds Try.pinned (OpenSpec.ofChange fnConvolvedWrong)

/-- 'laws.FnDftBack': WHATEVER THE INPUT: true; the input reads as it did. -/
def fnDftBackSpec : ChangeSpec := { name := "fnDftBack", fn := fun _ => fun
  | [d] => { results := [.lit (.bool true)], args := [d] }
  | _ => none }
def fnDftBackRow : OpenClaim := { program := "ytilcnbommpncgaa", sum := "d78ecf0f25d22fad6501d3bd3307bfb35dda571060e47727f7f737f8ededfe13", func := "loop.example/g00043/laws.FnDftBack", spec := "fnDftBack", apart := false }
def FnDftBackSaid : Prop := fnDftBackRow.holds Try.pinned (OpenSpec.ofChange fnDftBackSpec)

/-- ITS FALSE NEIGHBOUR: 'it returns false'. Refute it at one input. -/
def fnDftBackWrong : ChangeSpec := { name := "fnDftBack", fn := fun _ => fun
  | [d] => { results := [.lit (.bool false)], args := [d] }
  | _ => none }
def FnDftBackWrongFalsely : Prop := fnDftBackRow.holds Try.pinned (OpenSpec.ofChange fnDftBackWrong)

/-- 'laws.FnExactDft2': WHATEVER THE INPUT: true; the input reads as it did. -/
def fnExactDft2Spec : ChangeSpec := { name := "fnExactDft2", fn := fun _ => fun
  | [d1, d2, d3] => { results := [.lit (.bool true)], args := [d1, d2, d3] }
  | _ => none }
def fnExactDft2Row : OpenClaim := { program := "ytilcnbommpncgaa", sum := "d78ecf0f25d22fad6501d3bd3307bfb35dda571060e47727f7f737f8ededfe13", func := "loop.example/g00043/laws.FnExactDft2", spec := "fnExactDft2", apart := false }
def FnExactDft2Said : Prop := fnExactDft2Row.holds Try.pinned (OpenSpec.ofChange fnExactDft2Spec)

/-- ITS FALSE NEIGHBOUR: 'it returns false'. Refute it at one input. -/
def fnExactDft2Wrong : ChangeSpec := { name := "fnExactDft2", fn := fun _ => fun
  | [d1, d2, d3] => { results := [.lit (.bool false)], args := [d1, d2, d3] }
  | _ => none }
def FnExactDft2WrongFalsely : Prop := fnExactDft2Row.holds Try.pinned (OpenSpec.ofChange fnExactDft2Wrong)

/-- 'laws.FnDftTwice': WHATEVER THE INPUT: true; the input reads as it did. -/
def fnDftTwiceSpec : ChangeSpec := { name := "fnDftTwice", fn := fun _ => fun
  | [d] => { results := [.lit (.bool true)], args := [d] }
  | _ => none }
def fnDftTwiceRow : OpenClaim := { program := "ytilcnbommpncgaa", sum := "d78ecf0f25d22fad6501d3bd3307bfb35dda571060e47727f7f737f8ededfe13", func := "loop.example/g00043/laws.FnDftTwice", spec := "fnDftTwice", apart := false }
def FnDftTwiceSaid : Prop := fnDftTwiceRow.holds Try.pinned (OpenSpec.ofChange fnDftTwiceSpec)

/-- ITS FALSE NEIGHBOUR: 'it returns false'. Refute it at one input. -/
def fnDftTwiceWrong : ChangeSpec := { name := "fnDftTwice", fn := fun _ => fun
  | [d] => { results := [.lit (.bool false)], args := [d] }
  | _ => none }
def FnDftTwiceWrongFalsely : Prop := fnDftTwiceRow.holds Try.pinned (OpenSpec.ofChange fnDftTwiceWrong)

/- THE SECOND FORM. 'bulk': how many values and letters a reading holds, each counted each time it is reached (what is shared counts as often as it is met; a slice's spare places count too). A statement '..UptoSaid' is the law's where the arguments, and the package variables that the reading takes, are together of bulk at most 1048576: NARROWER than '..Said'. Prove '..Said' where nothing that the law and all that it calls make is longer than what came in: it says more and counts as full. Else prove '..UptoSaid'. A law counts once. -/
mutual
def uptoBulk {H : Type} : DataW H → Nat
  | .lit (.string bytes) => bytes.length + 1
  | .lit _ => 1
  | .nil => 1
  | .ptr d => uptoBulk d + 1
  | .slice elems spare => uptoBulkAll elems + uptoBulkAll spare + 1
  | .agg parts => uptoBulkAll parts + 1
  | .iface _ d => uptoBulk d + 1
  | .map entries => uptoBulkEntries entries + 1
  | .held _ => 1
def uptoBulkAll {H : Type} : List (DataW H) → Nat
  | [] => 0
  | d :: r => uptoBulk d + uptoBulkAll r
def uptoBulkEntries {H : Type} : List (Lit × DataW H) → Nat
  | [] => 0
  | x :: r => uptoBulkEntry x + uptoBulkEntries r
def uptoBulkEntry {H : Type} : Lit × DataW H → Nat
  | (.string bytes, d) => bytes.length + uptoBulk d + 1
  | (_, d) => uptoBulk d + 1
 end
def uptoSmall : (H : Type) → List (DataW H) → Bool := fun _ ds => decide (uptoBulkAll ds ≤ 1048576)
def OpenSpec.upto (s : _root_.Go.ChangeSpec) : _root_.Go.OpenSpec := { _root_.Go.OpenSpec.ofChange s with cond := some uptoSmall }

/-- 'laws.FnExactConvolve', WHERE WHAT IT READS IS OF BULK AT MOST 1048576: true; the input reads as it did. -/
def fnExactConvolveUptoRow : OpenClaim := { program := "ytilcnbommpncgaa", sum := "d78ecf0f25d22fad6501d3bd3307bfb35dda571060e47727f7f737f8ededfe13", func := "loop.example/g00043/laws.FnExactConvolve", spec := "fnExactConvolve", apart := false, narrowed := true }
def FnExactConvolveUptoSaid : Prop := fnExactConvolveUptoRow.holds Try.pinned (OpenSpec.upto fnExactConvolveSpec)

/-- 'laws.FnExactBlocks', WHERE WHAT IT READS IS OF BULK AT MOST 1048576: true; the input reads as it did. -/
def fnExactBlocksUptoRow : OpenClaim := { program := "ytilcnbommpncgaa", sum := "d78ecf0f25d22fad6501d3bd3307bfb35dda571060e47727f7f737f8ededfe13", func := "loop.example/g00043/laws.FnExactBlocks", spec := "fnExactBlocks", apart := false, narrowed := true }
def FnExactBlocksUptoSaid : Prop := fnExactBlocksUptoRow.holds Try.pinned (OpenSpec.upto fnExactBlocksSpec)

/-- 'laws.FnInverse', WHERE WHAT IT READS IS OF BULK AT MOST 1048576: true; the input reads as it did. -/
def fnInverseUptoRow : OpenClaim := { program := "ytilcnbommpncgaa", sum := "d78ecf0f25d22fad6501d3bd3307bfb35dda571060e47727f7f737f8ededfe13", func := "loop.example/g00043/laws.FnInverse", spec := "fnInverse", apart := false, narrowed := true }
def FnInverseUptoSaid : Prop := fnInverseUptoRow.holds Try.pinned (OpenSpec.upto fnInverseSpec)

/-- 'laws.FnExactWalsh', WHERE WHAT IT READS IS OF BULK AT MOST 1048576: true; the input reads as it did. -/
def fnExactWalshUptoRow : OpenClaim := { program := "ytilcnbommpncgaa", sum := "d78ecf0f25d22fad6501d3bd3307bfb35dda571060e47727f7f737f8ededfe13", func := "loop.example/g00043/laws.FnExactWalsh", spec := "fnExactWalsh", apart := false, narrowed := true }
def FnExactWalshUptoSaid : Prop := fnExactWalshUptoRow.holds Try.pinned (OpenSpec.upto fnExactWalshSpec)

/-- 'laws.FnBlocksAlike', WHERE WHAT IT READS IS OF BULK AT MOST 1048576: true; the input reads as it did. -/
def fnBlocksAlikeUptoRow : OpenClaim := { program := "ytilcnbommpncgaa", sum := "d78ecf0f25d22fad6501d3bd3307bfb35dda571060e47727f7f737f8ededfe13", func := "loop.example/g00043/laws.FnBlocksAlike", spec := "fnBlocksAlike", apart := false, narrowed := true }
def FnBlocksAlikeUptoSaid : Prop := fnBlocksAlikeUptoRow.holds Try.pinned (OpenSpec.upto fnBlocksAlikeSpec)

/-- 'laws.FnExactDft', WHERE WHAT IT READS IS OF BULK AT MOST 1048576: true; the input reads as it did. -/
def fnExactDftUptoRow : OpenClaim := { program := "ytilcnbommpncgaa", sum := "d78ecf0f25d22fad6501d3bd3307bfb35dda571060e47727f7f737f8ededfe13", func := "loop.example/g00043/laws.FnExactDft", spec := "fnExactDft", apart := false, narrowed := true }
def FnExactDftUptoSaid : Prop := fnExactDftUptoRow.holds Try.pinned (OpenSpec.upto fnExactDftSpec)

/-- 'laws.FnWalshTwice', WHERE WHAT IT READS IS OF BULK AT MOST 1048576: true; the input reads as it did. -/
def fnWalshTwiceUptoRow : OpenClaim := { program := "ytilcnbommpncgaa", sum := "d78ecf0f25d22fad6501d3bd3307bfb35dda571060e47727f7f737f8ededfe13", func := "loop.example/g00043/laws.FnWalshTwice", spec := "fnWalshTwice", apart := false, narrowed := true }
def FnWalshTwiceUptoSaid : Prop := fnWalshTwiceUptoRow.holds Try.pinned (OpenSpec.upto fnWalshTwiceSpec)

/-- 'laws.FnConvolved', WHERE WHAT IT READS IS OF BULK AT MOST 1048576: true; the input reads as it did. -/
def fnConvolvedUptoRow : OpenClaim := { program := "ytilcnbommpncgaa", sum := "d78ecf0f25d22fad6501d3bd3307bfb35dda571060e47727f7f737f8ededfe13", func := "loop.example/g00043/laws.FnConvolved", spec := "fnConvolved", apart := false, narrowed := true }
def FnConvolvedUptoSaid : Prop := fnConvolvedUptoRow.holds Try.pinned (OpenSpec.upto fnConvolvedSpec)

/-- 'laws.FnDftBack', WHERE WHAT IT READS IS OF BULK AT MOST 1048576: true; the input reads as it did. -/
def fnDftBackUptoRow : OpenClaim := { program := "ytilcnbommpncgaa", sum := "d78ecf0f25d22fad6501d3bd3307bfb35dda571060e47727f7f737f8ededfe13", func := "loop.example/g00043/laws.FnDftBack", spec := "fnDftBack", apart := false, narrowed := true }
def FnDftBackUptoSaid : Prop := fnDftBackUptoRow.holds Try.pinned (OpenSpec.upto fnDftBackSpec)

/-- 'laws.FnExactDft2', WHERE WHAT IT READS IS OF BULK AT MOST 1048576: true; the input reads as it did. -/
def fnExactDft2UptoRow : OpenClaim := { program := "ytilcnbommpncgaa", sum := "d78ecf0f25d22fad6501d3bd3307bfb35dda571060e47727f7f737f8ededfe13", func := "loop.example/g00043/laws.FnExactDft2", spec := "fnExactDft2", apart := false, narrowed := true }
def FnExactDft2UptoSaid : Prop := fnExactDft2UptoRow.holds Try.pinned (OpenSpec.upto fnExactDft2Spec)

/-- 'laws.FnDftTwice', WHERE WHAT IT READS IS OF BULK AT MOST 1048576: true; the input reads as it did. -/
def fnDftTwiceUptoRow : OpenClaim := { program := "ytilcnbommpncgaa", sum := "d78ecf0f25d22fad6501d3bd3307bfb35dda571060e47727f7f737f8ededfe13", func := "loop.example/g00043/laws.FnDftTwice", spec := "fnDftTwice", apart := false, narrowed := true }
def FnDftTwiceUptoSaid : Prop := fnDftTwiceUptoRow.holds Try.pinned (OpenSpec.upto fnDftTwiceSpec)

end Rows
end Go.Proofs.Ytilcnbommpncgaa
