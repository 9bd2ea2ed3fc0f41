/-
  No cell of these rows narrows 'for every input' (looked for: loops, veiled, ifaces, maps, wideKeys, modest, calm, conditions, laid).
  DERIVED. THE GIVEN ROWS OF THIS SEAT. 11 by the template 'for every input the law returns true; each argument reads behind the call as it read before'; 0 by the template 'total and deterministic' (their statements: YtinpmpdkoedjnaaTotals.lean).
  GIVEN WITH THE SEED: the statements are not yours to turn. If you find one false, say at which input.
  Laid BY PROGRAM, IN A SANDBOX (cutbox-rows.mjs): the forced cells as the released guide's own fill.sh prints them over the translation c5cbebc18ab65945… (all of the seat's roots in one cut). By AI agents, Wed Nov 11 2026. No macro, syntax, notation, axiom, sorry.
-/
import Derived.Test.YtinpmpdkoedjnaaChecked
import GoSem.Claim
import GoSem.ClaimJoined
import GoSem.ClaimMapViews
import Derived.JoinedTies
import Derived.KernelRfl
namespace Go.Proofs.Ytinpmpdkoedjnaa
/- THE CELL 'sum', in the pinned program and in every row, IS THE sha256 OF THE DUMP (.gsa) THAT YtinpmpdkoedjnaaProg.lean LOADS. Nothing in Lean hashes anything: it is a label: what it is worth is what the hold of that sum in a sandbox is worth. -/
noncomputable def Try.pinned : Pinned := { name := "ytinpmpdkoedjnaa", sum := "c5cbebc18ab659452eb17def03091006310729a45fe317f77e7365b0b6a7ba2e", checked := Try.checked }
namespace Rows
def none {H : Type} : Left H := { results := [], args := [] }

/-- 'laws.FnExactComb': WHATEVER THE INPUT: true; the input reads as it did. -/
def fnExactCombSpec : ChangeSpec := { name := "fnExactComb", fn := fun _ => fun
  | [d1, d2] => { results := [.lit (.bool true)], args := [d1, d2] }
  | _ => none }
def fnExactCombRow : OpenClaim := { program := "ytinpmpdkoedjnaa", sum := "c5cbebc18ab659452eb17def03091006310729a45fe317f77e7365b0b6a7ba2e", func := "loop.example/g00043/laws.FnExactComb", spec := "fnExactComb", apart := false }
def FnExactCombSaid : Prop := fnExactCombRow.holds Try.pinned (OpenSpec.ofChange fnExactCombSpec)

/-- ITS FALSE NEIGHBOUR: 'it returns false'. Refute it at one input. -/
def fnExactCombWrong : ChangeSpec := { name := "fnExactComb", fn := fun _ => fun
  | [d1, d2] => { results := [.lit (.bool false)], args := [d1, d2] }
  | _ => none }
def FnExactCombWrongFalsely : Prop := fnExactCombRow.holds Try.pinned (OpenSpec.ofChange fnExactCombWrong)

/-- 'laws.FnExactTap': WHATEVER THE INPUT: true; the input reads as it did. -/
def fnExactTapSpec : ChangeSpec := { name := "fnExactTap", fn := fun _ => fun
  | [d1, d2] => { results := [.lit (.bool true)], args := [d1, d2] }
  | _ => none }
def fnExactTapRow : OpenClaim := { program := "ytinpmpdkoedjnaa", sum := "c5cbebc18ab659452eb17def03091006310729a45fe317f77e7365b0b6a7ba2e", func := "loop.example/g00043/laws.FnExactTap", spec := "fnExactTap", apart := false }
def FnExactTapSaid : Prop := fnExactTapRow.holds Try.pinned (OpenSpec.ofChange fnExactTapSpec)

/-- ITS FALSE NEIGHBOUR: 'it returns false'. Refute it at one input. -/
def fnExactTapWrong : ChangeSpec := { name := "fnExactTap", fn := fun _ => fun
  | [d1, d2] => { results := [.lit (.bool false)], args := [d1, d2] }
  | _ => none }
def FnExactTapWrongFalsely : Prop := fnExactTapRow.holds Try.pinned (OpenSpec.ofChange fnExactTapWrong)

/-- 'laws.FnExactGather': WHATEVER THE INPUT: true; the input reads as it did. -/
def fnExactGatherSpec : ChangeSpec := { name := "fnExactGather", fn := fun _ => fun
  | [d1, d2] => { results := [.lit (.bool true)], args := [d1, d2] }
  | _ => none }
def fnExactGatherRow : OpenClaim := { program := "ytinpmpdkoedjnaa", sum := "c5cbebc18ab659452eb17def03091006310729a45fe317f77e7365b0b6a7ba2e", func := "loop.example/g00043/laws.FnExactGather", spec := "fnExactGather", apart := false }
def FnExactGatherSaid : Prop := fnExactGatherRow.holds Try.pinned (OpenSpec.ofChange fnExactGatherSpec)

/-- ITS FALSE NEIGHBOUR: 'it returns false'. Refute it at one input. -/
def fnExactGatherWrong : ChangeSpec := { name := "fnExactGather", fn := fun _ => fun
  | [d1, d2] => { results := [.lit (.bool false)], args := [d1, d2] }
  | _ => none }
def FnExactGatherWrongFalsely : Prop := fnExactGatherRow.holds Try.pinned (OpenSpec.ofChange fnExactGatherWrong)

/-- 'laws.FnExactCic': WHATEVER THE INPUT: true; the input reads as it did. -/
def fnExactCicSpec : ChangeSpec := { name := "fnExactCic", fn := fun _ => fun
  | [d1, d2, d3] => { results := [.lit (.bool true)], args := [d1, d2, d3] }
  | _ => none }
def fnExactCicRow : OpenClaim := { program := "ytinpmpdkoedjnaa", sum := "c5cbebc18ab659452eb17def03091006310729a45fe317f77e7365b0b6a7ba2e", func := "loop.example/g00043/laws.FnExactCic", spec := "fnExactCic", apart := false }
def FnExactCicSaid : Prop := fnExactCicRow.holds Try.pinned (OpenSpec.ofChange fnExactCicSpec)

/-- ITS FALSE NEIGHBOUR: 'it returns false'. Refute it at one input. -/
def fnExactCicWrong : ChangeSpec := { name := "fnExactCic", fn := fun _ => fun
  | [d1, d2, d3] => { results := [.lit (.bool false)], args := [d1, d2, d3] }
  | _ => none }
def FnExactCicWrongFalsely : Prop := fnExactCicRow.holds Try.pinned (OpenSpec.ofChange fnExactCicWrong)

/-- 'laws.FnExactFir': WHATEVER THE INPUT: true; the input reads as it did. -/
def fnExactFirSpec : ChangeSpec := { name := "fnExactFir", fn := fun _ => fun
  | [d1, d2, d3] => { results := [.lit (.bool true)], args := [d1, d2, d3] }
  | _ => none }
def fnExactFirRow : OpenClaim := { program := "ytinpmpdkoedjnaa", sum := "c5cbebc18ab659452eb17def03091006310729a45fe317f77e7365b0b6a7ba2e", func := "loop.example/g00043/laws.FnExactFir", spec := "fnExactFir", apart := false }
def FnExactFirSaid : Prop := fnExactFirRow.holds Try.pinned (OpenSpec.ofChange fnExactFirSpec)

/-- ITS FALSE NEIGHBOUR: 'it returns false'. Refute it at one input. -/
def fnExactFirWrong : ChangeSpec := { name := "fnExactFir", fn := fun _ => fun
  | [d1, d2, d3] => { results := [.lit (.bool false)], args := [d1, d2, d3] }
  | _ => none }
def FnExactFirWrongFalsely : Prop := fnExactFirRow.holds Try.pinned (OpenSpec.ofChange fnExactFirWrong)

/-- 'laws.FnExactFirTurned': WHATEVER THE INPUT: true; the input reads as it did. -/
def fnExactFirTurnedSpec : ChangeSpec := { name := "fnExactFirTurned", fn := fun _ => fun
  | [d1, d2, d3] => { results := [.lit (.bool true)], args := [d1, d2, d3] }
  | _ => none }
def fnExactFirTurnedRow : OpenClaim := { program := "ytinpmpdkoedjnaa", sum := "c5cbebc18ab659452eb17def03091006310729a45fe317f77e7365b0b6a7ba2e", func := "loop.example/g00043/laws.FnExactFirTurned", spec := "fnExactFirTurned", apart := false }
def FnExactFirTurnedSaid : Prop := fnExactFirTurnedRow.holds Try.pinned (OpenSpec.ofChange fnExactFirTurnedSpec)

/-- ITS FALSE NEIGHBOUR: 'it returns false'. Refute it at one input. -/
def fnExactFirTurnedWrong : ChangeSpec := { name := "fnExactFirTurned", fn := fun _ => fun
  | [d1, d2, d3] => { results := [.lit (.bool false)], args := [d1, d2, d3] }
  | _ => none }
def FnExactFirTurnedWrongFalsely : Prop := fnExactFirTurnedRow.holds Try.pinned (OpenSpec.ofChange fnExactFirTurnedWrong)

/-- 'laws.FnFirConvolves': WHATEVER THE INPUT: true; the input reads as it did. -/
def fnFirConvolvesSpec : ChangeSpec := { name := "fnFirConvolves", fn := fun _ => fun
  | [d] => { results := [.lit (.bool true)], args := [d] }
  | _ => none }
def fnFirConvolvesRow : OpenClaim := { program := "ytinpmpdkoedjnaa", sum := "c5cbebc18ab659452eb17def03091006310729a45fe317f77e7365b0b6a7ba2e", func := "loop.example/g00043/laws.FnFirConvolves", spec := "fnFirConvolves", apart := false }
def FnFirConvolvesSaid : Prop := fnFirConvolvesRow.holds Try.pinned (OpenSpec.ofChange fnFirConvolvesSpec)

/-- ITS FALSE NEIGHBOUR: 'it returns false'. Refute it at one input. -/
def fnFirConvolvesWrong : ChangeSpec := { name := "fnFirConvolves", fn := fun _ => fun
  | [d] => { results := [.lit (.bool false)], args := [d] }
  | _ => none }
def FnFirConvolvesWrongFalsely : Prop := fnFirConvolvesRow.holds Try.pinned (OpenSpec.ofChange fnFirConvolvesWrong)

/-- 'laws.FnExactRational': WHATEVER THE INPUT: true; the input reads as it did. -/
def fnExactRationalSpec : ChangeSpec := { name := "fnExactRational", fn := fun _ => fun
  | [d1, d2, d3, d4] => { results := [.lit (.bool true)], args := [d1, d2, d3, d4] }
  | _ => none }
def fnExactRationalRow : OpenClaim := { program := "ytinpmpdkoedjnaa", sum := "c5cbebc18ab659452eb17def03091006310729a45fe317f77e7365b0b6a7ba2e", func := "loop.example/g00043/laws.FnExactRational", spec := "fnExactRational", apart := false }
def FnExactRationalSaid : Prop := fnExactRationalRow.holds Try.pinned (OpenSpec.ofChange fnExactRationalSpec)

/-- ITS FALSE NEIGHBOUR: 'it returns false'. Refute it at one input. -/
def fnExactRationalWrong : ChangeSpec := { name := "fnExactRational", fn := fun _ => fun
  | [d1, d2, d3, d4] => { results := [.lit (.bool false)], args := [d1, d2, d3, d4] }
  | _ => none }
def FnExactRationalWrongFalsely : Prop := fnExactRationalRow.holds Try.pinned (OpenSpec.ofChange fnExactRationalWrong)

/-- 'laws.FnFirPieces': WHATEVER THE INPUT: true; the input reads as it did. -/
def fnFirPiecesSpec : ChangeSpec := { name := "fnFirPieces", fn := fun _ => fun
  | [d] => { results := [.lit (.bool true)], args := [d] }
  | _ => none }
def fnFirPiecesRow : OpenClaim := { program := "ytinpmpdkoedjnaa", sum := "c5cbebc18ab659452eb17def03091006310729a45fe317f77e7365b0b6a7ba2e", func := "loop.example/g00043/laws.FnFirPieces", spec := "fnFirPieces", apart := false }
def FnFirPiecesSaid : Prop := fnFirPiecesRow.holds Try.pinned (OpenSpec.ofChange fnFirPiecesSpec)

/-- ITS FALSE NEIGHBOUR: 'it returns false'. Refute it at one input. -/
def fnFirPiecesWrong : ChangeSpec := { name := "fnFirPieces", fn := fun _ => fun
  | [d] => { results := [.lit (.bool false)], args := [d] }
  | _ => none }
def FnFirPiecesWrongFalsely : Prop := fnFirPiecesRow.holds Try.pinned (OpenSpec.ofChange fnFirPiecesWrong)

/-- 'laws.FnCombs': WHATEVER THE INPUT: true; the input reads as it did. -/
def fnCombsSpec : ChangeSpec := { name := "fnCombs", fn := fun _ => fun
  | [d] => { results := [.lit (.bool true)], args := [d] }
  | _ => none }
def fnCombsRow : OpenClaim := { program := "ytinpmpdkoedjnaa", sum := "c5cbebc18ab659452eb17def03091006310729a45fe317f77e7365b0b6a7ba2e", func := "loop.example/g00043/laws.FnCombs", spec := "fnCombs", apart := false }
def FnCombsSaid : Prop := fnCombsRow.holds Try.pinned (OpenSpec.ofChange fnCombsSpec)

/-- ITS FALSE NEIGHBOUR: 'it returns false'. Refute it at one input. -/
def fnCombsWrong : ChangeSpec := { name := "fnCombs", fn := fun _ => fun
  | [d] => { results := [.lit (.bool false)], args := [d] }
  | _ => none }
def FnCombsWrongFalsely : Prop := fnCombsRow.holds Try.pinned (OpenSpec.ofChange fnCombsWrong)

/-- 'laws.FnCic': WHATEVER THE INPUT: true; the input reads as it did. -/
def fnCicSpec : ChangeSpec := { name := "fnCic", fn := fun _ => fun
  | [d] => { results := [.lit (.bool true)], args := [d] }
  | _ => none }
def fnCicRow : OpenClaim := { program := "ytinpmpdkoedjnaa", sum := "c5cbebc18ab659452eb17def03091006310729a45fe317f77e7365b0b6a7ba2e", func := "loop.example/g00043/laws.FnCic", spec := "fnCic", apart := false }
def FnCicSaid : Prop := fnCicRow.holds Try.pinned (OpenSpec.ofChange fnCicSpec)

/-- ITS FALSE NEIGHBOUR: 'it returns false'. Refute it at one input. -/
def fnCicWrong : ChangeSpec := { name := "fnCic", fn := fun _ => fun
  | [d] => { results := [.lit (.bool false)], args := [d] }
  | _ => none }
def FnCicWrongFalsely : Prop := fnCicRow.holds Try.pinned (OpenSpec.ofChange fnCicWrong)

/- THE SECOND FORM. 'bulk': how many values and letters a reading holds, each counted each time it is reached (what is shared counts as often as it is met; a slice's spare places count too). A statement '..UptoSaid' is the law's where the arguments, and the package variables that the reading takes, are together of bulk at most 1048576: NARROWER than '..Said'. Prove '..Said' where nothing that the law and all that it calls make is longer than what came in: it says more and counts as full. Else prove '..UptoSaid'. A law counts once. -/
mutual
def uptoBulk {H : Type} : DataW H → Nat
  | .lit (.string bytes) => bytes.length + 1
  | .lit _ => 1
  | .nil => 1
  | .ptr d => uptoBulk d + 1
  | .slice elems spare => uptoBulkAll elems + uptoBulkAll spare + 1
  | .agg parts => uptoBulkAll parts + 1
  | .iface _ d => uptoBulk d + 1
  | .map entries => uptoBulkEntries entries + 1
  | .held _ => 1
def uptoBulkAll {H : Type} : List (DataW H) → Nat
  | [] => 0
  | d :: r => uptoBulk d + uptoBulkAll r
def uptoBulkEntries {H : Type} : List (Lit × DataW H) → Nat
  | [] => 0
  | x :: r => uptoBulkEntry x + uptoBulkEntries r
def uptoBulkEntry {H : Type} : Lit × DataW H → Nat
  | (.string bytes, d) => bytes.length + uptoBulk d + 1
  | (_, d) => uptoBulk d + 1
 end
def uptoSmall : (H : Type) → List (DataW H) → Bool := fun _ ds => decide (uptoBulkAll ds ≤ 1048576)
def OpenSpec.upto (s : _root_.Go.ChangeSpec) : _root_.Go.OpenSpec := { _root_.Go.OpenSpec.ofChange s with cond := some uptoSmall }

/-- 'laws.FnExactComb', WHERE WHAT IT READS IS OF BULK AT MOST 1048576: true; the input reads as it did. -/
def fnExactCombUptoRow : OpenClaim := { program := "ytinpmpdkoedjnaa", sum := "c5cbebc18ab659452eb17def03091006310729a45fe317f77e7365b0b6a7ba2e", func := "loop.example/g00043/laws.FnExactComb", spec := "fnExactComb", apart := false, narrowed := true }
def FnExactCombUptoSaid : Prop := fnExactCombUptoRow.holds Try.pinned (OpenSpec.upto fnExactCombSpec)

/-- 'laws.FnExactTap', WHERE WHAT IT READS IS OF BULK AT MOST 1048576: true; the input reads as it did. -/
def fnExactTapUptoRow : OpenClaim := { program := "ytinpmpdkoedjnaa", sum := "c5cbebc18ab659452eb17def03091006310729a45fe317f77e7365b0b6a7ba2e", func := "loop.example/g00043/laws.FnExactTap", spec := "fnExactTap", apart := false, narrowed := true }
def FnExactTapUptoSaid : Prop := fnExactTapUptoRow.holds Try.pinned (OpenSpec.upto fnExactTapSpec)

/-- 'laws.FnExactGather', WHERE WHAT IT READS IS OF BULK AT MOST 1048576: true; the input reads as it did. -/
def fnExactGatherUptoRow : OpenClaim := { program := "ytinpmpdkoedjnaa", sum := "c5cbebc18ab659452eb17def03091006310729a45fe317f77e7365b0b6a7ba2e", func := "loop.example/g00043/laws.FnExactGather", spec := "fnExactGather", apart := false, narrowed := true }
def FnExactGatherUptoSaid : Prop := fnExactGatherUptoRow.holds Try.pinned (OpenSpec.upto fnExactGatherSpec)

/-- 'laws.FnExactCic', WHERE WHAT IT READS IS OF BULK AT MOST 1048576: true; the input reads as it did. -/
def fnExactCicUptoRow : OpenClaim := { program := "ytinpmpdkoedjnaa", sum := "c5cbebc18ab659452eb17def03091006310729a45fe317f77e7365b0b6a7ba2e", func := "loop.example/g00043/laws.FnExactCic", spec := "fnExactCic", apart := false, narrowed := true }
def FnExactCicUptoSaid : Prop := fnExactCicUptoRow.holds Try.pinned (OpenSpec.upto fnExactCicSpec)

/-- 'laws.FnExactFir', WHERE WHAT IT READS IS OF BULK AT MOST 1048576: true; the input reads as it did. -/
def fnExactFirUptoRow : OpenClaim := { program := "ytinpmpdkoedjnaa", sum := "c5cbebc18ab659452eb17def03091006310729a45fe317f77e7365b0b6a7ba2e", func := "loop.example/g00043/laws.FnExactFir", spec := "fnExactFir", apart := false, narrowed := true }
def FnExactFirUptoSaid : Prop := fnExactFirUptoRow.holds Try.pinned (OpenSpec.upto fnExactFirSpec)

/-- 'laws.FnExactFirTurned', WHERE WHAT IT READS IS OF BULK AT MOST 1048576: true; the input reads as it did. -/
def fnExactFirTurnedUptoRow : OpenClaim := { program := "ytinpmpdkoedjnaa", sum := "c5cbebc18ab659452eb17def03091006310729a45fe317f77e7365b0b6a7ba2e", func := "loop.example/g00043/laws.FnExactFirTurned", spec := "fnExactFirTurned", apart := false, narrowed := true }
def FnExactFirTurnedUptoSaid : Prop := fnExactFirTurnedUptoRow.holds Try.pinned (OpenSpec.upto fnExactFirTurnedSpec)

/-- 'laws.FnFirConvolves', WHERE WHAT IT READS IS OF BULK AT MOST 1048576: true; the input reads as it did. -/
def fnFirConvolvesUptoRow : OpenClaim := { program := "ytinpmpdkoedjnaa", sum := "c5cbebc18ab659452eb17def03091006310729a45fe317f77e7365b0b6a7ba2e", func := "loop.example/g00043/laws.FnFirConvolves", spec := "fnFirConvolves", apart := false, narrowed := true }
def FnFirConvolvesUptoSaid : Prop := fnFirConvolvesUptoRow.holds Try.pinned (OpenSpec.upto fnFirConvolvesSpec)

/-- 'laws.FnExactRational', WHERE WHAT IT READS IS OF BULK AT MOST 1048576: true; the input reads as it did. -/
def fnExactRationalUptoRow : OpenClaim := { program := "ytinpmpdkoedjnaa", sum := "c5cbebc18ab659452eb17def03091006310729a45fe317f77e7365b0b6a7ba2e", func := "loop.example/g00043/laws.FnExactRational", spec := "fnExactRational", apart := false, narrowed := true }
def FnExactRationalUptoSaid : Prop := fnExactRationalUptoRow.holds Try.pinned (OpenSpec.upto fnExactRationalSpec)

/-- 'laws.FnFirPieces', WHERE WHAT IT READS IS OF BULK AT MOST 1048576: true; the input reads as it did. -/
def fnFirPiecesUptoRow : OpenClaim := { program := "ytinpmpdkoedjnaa", sum := "c5cbebc18ab659452eb17def03091006310729a45fe317f77e7365b0b6a7ba2e", func := "loop.example/g00043/laws.FnFirPieces", spec := "fnFirPieces", apart := false, narrowed := true }
def FnFirPiecesUptoSaid : Prop := fnFirPiecesUptoRow.holds Try.pinned (OpenSpec.upto fnFirPiecesSpec)

/-- 'laws.FnCombs', WHERE WHAT IT READS IS OF BULK AT MOST 1048576: true; the input reads as it did. -/
def fnCombsUptoRow : OpenClaim := { program := "ytinpmpdkoedjnaa", sum := "c5cbebc18ab659452eb17def03091006310729a45fe317f77e7365b0b6a7ba2e", func := "loop.example/g00043/laws.FnCombs", spec := "fnCombs", apart := false, narrowed := true }
def FnCombsUptoSaid : Prop := fnCombsUptoRow.holds Try.pinned (OpenSpec.upto fnCombsSpec)

/-- 'laws.FnCic', WHERE WHAT IT READS IS OF BULK AT MOST 1048576: true; the input reads as it did. -/
def fnCicUptoRow : OpenClaim := { program := "ytinpmpdkoedjnaa", sum := "c5cbebc18ab659452eb17def03091006310729a45fe317f77e7365b0b6a7ba2e", func := "loop.example/g00043/laws.FnCic", spec := "fnCic", apart := false, narrowed := true }
def FnCicUptoSaid : Prop := fnCicUptoRow.holds Try.pinned (OpenSpec.upto fnCicSpec)

end Rows
end Go.Proofs.Ytinpmpdkoedjnaa
