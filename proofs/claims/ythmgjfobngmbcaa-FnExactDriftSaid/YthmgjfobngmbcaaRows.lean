/-
  No cell of these rows narrows 'for every input' (looked for: loops, veiled, ifaces, maps, wideKeys, modest, calm, conditions, laid).
  DERIVED. THE GIVEN ROWS OF THIS SEAT. 9 by the template 'for every input the law returns true; each argument reads behind the call as it read before'; 0 by the template 'total and deterministic' (their statements: YthmgjfobngmbcaaTotals.lean).
  GIVEN WITH THE SEED: the statements are not yours to turn. If you find one false, say at which input.
  Laid BY PROGRAM, IN A SANDBOX (cutbox-rows.mjs): the forced cells as the released guide's own fill.sh prints them over the translation 184c46e4643601ec… (all of the seat's roots in one cut). By AI agents, Wed Nov 11 2026. No macro, syntax, notation, axiom, sorry.
-/
import Derived.Test.YthmgjfobngmbcaaChecked
import GoSem.Claim
import GoSem.ClaimJoined
import GoSem.ClaimMapViews
import Derived.JoinedTies
import Derived.KernelRfl
namespace Go.Proofs.Ythmgjfobngmbcaa
/- THE CELL 'sum', in the pinned program and in every row, IS THE sha256 OF THE DUMP (.gsa) THAT YthmgjfobngmbcaaProg.lean LOADS. Nothing in Lean hashes anything: it is a label: what it is worth is what the hold of that sum in a sandbox is worth. -/
noncomputable def Try.pinned : Pinned := { name := "ythmgjfobngmbcaa", sum := "184c46e4643601ec829cffbe5a809b2795aff7adc74f3a13ff0d87c228562e02", checked := Try.checked }
namespace Rows
def none {H : Type} : Left H := { results := [], args := [] }

/-- 'laws.FnExactQuiet': WHATEVER THE INPUT: true; the input reads as it did. -/
def fnExactQuietSpec : ChangeSpec := { name := "fnExactQuiet", fn := fun _ => fun
  | [d1, d2] => { results := [.lit (.bool true)], args := [d1, d2] }
  | _ => none }
def fnExactQuietRow : OpenClaim := { program := "ythmgjfobngmbcaa", sum := "184c46e4643601ec829cffbe5a809b2795aff7adc74f3a13ff0d87c228562e02", func := "loop.example/g00043/laws.FnExactQuiet", spec := "fnExactQuiet", apart := false }
def FnExactQuietSaid : Prop := fnExactQuietRow.holds Try.pinned (OpenSpec.ofChange fnExactQuietSpec)

/-- ITS FALSE NEIGHBOUR: 'it returns false'. Refute it at one input. -/
def fnExactQuietWrong : ChangeSpec := { name := "fnExactQuiet", fn := fun _ => fun
  | [d1, d2] => { results := [.lit (.bool false)], args := [d1, d2] }
  | _ => none }
def FnExactQuietWrongFalsely : Prop := fnExactQuietRow.holds Try.pinned (OpenSpec.ofChange fnExactQuietWrong)

/-- 'laws.FnExactAround': WHATEVER THE INPUT: true; the input reads as it did. -/
def fnExactAroundSpec : ChangeSpec := { name := "fnExactAround", fn := fun _ => fun
  | [d1, d2] => { results := [.lit (.bool true)], args := [d1, d2] }
  | _ => none }
def fnExactAroundRow : OpenClaim := { program := "ythmgjfobngmbcaa", sum := "184c46e4643601ec829cffbe5a809b2795aff7adc74f3a13ff0d87c228562e02", func := "loop.example/g00043/laws.FnExactAround", spec := "fnExactAround", apart := false }
def FnExactAroundSaid : Prop := fnExactAroundRow.holds Try.pinned (OpenSpec.ofChange fnExactAroundSpec)

/-- ITS FALSE NEIGHBOUR: 'it returns false'. Refute it at one input. -/
def fnExactAroundWrong : ChangeSpec := { name := "fnExactAround", fn := fun _ => fun
  | [d1, d2] => { results := [.lit (.bool false)], args := [d1, d2] }
  | _ => none }
def FnExactAroundWrongFalsely : Prop := fnExactAroundRow.holds Try.pinned (OpenSpec.ofChange fnExactAroundWrong)

/-- 'laws.FnExactDown': WHATEVER THE INPUT: true; the input reads as it did. -/
def fnExactDownSpec : ChangeSpec := { name := "fnExactDown", fn := fun _ => fun
  | [d1, d2, d3] => { results := [.lit (.bool true)], args := [d1, d2, d3] }
  | _ => none }
def fnExactDownRow : OpenClaim := { program := "ythmgjfobngmbcaa", sum := "184c46e4643601ec829cffbe5a809b2795aff7adc74f3a13ff0d87c228562e02", func := "loop.example/g00043/laws.FnExactDown", spec := "fnExactDown", apart := false }
def FnExactDownSaid : Prop := fnExactDownRow.holds Try.pinned (OpenSpec.ofChange fnExactDownSpec)

/-- ITS FALSE NEIGHBOUR: 'it returns false'. Refute it at one input. -/
def fnExactDownWrong : ChangeSpec := { name := "fnExactDown", fn := fun _ => fun
  | [d1, d2, d3] => { results := [.lit (.bool false)], args := [d1, d2, d3] }
  | _ => none }
def FnExactDownWrongFalsely : Prop := fnExactDownRow.holds Try.pinned (OpenSpec.ofChange fnExactDownWrong)

/-- 'laws.FnExactUp': WHATEVER THE INPUT: true; the input reads as it did. -/
def fnExactUpSpec : ChangeSpec := { name := "fnExactUp", fn := fun _ => fun
  | [d1, d2] => { results := [.lit (.bool true)], args := [d1, d2] }
  | _ => none }
def fnExactUpRow : OpenClaim := { program := "ythmgjfobngmbcaa", sum := "184c46e4643601ec829cffbe5a809b2795aff7adc74f3a13ff0d87c228562e02", func := "loop.example/g00043/laws.FnExactUp", spec := "fnExactUp", apart := false }
def FnExactUpSaid : Prop := fnExactUpRow.holds Try.pinned (OpenSpec.ofChange fnExactUpSpec)

/-- ITS FALSE NEIGHBOUR: 'it returns false'. Refute it at one input. -/
def fnExactUpWrong : ChangeSpec := { name := "fnExactUp", fn := fun _ => fun
  | [d1, d2] => { results := [.lit (.bool false)], args := [d1, d2] }
  | _ => none }
def FnExactUpWrongFalsely : Prop := fnExactUpRow.holds Try.pinned (OpenSpec.ofChange fnExactUpWrong)

/-- 'laws.FnExactPush': WHATEVER THE INPUT: true; the input reads as it did. -/
def fnExactPushSpec : ChangeSpec := { name := "fnExactPush", fn := fun _ => fun
  | [d1, d2] => { results := [.lit (.bool true)], args := [d1, d2] }
  | _ => none }
def fnExactPushRow : OpenClaim := { program := "ythmgjfobngmbcaa", sum := "184c46e4643601ec829cffbe5a809b2795aff7adc74f3a13ff0d87c228562e02", func := "loop.example/g00043/laws.FnExactPush", spec := "fnExactPush", apart := false }
def FnExactPushSaid : Prop := fnExactPushRow.holds Try.pinned (OpenSpec.ofChange fnExactPushSpec)

/-- ITS FALSE NEIGHBOUR: 'it returns false'. Refute it at one input. -/
def fnExactPushWrong : ChangeSpec := { name := "fnExactPush", fn := fun _ => fun
  | [d1, d2] => { results := [.lit (.bool false)], args := [d1, d2] }
  | _ => none }
def FnExactPushWrongFalsely : Prop := fnExactPushRow.holds Try.pinned (OpenSpec.ofChange fnExactPushWrong)

/-- 'laws.FnExactDelay': WHATEVER THE INPUT: true; the input reads as it did. -/
def fnExactDelaySpec : ChangeSpec := { name := "fnExactDelay", fn := fun _ => fun
  | [d1, d2, d3] => { results := [.lit (.bool true)], args := [d1, d2, d3] }
  | _ => none }
def fnExactDelayRow : OpenClaim := { program := "ythmgjfobngmbcaa", sum := "184c46e4643601ec829cffbe5a809b2795aff7adc74f3a13ff0d87c228562e02", func := "loop.example/g00043/laws.FnExactDelay", spec := "fnExactDelay", unfollowed := true, recurses := true, apart := false }
def FnExactDelaySaid : Prop := fnExactDelayRow.holds Try.pinned (OpenSpec.ofChange fnExactDelaySpec)

/-- ITS FALSE NEIGHBOUR: 'it returns false'. Refute it at one input. -/
def fnExactDelayWrong : ChangeSpec := { name := "fnExactDelay", fn := fun _ => fun
  | [d1, d2, d3] => { results := [.lit (.bool false)], args := [d1, d2, d3] }
  | _ => none }
def FnExactDelayWrongFalsely : Prop := fnExactDelayRow.holds Try.pinned (OpenSpec.ofChange fnExactDelayWrong)

/-- 'laws.FnExactDrift': WHATEVER THE INPUT: true; the input reads as it did. -/
def fnExactDriftSpec : ChangeSpec := { name := "fnExactDrift", fn := fun _ => fun
  | [d1, d2, d3, d4] => { results := [.lit (.bool true)], args := [d1, d2, d3, d4] }
  | _ => none }
def fnExactDriftRow : OpenClaim := { program := "ythmgjfobngmbcaa", sum := "184c46e4643601ec829cffbe5a809b2795aff7adc74f3a13ff0d87c228562e02", func := "loop.example/g00043/laws.FnExactDrift", spec := "fnExactDrift", unfollowed := true, recurses := true, apart := false }
def FnExactDriftSaid : Prop := fnExactDriftRow.holds Try.pinned (OpenSpec.ofChange fnExactDriftSpec)

/-- ITS FALSE NEIGHBOUR: 'it returns false'. Refute it at one input. -/
def fnExactDriftWrong : ChangeSpec := { name := "fnExactDrift", fn := fun _ => fun
  | [d1, d2, d3, d4] => { results := [.lit (.bool false)], args := [d1, d2, d3, d4] }
  | _ => none }
def FnExactDriftWrongFalsely : Prop := fnExactDriftRow.holds Try.pinned (OpenSpec.ofChange fnExactDriftWrong)

/-- 'laws.FnRinged': WHATEVER THE INPUT: true; the input reads as it did. -/
def fnRingedSpec : ChangeSpec := { name := "fnRinged", fn := fun _ => fun
  | [d] => { results := [.lit (.bool true)], args := [d] }
  | _ => none }
def fnRingedRow : OpenClaim := { program := "ythmgjfobngmbcaa", sum := "184c46e4643601ec829cffbe5a809b2795aff7adc74f3a13ff0d87c228562e02", func := "loop.example/g00043/laws.FnRinged", spec := "fnRinged", apart := false }
def FnRingedSaid : Prop := fnRingedRow.holds Try.pinned (OpenSpec.ofChange fnRingedSpec)

/-- ITS FALSE NEIGHBOUR: 'it returns false'. Refute it at one input. -/
def fnRingedWrong : ChangeSpec := { name := "fnRinged", fn := fun _ => fun
  | [d] => { results := [.lit (.bool false)], args := [d] }
  | _ => none }
def FnRingedWrongFalsely : Prop := fnRingedRow.holds Try.pinned (OpenSpec.ofChange fnRingedWrong)

/-- 'laws.FnUpDown': WHATEVER THE INPUT: true; the input reads as it did. -/
def fnUpDownSpec : ChangeSpec := { name := "fnUpDown", fn := fun _ => fun
  | [d] => { results := [.lit (.bool true)], args := [d] }
  | _ => none }
def fnUpDownRow : OpenClaim := { program := "ythmgjfobngmbcaa", sum := "184c46e4643601ec829cffbe5a809b2795aff7adc74f3a13ff0d87c228562e02", func := "loop.example/g00043/laws.FnUpDown", spec := "fnUpDown", apart := false }
def FnUpDownSaid : Prop := fnUpDownRow.holds Try.pinned (OpenSpec.ofChange fnUpDownSpec)

/-- ITS FALSE NEIGHBOUR: 'it returns false'. Refute it at one input. -/
def fnUpDownWrong : ChangeSpec := { name := "fnUpDown", fn := fun _ => fun
  | [d] => { results := [.lit (.bool false)], args := [d] }
  | _ => none }
def FnUpDownWrongFalsely : Prop := fnUpDownRow.holds Try.pinned (OpenSpec.ofChange fnUpDownWrong)

/- THE SECOND FORM. 'bulk': how many values and letters a reading holds, each counted each time it is reached (what is shared counts as often as it is met; a slice's spare places count too). A statement '..UptoSaid' is the law's where the arguments, and the package variables that the reading takes, are together of bulk at most 1048576: NARROWER than '..Said'. Prove '..Said' where nothing that the law and all that it calls make is longer than what came in: it says more and counts as full. Else prove '..UptoSaid'. A law counts once. -/
mutual
def uptoBulk {H : Type} : DataW H → Nat
  | .lit (.string bytes) => bytes.length + 1
  | .lit _ => 1
  | .nil => 1
  | .ptr d => uptoBulk d + 1
  | .slice elems spare => uptoBulkAll elems + uptoBulkAll spare + 1
  | .agg parts => uptoBulkAll parts + 1
  | .iface _ d => uptoBulk d + 1
  | .map entries => uptoBulkEntries entries + 1
  | .held _ => 1
def uptoBulkAll {H : Type} : List (DataW H) → Nat
  | [] => 0
  | d :: r => uptoBulk d + uptoBulkAll r
def uptoBulkEntries {H : Type} : List (Lit × DataW H) → Nat
  | [] => 0
  | x :: r => uptoBulkEntry x + uptoBulkEntries r
def uptoBulkEntry {H : Type} : Lit × DataW H → Nat
  | (.string bytes, d) => bytes.length + uptoBulk d + 1
  | (_, d) => uptoBulk d + 1
 end
def uptoSmall : (H : Type) → List (DataW H) → Bool := fun _ ds => decide (uptoBulkAll ds ≤ 1048576)
def OpenSpec.upto (s : _root_.Go.ChangeSpec) : _root_.Go.OpenSpec := { _root_.Go.OpenSpec.ofChange s with cond := some uptoSmall }

/-- 'laws.FnExactQuiet', WHERE WHAT IT READS IS OF BULK AT MOST 1048576: true; the input reads as it did. -/
def fnExactQuietUptoRow : OpenClaim := { program := "ythmgjfobngmbcaa", sum := "184c46e4643601ec829cffbe5a809b2795aff7adc74f3a13ff0d87c228562e02", func := "loop.example/g00043/laws.FnExactQuiet", spec := "fnExactQuiet", apart := false, narrowed := true }
def FnExactQuietUptoSaid : Prop := fnExactQuietUptoRow.holds Try.pinned (OpenSpec.upto fnExactQuietSpec)

/-- 'laws.FnExactAround', WHERE WHAT IT READS IS OF BULK AT MOST 1048576: true; the input reads as it did. -/
def fnExactAroundUptoRow : OpenClaim := { program := "ythmgjfobngmbcaa", sum := "184c46e4643601ec829cffbe5a809b2795aff7adc74f3a13ff0d87c228562e02", func := "loop.example/g00043/laws.FnExactAround", spec := "fnExactAround", apart := false, narrowed := true }
def FnExactAroundUptoSaid : Prop := fnExactAroundUptoRow.holds Try.pinned (OpenSpec.upto fnExactAroundSpec)

/-- 'laws.FnExactDown', WHERE WHAT IT READS IS OF BULK AT MOST 1048576: true; the input reads as it did. -/
def fnExactDownUptoRow : OpenClaim := { program := "ythmgjfobngmbcaa", sum := "184c46e4643601ec829cffbe5a809b2795aff7adc74f3a13ff0d87c228562e02", func := "loop.example/g00043/laws.FnExactDown", spec := "fnExactDown", apart := false, narrowed := true }
def FnExactDownUptoSaid : Prop := fnExactDownUptoRow.holds Try.pinned (OpenSpec.upto fnExactDownSpec)

/-- 'laws.FnExactUp', WHERE WHAT IT READS IS OF BULK AT MOST 1048576: true; the input reads as it did. -/
def fnExactUpUptoRow : OpenClaim := { program := "ythmgjfobngmbcaa", sum := "184c46e4643601ec829cffbe5a809b2795aff7adc74f3a13ff0d87c228562e02", func := "loop.example/g00043/laws.FnExactUp", spec := "fnExactUp", apart := false, narrowed := true }
def FnExactUpUptoSaid : Prop := fnExactUpUptoRow.holds Try.pinned (OpenSpec.upto fnExactUpSpec)

/-- 'laws.FnExactPush', WHERE WHAT IT READS IS OF BULK AT MOST 1048576: true; the input reads as it did. -/
def fnExactPushUptoRow : OpenClaim := { program := "ythmgjfobngmbcaa", sum := "184c46e4643601ec829cffbe5a809b2795aff7adc74f3a13ff0d87c228562e02", func := "loop.example/g00043/laws.FnExactPush", spec := "fnExactPush", apart := false, narrowed := true }
def FnExactPushUptoSaid : Prop := fnExactPushUptoRow.holds Try.pinned (OpenSpec.upto fnExactPushSpec)

/-- 'laws.FnExactDelay', WHERE WHAT IT READS IS OF BULK AT MOST 1048576: true; the input reads as it did. -/
def fnExactDelayUptoRow : OpenClaim := { program := "ythmgjfobngmbcaa", sum := "184c46e4643601ec829cffbe5a809b2795aff7adc74f3a13ff0d87c228562e02", func := "loop.example/g00043/laws.FnExactDelay", spec := "fnExactDelay", unfollowed := true, recurses := true, apart := false, narrowed := true }
def FnExactDelayUptoSaid : Prop := fnExactDelayUptoRow.holds Try.pinned (OpenSpec.upto fnExactDelaySpec)

/-- 'laws.FnExactDrift', WHERE WHAT IT READS IS OF BULK AT MOST 1048576: true; the input reads as it did. -/
def fnExactDriftUptoRow : OpenClaim := { program := "ythmgjfobngmbcaa", sum := "184c46e4643601ec829cffbe5a809b2795aff7adc74f3a13ff0d87c228562e02", func := "loop.example/g00043/laws.FnExactDrift", spec := "fnExactDrift", unfollowed := true, recurses := true, apart := false, narrowed := true }
def FnExactDriftUptoSaid : Prop := fnExactDriftUptoRow.holds Try.pinned (OpenSpec.upto fnExactDriftSpec)

/-- 'laws.FnRinged', WHERE WHAT IT READS IS OF BULK AT MOST 1048576: true; the input reads as it did. -/
def fnRingedUptoRow : OpenClaim := { program := "ythmgjfobngmbcaa", sum := "184c46e4643601ec829cffbe5a809b2795aff7adc74f3a13ff0d87c228562e02", func := "loop.example/g00043/laws.FnRinged", spec := "fnRinged", apart := false, narrowed := true }
def FnRingedUptoSaid : Prop := fnRingedUptoRow.holds Try.pinned (OpenSpec.upto fnRingedSpec)

/-- 'laws.FnUpDown', WHERE WHAT IT READS IS OF BULK AT MOST 1048576: true; the input reads as it did. -/
def fnUpDownUptoRow : OpenClaim := { program := "ythmgjfobngmbcaa", sum := "184c46e4643601ec829cffbe5a809b2795aff7adc74f3a13ff0d87c228562e02", func := "loop.example/g00043/laws.FnUpDown", spec := "fnUpDown", apart := false, narrowed := true }
def FnUpDownUptoSaid : Prop := fnUpDownUptoRow.holds Try.pinned (OpenSpec.upto fnUpDownSpec)

end Rows
end Go.Proofs.Ythmgjfobngmbcaa
