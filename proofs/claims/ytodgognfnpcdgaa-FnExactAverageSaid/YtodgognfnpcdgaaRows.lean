/-
  No cell of these rows narrows 'for every input' (looked for: loops, veiled, ifaces, maps, wideKeys, modest, calm, conditions, laid).
  DERIVED. THE GIVEN ROWS OF THIS SEAT. 5 by the template 'for every input the law returns true; each argument reads behind the call as it read before'; 0 by the template 'total and deterministic' (their statements: YtodgognfnpcdgaaTotals.lean).
  GIVEN WITH THE SEED: the statements are not yours to turn. If you find one false, say at which input.
  Laid BY PROGRAM, IN A SANDBOX (cutbox-rows.mjs): the forced cells as the released guide's own fill.sh prints them over the translation bc14fa7665e4c42c… (all of the seat's roots in one cut). By AI agents, Wed Nov 11 2026. No macro, syntax, notation, axiom, sorry.
-/
import Derived.Test.YtodgognfnpcdgaaChecked
import GoSem.Claim
import GoSem.ClaimJoined
import GoSem.ClaimMapViews
import Derived.JoinedTies
import Derived.KernelRfl
namespace Go.Proofs.Ytodgognfnpcdgaa
/- THE CELL 'sum', in the pinned program and in every row, IS THE sha256 OF THE DUMP (.gsa) THAT YtodgognfnpcdgaaProg.lean LOADS. Nothing in Lean hashes anything: it is a label: what it is worth is what the hold of that sum in a sandbox is worth. -/
noncomputable def Try.pinned : Pinned := { name := "ytodgognfnpcdgaa", sum := "bc14fa7665e4c42ce2241e66c0485dcb6be7afb20289f6ddc047536aa7ec9031", checked := Try.checked }
namespace Rows
def none {H : Type} : Left H := { results := [], args := [] }

/-- 'laws.FnDivided': WHATEVER THE INPUT: true; the input reads as it did. -/
def fnDividedSpec : ChangeSpec := { name := "fnDivided", fn := fun _ => fun
  | [d] => { results := [.lit (.bool true)], args := [d] }
  | _ => none }
def fnDividedRow : OpenClaim := { program := "ytodgognfnpcdgaa", sum := "bc14fa7665e4c42ce2241e66c0485dcb6be7afb20289f6ddc047536aa7ec9031", func := "loop.example/g00043/laws.FnDivided", spec := "fnDivided", apart := false }
def FnDividedSaid : Prop := fnDividedRow.holds Try.pinned (OpenSpec.ofChange fnDividedSpec)

/-- ITS FALSE NEIGHBOUR: 'it returns false'. Refute it at one input. -/
def fnDividedWrong : ChangeSpec := { name := "fnDivided", fn := fun _ => fun
  | [d] => { results := [.lit (.bool false)], args := [d] }
  | _ => none }
def FnDividedWrongFalsely : Prop := fnDividedRow.holds Try.pinned (OpenSpec.ofChange fnDividedWrong)

/-- 'laws.FnPowers': WHATEVER THE INPUT: true; the input reads as it did. -/
def fnPowersSpec : ChangeSpec := { name := "fnPowers", fn := fun _ => fun
  | [d] => { results := [.lit (.bool true)], args := [d] }
  | _ => none }
def fnPowersRow : OpenClaim := { program := "ytodgognfnpcdgaa", sum := "bc14fa7665e4c42ce2241e66c0485dcb6be7afb20289f6ddc047536aa7ec9031", func := "loop.example/g00043/laws.FnPowers", spec := "fnPowers", apart := false }
def FnPowersSaid : Prop := fnPowersRow.holds Try.pinned (OpenSpec.ofChange fnPowersSpec)

/-- ITS FALSE NEIGHBOUR: 'it returns false'. Refute it at one input. -/
def fnPowersWrong : ChangeSpec := { name := "fnPowers", fn := fun _ => fun
  | [d] => { results := [.lit (.bool false)], args := [d] }
  | _ => none }
def FnPowersWrongFalsely : Prop := fnPowersRow.holds Try.pinned (OpenSpec.ofChange fnPowersWrong)

/-- 'laws.FnRooted': WHATEVER THE INPUT: true; the input reads as it did. -/
def fnRootedSpec : ChangeSpec := { name := "fnRooted", fn := fun _ => fun
  | [d] => { results := [.lit (.bool true)], args := [d] }
  | _ => none }
def fnRootedRow : OpenClaim := { program := "ytodgognfnpcdgaa", sum := "bc14fa7665e4c42ce2241e66c0485dcb6be7afb20289f6ddc047536aa7ec9031", func := "loop.example/g00043/laws.FnRooted", spec := "fnRooted", apart := false }
def FnRootedSaid : Prop := fnRootedRow.holds Try.pinned (OpenSpec.ofChange fnRootedSpec)

/-- ITS FALSE NEIGHBOUR: 'it returns false'. Refute it at one input. -/
def fnRootedWrong : ChangeSpec := { name := "fnRooted", fn := fun _ => fun
  | [d] => { results := [.lit (.bool false)], args := [d] }
  | _ => none }
def FnRootedWrongFalsely : Prop := fnRootedRow.holds Try.pinned (OpenSpec.ofChange fnRootedWrong)

/-- 'laws.FnExactPowers': WHATEVER THE INPUT: true; the input reads as it did. -/
def fnExactPowersSpec : ChangeSpec := { name := "fnExactPowers", fn := fun _ => fun
  | [d] => { results := [.lit (.bool true)], args := [d] }
  | _ => none }
def fnExactPowersRow : OpenClaim := { program := "ytodgognfnpcdgaa", sum := "bc14fa7665e4c42ce2241e66c0485dcb6be7afb20289f6ddc047536aa7ec9031", func := "loop.example/g00043/laws.FnExactPowers", spec := "fnExactPowers", apart := false }
def FnExactPowersSaid : Prop := fnExactPowersRow.holds Try.pinned (OpenSpec.ofChange fnExactPowersSpec)

/-- ITS FALSE NEIGHBOUR: 'it returns false'. Refute it at one input. -/
def fnExactPowersWrong : ChangeSpec := { name := "fnExactPowers", fn := fun _ => fun
  | [d] => { results := [.lit (.bool false)], args := [d] }
  | _ => none }
def FnExactPowersWrongFalsely : Prop := fnExactPowersRow.holds Try.pinned (OpenSpec.ofChange fnExactPowersWrong)

/-- 'laws.FnExactAverage': WHATEVER THE INPUT: true; the input reads as it did. -/
def fnExactAverageSpec : ChangeSpec := { name := "fnExactAverage", fn := fun _ => fun
  | [d] => { results := [.lit (.bool true)], args := [d] }
  | _ => none }
def fnExactAverageRow : OpenClaim := { program := "ytodgognfnpcdgaa", sum := "bc14fa7665e4c42ce2241e66c0485dcb6be7afb20289f6ddc047536aa7ec9031", func := "loop.example/g00043/laws.FnExactAverage", spec := "fnExactAverage", apart := false }
def FnExactAverageSaid : Prop := fnExactAverageRow.holds Try.pinned (OpenSpec.ofChange fnExactAverageSpec)

/-- ITS FALSE NEIGHBOUR: 'it returns false'. Refute it at one input. -/
def fnExactAverageWrong : ChangeSpec := { name := "fnExactAverage", fn := fun _ => fun
  | [d] => { results := [.lit (.bool false)], args := [d] }
  | _ => none }
def FnExactAverageWrongFalsely : Prop := fnExactAverageRow.holds Try.pinned (OpenSpec.ofChange fnExactAverageWrong)

/- THE SECOND FORM. 'bulk': how many values and letters a reading holds, each counted each time it is reached (what is shared counts as often as it is met; a slice's spare places count too). A statement '..UptoSaid' is the law's where the arguments, and the package variables that the reading takes, are together of bulk at most 1048576: NARROWER than '..Said'. Prove '..Said' where nothing that the law and all that it calls make is longer than what came in: it says more and counts as full. Else prove '..UptoSaid'. A law counts once. -/
mutual
def uptoBulk {H : Type} : DataW H → Nat
  | .lit (.string bytes) => bytes.length + 1
  | .lit _ => 1
  | .nil => 1
  | .ptr d => uptoBulk d + 1
  | .slice elems spare => uptoBulkAll elems + uptoBulkAll spare + 1
  | .agg parts => uptoBulkAll parts + 1
  | .iface _ d => uptoBulk d + 1
  | .map entries => uptoBulkEntries entries + 1
  | .held _ => 1
def uptoBulkAll {H : Type} : List (DataW H) → Nat
  | [] => 0
  | d :: r => uptoBulk d + uptoBulkAll r
def uptoBulkEntries {H : Type} : List (Lit × DataW H) → Nat
  | [] => 0
  | x :: r => uptoBulkEntry x + uptoBulkEntries r
def uptoBulkEntry {H : Type} : Lit × DataW H → Nat
  | (.string bytes, d) => bytes.length + uptoBulk d + 1
  | (_, d) => uptoBulk d + 1
 end
def uptoSmall : (H : Type) → List (DataW H) → Bool := fun _ ds => decide (uptoBulkAll ds ≤ 1048576)
def OpenSpec.upto (s : _root_.Go.ChangeSpec) : _root_.Go.OpenSpec := { _root_.Go.OpenSpec.ofChange s with cond := some uptoSmall }

/-- 'laws.FnDivided', WHERE WHAT IT READS IS OF BULK AT MOST 1048576: true; the input reads as it did. -/
def fnDividedUptoRow : OpenClaim := { program := "ytodgognfnpcdgaa", sum := "bc14fa7665e4c42ce2241e66c0485dcb6be7afb20289f6ddc047536aa7ec9031", func := "loop.example/g00043/laws.FnDivided", spec := "fnDivided", apart := false, narrowed := true }
def FnDividedUptoSaid : Prop := fnDividedUptoRow.holds Try.pinned (OpenSpec.upto fnDividedSpec)

/-- 'laws.FnPowers', WHERE WHAT IT READS IS OF BULK AT MOST 1048576: true; the input reads as it did. -/
def fnPowersUptoRow : OpenClaim := { program := "ytodgognfnpcdgaa", sum := "bc14fa7665e4c42ce2241e66c0485dcb6be7afb20289f6ddc047536aa7ec9031", func := "loop.example/g00043/laws.FnPowers", spec := "fnPowers", apart := false, narrowed := true }
def FnPowersUptoSaid : Prop := fnPowersUptoRow.holds Try.pinned (OpenSpec.upto fnPowersSpec)

/-- 'laws.FnRooted', WHERE WHAT IT READS IS OF BULK AT MOST 1048576: true; the input reads as it did. -/
def fnRootedUptoRow : OpenClaim := { program := "ytodgognfnpcdgaa", sum := "bc14fa7665e4c42ce2241e66c0485dcb6be7afb20289f6ddc047536aa7ec9031", func := "loop.example/g00043/laws.FnRooted", spec := "fnRooted", apart := false, narrowed := true }
def FnRootedUptoSaid : Prop := fnRootedUptoRow.holds Try.pinned (OpenSpec.upto fnRootedSpec)

/-- 'laws.FnExactPowers', WHERE WHAT IT READS IS OF BULK AT MOST 1048576: true; the input reads as it did. -/
def fnExactPowersUptoRow : OpenClaim := { program := "ytodgognfnpcdgaa", sum := "bc14fa7665e4c42ce2241e66c0485dcb6be7afb20289f6ddc047536aa7ec9031", func := "loop.example/g00043/laws.FnExactPowers", spec := "fnExactPowers", apart := false, narrowed := true }
def FnExactPowersUptoSaid : Prop := fnExactPowersUptoRow.holds Try.pinned (OpenSpec.upto fnExactPowersSpec)

/-- 'laws.FnExactAverage', WHERE WHAT IT READS IS OF BULK AT MOST 1048576: true; the input reads as it did. -/
def fnExactAverageUptoRow : OpenClaim := { program := "ytodgognfnpcdgaa", sum := "bc14fa7665e4c42ce2241e66c0485dcb6be7afb20289f6ddc047536aa7ec9031", func := "loop.example/g00043/laws.FnExactAverage", spec := "fnExactAverage", apart := false, narrowed := true }
def FnExactAverageUptoSaid : Prop := fnExactAverageUptoRow.holds Try.pinned (OpenSpec.upto fnExactAverageSpec)

end Rows
end Go.Proofs.Ytodgognfnpcdgaa
