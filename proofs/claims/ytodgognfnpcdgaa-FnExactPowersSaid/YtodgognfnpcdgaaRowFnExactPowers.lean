/- FnExactPowers: for every row of pairs the law answers true, and the pairs read as they did. No conditions. -/
import Derived.Test.YtodgognfnpcdgaaRows
import Derived.Test.YtodgognfnpcdgaaFltS
import Derived.WalkKit
import Derived.ProofKit
import Derived.OpenShut
import Derived.ShutString
import Derived.ChangeOld
import Derived.ChangeSame
import Derived.Below
import Derived.SizedLaws
import Derived.Deep.SlicePairs
import Derived.Test.YtodgognfnpcdgaaWSized
namespace Go.Proofs.Ytodgognfnpcdgaa.fnExactPowers
open Go.ChangeShapes Go.WideShapes Go.ChangeAt Go.RowKit Go.Proofs.YtodgognfnpcdgaaW.PrintWords
open Go.ChangeMaps (open_string shut_string)
open Go.Deep
set_option linter.unusedVariables false
theorem own : ownKnob Try.prog.godebug = none := by kernel_rfl
theorem laidOut : laidOutB Try.prog = true := by kernel_rfl
theorem trod_float {H : Type} {enc : TypeId × Value → H} {P : Program} {w : World} {base : Nat} {spare : Nat → Bool} {held : Bool} {t : TypeId} {k : FloatKind} {fuel : Nat} {cs : List Value} {x : DataW H × List MemPlace}
    (ht : P.underlying t = some (.float k)) (h : DataW.trod enc P w base spare held fuel t cs = some x) : ∃ n, cs = [.float k n] := by
  cases fuel with
  | zero => simp [DataW.trod] at h
  | succ n =>
    unfold DataW.trod at h
    rw [ht] at h
    split at h <;> simp_all
set_option maxRecDepth 100000 in
theorem lifted (os : Os) (started : os.Started) (H : Type) (enc : TypeId × Value → H) :
    ReturnsInHanded {} Try.checked os 6 .any (Rows.fnExactPowersSpec.pre6 enc Try.prog Try.f6 Rows.fnExactPowersRow.domain false) (Rows.fnExactPowersSpec.post enc Try.prog Try.f6 false true false false) := by
  refine returnsInHanded_of_change_sized (C := Try.checked) own started (by kernel_rfl) Try.func6
    (ChangeSpec.witness6 (enc := enc) (C := Try.checked) false ⟨#[], #[.slice none 0 0], []⟩ 8 (by kernel_rfl) (by kernel_rfl) (by kernel_rfl) (by kernel_rfl)) ?_
  intro W base args ds gs before hval0 hW hcnd hsz0 _
  have hval : ∀ (j : Nat) t v, Try.f6.params[j]? = some t → args[j]? = some v → Value.okWide Try.prog W .any base t v := hval0
  have hW' := hW
  obtain ⟨p, q, hA0, hV, rfl, hfz, hnd⟩ := hW
  have hA : DataW.TrodAll enc Try.prog W 0 (fun _ => true) true Try.f6.params.toList args.toList ds p := hA0
  rw [Try.params6] at hA hval
  obtain ⟨v0, vs0, d0, ds0, p0, q0, hargs, rfl, rfl, h0, r0⟩ := trodAll_cons hA
  obtain ⟨rfl, rfl, rfl⟩ := trodAll_nil r0
  obtain rfl : args = #[v0] := by cases args; simp_all
  obtain ⟨rfl, rfl⟩ := trodVars_none hV
  obtain ⟨a0, len0, cap0, rfl⟩ := okWide_slice Try.underlying36 (hval 0 36 v0 rfl rfl)
  have k0 := h0
  have lt0 : ∀ x ∈ p0, x.block < W.heap.size := by obtain ⟨m, hm⟩ := k0; exact DataW.trod_lt m _ _ _ hm
  obtain ⟨bs, harg⟩ : ∃ bs : List Nat, FltS.Arg W a0 cap0 len0 bs := by
    obtain ⟨fuel, hf⟩ := h0
    rcases open_slice_pairs Try.underlying36 Try.underlying57 (by kernel_rfl) rfl rfl (by kernel_rfl) (by kernel_rfl) hf with ⟨hcs, _⟩ | ⟨a, len, cap, m, n, V0, V1, D0, D1, P0, P1, hcs, _, hl, hm, hmm, _, hc⟩
    · simp [Value.cells] at hcs
      obtain ⟨rfl, rfl, rfl⟩ := hcs
      exact ⟨[], ⟨rfl, fun h => by omega⟩, Nat.le_refl _, by simp [maxLen]⟩
    · simp [Value.cells] at hcs
      obtain ⟨rfl, rfl, rfl⟩ := hcs
      have hlm : len0 ≤ m := by rw [hmm]; split <;> omega
      have hfl : ∀ i, i < len0 → ∃ x y, W.cell? (a.add (i * 2)) = some (.float .f64 x) ∧ W.cell? (a.add (i * 2 + 1)) = some (.float .f64 y) := by
        intro i hi
        obtain ⟨c0, c1, t0, t1⟩ := hc i (by omega)
        obtain ⟨x, ex⟩ := trod_float Try.underlying24 t0
        obtain ⟨y, ey⟩ := trod_float Try.underlying24 t1
        simp at ex ey
        exact ⟨x, y, by rw [c0, ex], by rw [c1, ey]⟩
      have hone : ∀ j, j < len0 * 2 → ∃ x, W.cell? (a.add j) = some (.float .f64 x) := by
        intro j hj
        obtain ⟨x, y, e0, e1⟩ := hfl (j / 2) (by omega)
        rcases Nat.mod_two_eq_zero_or_one j with h | h
        · exact ⟨x, by rw [show j = j / 2 * 2 by omega]; exact e0⟩
        · exact ⟨y, by rw [show j = j / 2 * 2 + 1 by omega]; exact e1⟩
      have hlist : ∀ N, N ≤ len0 * 2 → ∃ bs : List Nat, bs.length = N ∧ ∀ j, j < N → W.cell? (a.add j) = some (.float .f64 (bs.getD j 0)) := by
        intro N
        induction N with
        | zero => exact fun _ => ⟨[], rfl, fun j hj => by omega⟩
        | succ N ih =>
          intro hN
          obtain ⟨bs, hl, hb⟩ := ih (by omega)
          obtain ⟨x, hx⟩ := hone N (by omega)
          refine ⟨bs ++ [x], by simp [hl], fun j hj => ?_⟩
          rw [List.getD_eq_getElem?_getD]
          rcases Nat.lt_or_ge j N with h | h
          · rw [List.getElem?_append_left (by omega), ← List.getD_eq_getElem?_getD]
            exact hb j h
          · obtain rfl : j = N := by omega
            rw [List.getElem?_append_right (by omega), hl, Nat.sub_self]
            exact hx
      obtain ⟨bs, hbl, hb⟩ := hlist (len0 * 2) (Nat.le_refl _)
      exact ⟨bs, ⟨hbl, fun _ => ⟨a, rfl, hb⟩⟩, hl, by omega⟩
  clear hA0 hval0 hsz0
  refine (FltS.exactPowers_calls W harg).mono fun e W' ⟨he, bel⟩ => ?_
  subst he
  exact ⟨_, rfl, _, _, _, [], _, [], hW', trodAll_mk1 (shut_bool Try.underlying4 _), (trodAll_cons_mk (Below.trod laidOut (by kernel_rfl) (of_decide_eq_true (by kernel_rfl)) k0 bel lt0) trodAll_mk0), rfl, bel.frame _, fun h => by cases h⟩
theorem over : Rows.fnExactPowersRow.holds Try.pinned (OpenSpec.ofChange Rows.fnExactPowersSpec) :=
  OpenClaim.holds_of_wide 6 Try.f6 rfl rfl rfl rfl rfl rfl rfl ⟨rfl, rfl, rfl, rfl, rfl⟩ rfl rfl rfl rfl rfl (by kernel_rfl) Try.func6 (by kernel_rfl)
    (of_decide_eq_true (by kernel_rfl)) (by unfold Func.isWrapper; first | (rw [if_pos (by decide +kernel)]; kernel_rfl) | (rw [if_neg (by decide +kernel)]; exact ⟨rfl, rfl⟩))
    (fun os started H enc _ => lifted os started H enc)
theorem proved : Rows.FnExactPowersSaid := over
#print axioms proved
end Go.Proofs.Ytodgognfnpcdgaa.fnExactPowers
namespace Go.Proofs.Ytodgognfnpcdgaa
/-- The row, under a short name, for the claim. -/
theorem fnExactPowers_holds : Rows.FnExactPowersSaid := fnExactPowers.proved
end Go.Proofs.Ytodgognfnpcdgaa
