/- FnExactAverage: for every row of rows of pairs the law answers true, and the pairs read as they did. No conditions. -/
import Derived.Test.YtodgognfnpcdgaaRows
import Derived.Test.YtodgognfnpcdgaaFltY
import Derived.WalkKit
import Derived.ProofKit
import Derived.OpenShut
import Derived.ShutString
import Derived.ChangeOld
import Derived.ChangeSame
import Derived.Below
import Derived.SizedLaws
import Derived.Deep.SlicePairs
import Derived.Deep.Slices
import Derived.Test.YtodgognfnpcdgaaWSized
namespace Go.Proofs.Ytodgognfnpcdgaa.fnExactAverage
open Go.ChangeShapes Go.WideShapes Go.ChangeAt Go.RowKit Go.Proofs.YtodgognfnpcdgaaW.PrintWords
open Go.ChangeMaps (open_string shut_string)
open Go.Deep
set_option linter.unusedVariables false
theorem own : ownKnob Try.prog.godebug = none := by kernel_rfl
theorem laidOut : laidOutB Try.prog = true := by kernel_rfl
theorem trod_float {H : Type} {enc : TypeId × Value → H} {P : Program} {w : World} {base : Nat} {spare : Nat → Bool} {held : Bool} {t : TypeId} {k : FloatKind} {fuel : Nat} {cs : List Value} {x : DataW H × List MemPlace}
    (ht : P.underlying t = some (.float k)) (h : DataW.trod enc P w base spare held fuel t cs = some x) : ∃ n, cs = [.float k n] := by
  cases fuel with
  | zero => simp [DataW.trod] at h
  | succ n =>
    unfold DataW.trod at h
    rw [ht] at h
    split at h <;> simp_all
theorem row_in {H : Type} {enc : TypeId × Value → H} {W : World} {base : Nat} {spare : Nat → Bool} {held : Bool} {fuel : Nat} {v : Value} {y : DataW H × List MemPlace} (h : DataW.trod enc Try.prog W base spare held fuel 36 [v] = some y) :
    ∃ A m c bs, v = .slice A m c ∧ m ≤ c ∧ m ≤ maxLen ∧ FltO.Flat W A (m * 2) bs := by
  rcases open_slice_pairs Try.underlying36 Try.underlying57 (by kernel_rfl) rfl rfl (by kernel_rfl) (by kernel_rfl) h with ⟨hcs, _⟩ | ⟨a, len, cap, m, n, V0, V1, D0, D1, P0, P1, hcs, _, hl, hm, hmm, _, hc⟩
  · obtain rfl : v = .slice none 0 0 := by simpa using hcs
    exact ⟨none, 0, 0, [], rfl, Nat.le_refl _, by simp [maxLen], rfl, fun h => by omega⟩
  · obtain rfl : v = .slice (some a) len cap := by simpa using hcs
    have hlm : len ≤ m := by rw [hmm]; split <;> omega
    have hfl : ∀ i, i < len → ∃ x y, W.cell? (a.add (i * 2)) = some (.float .f64 x) ∧ W.cell? (a.add (i * 2 + 1)) = some (.float .f64 y) := by
      intro i hi
      obtain ⟨c0, c1, t0, t1⟩ := hc i (by omega)
      obtain ⟨x, ex⟩ := trod_float Try.underlying24 t0
      obtain ⟨y, ey⟩ := trod_float Try.underlying24 t1
      simp at ex ey
      exact ⟨x, y, by rw [c0, ex], by rw [c1, ey]⟩
    have hone : ∀ j, j < len * 2 → ∃ x, W.cell? (a.add j) = some (.float .f64 x) := by
      intro j hj
      obtain ⟨x, y, e0, e1⟩ := hfl (j / 2) (by omega)
      rcases Nat.mod_two_eq_zero_or_one j with h | h
      · exact ⟨x, by rw [show j = j / 2 * 2 by omega]; exact e0⟩
      · exact ⟨y, by rw [show j = j / 2 * 2 + 1 by omega]; exact e1⟩
    have hlist : ∀ N, N ≤ len * 2 → ∃ bs : List Nat, bs.length = N ∧ ∀ j, j < N → W.cell? (a.add j) = some (.float .f64 (bs.getD j 0)) := by
      intro N
      induction N with
      | zero => exact fun _ => ⟨[], rfl, fun j hj => by omega⟩
      | succ N ih =>
        intro hN
        obtain ⟨bs, hl, hb⟩ := ih (by omega)
        obtain ⟨x, hx⟩ := hone N (by omega)
        refine ⟨bs ++ [x], by simp [hl], fun j hj => ?_⟩
        rw [List.getD_eq_getElem?_getD]
        rcases Nat.lt_or_ge j N with h | h
        · rw [List.getElem?_append_left (by omega), ← List.getD_eq_getElem?_getD]
          exact hb j h
        · obtain rfl : j = N := by omega
          rw [List.getElem?_append_right (by omega), hl, Nat.sub_self]
          exact hx
    obtain ⟨bs, hbl, hb⟩ := hlist (len * 2) (Nat.le_refl _)
    exact ⟨some a, len, cap, bs, rfl, hl, by omega, hbl, fun _ => ⟨a, rfl, hb⟩⟩
theorem rows_in {W : World} {a : Addr} {len : Nat} (V : Nat → Value) (hlm : len ≤ maxLen) (hcell : ∀ i, i < len → W.cell? (a.add i) = some (V i)) (hrow : ∀ i, i < len → ∃ A m c bs, V i = .slice A m c ∧ m ≤ c ∧ m ≤ maxLen ∧ FltO.Flat W A (m * 2) bs) :
    ∃ xs, FltT.rowP.C W (some a) len xs ∧ ∀ i, i < len → (xs.getD i []).length / 2 ≤ maxLen := by
  have pick : ∃ g : Nat → List Nat, ∀ i, i < len → ∃ A m c, V i = .slice A m c ∧ m ≤ c ∧ m ≤ maxLen ∧ FltO.Flat W A (m * 2) (g i) := by
    have each : ∀ i, i < len → ∃ bs : List Nat, ∃ A m c, V i = .slice A m c ∧ m ≤ c ∧ m ≤ maxLen ∧ FltO.Flat W A (m * 2) bs := fun i hi => by
      obtain ⟨A, m, c, bs, h⟩ := hrow i hi
      exact ⟨bs, A, m, c, h⟩
    refine ⟨fun i => open Classical in if hi : i < len then (each i hi).choose else [], fun i hi => ?_⟩
    simp only [dif_pos hi]
    exact (each i hi).choose_spec
  obtain ⟨g, hg⟩ := pick
  refine ⟨(List.range len).map g, ⟨by simp, by unfold maxLen at hlm; omega, fun _ => ⟨a, rfl, fun j p hj => ?_⟩⟩, fun i hi => ?_⟩
  · have hjl : j < len := by
      have := (List.getElem?_eq_some_iff.1 hj).1
      simpa using this
    have hp : p = g j := by
      rw [List.getElem?_map, List.getElem?_range hjl] at hj
      injection hj with hj
      exact hj.symm
    subst hp
    obtain ⟨A, m, c, e, h1, h2, h3⟩ := hg j hjl
    refine ⟨[V j], rfl, ⟨A, m, c, by rw [e], h1, h3⟩, fun i u hu => ?_⟩
    have hi : i = 0 := by
      have := (List.getElem?_eq_some_iff.1 hu).1
      simp at this
      exact this
    subst hi
    injection hu with hu
    subst hu
    rw [show j * FltT.rowP.sz + 0 = j by rw [show FltT.rowP.sz = 1 from rfl]; omega]
    exact hcell j hjl
  · obtain ⟨A, m, c, e, h1, h2, h3⟩ := hg i hi
    have h4 : ((List.range len).map g).getD i [] = g i := by simp [List.getD_eq_getElem?_getD, hi]
    rw [h4]
    have := h3.1
    omega
set_option maxRecDepth 100000 in
theorem lifted (os : Os) (started : os.Started) (H : Type) (enc : TypeId × Value → H) :
    ReturnsInHanded {} Try.checked os 7 .any (Rows.fnExactAverageSpec.pre6 enc Try.prog Try.f7 Rows.fnExactAverageRow.domain false) (Rows.fnExactAverageSpec.post enc Try.prog Try.f7 false true false false) := by
  refine returnsInHanded_of_change_sized (C := Try.checked) own started (by kernel_rfl) Try.func7
    (ChangeSpec.witness6 (enc := enc) (C := Try.checked) false ⟨#[], #[.slice none 0 0], []⟩ 8 (by kernel_rfl) (by kernel_rfl) (by kernel_rfl) (by kernel_rfl)) ?_
  intro W base args ds gs before hval0 hW hcnd hsz0 _
  have hval : ∀ (j : Nat) t v, Try.f7.params[j]? = some t → args[j]? = some v → Value.okWide Try.prog W .any base t v := hval0
  have hW' := hW
  obtain ⟨p, q, hA0, hV, rfl, hfz, hnd⟩ := hW
  have hA : DataW.TrodAll enc Try.prog W 0 (fun _ => true) true Try.f7.params.toList args.toList ds p := hA0
  rw [Try.params7] at hA hval
  obtain ⟨v0, vs0, d0, ds0, p0, q0, hargs, rfl, rfl, h0, r0⟩ := trodAll_cons hA
  obtain ⟨rfl, rfl, rfl⟩ := trodAll_nil r0
  obtain rfl : args = #[v0] := by cases args; simp_all
  obtain ⟨rfl, rfl⟩ := trodVars_none hV
  obtain ⟨a0, len0, cap0, rfl⟩ := okWide_slice Try.underlying46 (hval 0 46 v0 rfl rfl)
  have k0 := h0
  have lt0 : ∀ x ∈ p0, x.block < W.heap.size := by obtain ⟨m, hm⟩ := k0; exact DataW.trod_lt m _ _ _ hm
  obtain ⟨xs, harg⟩ : ∃ xs : List (List Nat), FltY.Arg W a0 cap0 len0 xs := by
    obtain ⟨fuel, hf⟩ := h0
    rcases open_slice1 Try.underlying46 (by kernel_rfl) hf with ⟨hcs, _⟩ | ⟨a, len, cap, m, n, V, D, Pl, hcs, _, hl, hm, hmm, _, hc⟩
    · simp [Value.cells] at hcs
      obtain ⟨rfl, rfl, rfl⟩ := hcs
      exact ⟨[], ⟨rfl, by omega, fun h => by omega⟩, Nat.le_refl _, by simp [maxLen], fun i hi => by omega⟩
    · simp [Value.cells] at hcs
      obtain ⟨rfl, rfl, rfl⟩ := hcs
      have hlm : len0 ≤ m := by rw [hmm]; split <;> omega
      obtain ⟨xs, hx, hr⟩ := rows_in (len := len0) V (by omega) (fun i hi => (hc i (by omega)).1) (fun i hi => row_in (hc i (by omega)).2)
      exact ⟨xs, hx, hl, by omega, hr⟩
  clear hA0 hval0 hsz0
  refine (FltY.exactAverage_calls W harg).mono fun e W' ⟨he, bel⟩ => ?_
  subst he
  exact ⟨_, rfl, _, _, _, [], _, [], hW', trodAll_mk1 (shut_bool Try.underlying4 _), (trodAll_cons_mk (Below.trod laidOut (by kernel_rfl) (of_decide_eq_true (by kernel_rfl)) k0 bel lt0) trodAll_mk0), rfl, bel.frame _, fun h => by cases h⟩
theorem over : Rows.fnExactAverageRow.holds Try.pinned (OpenSpec.ofChange Rows.fnExactAverageSpec) :=
  OpenClaim.holds_of_wide 7 Try.f7 rfl rfl rfl rfl rfl rfl rfl ⟨rfl, rfl, rfl, rfl, rfl⟩ rfl rfl rfl rfl rfl (by kernel_rfl) Try.func7 (by kernel_rfl)
    (of_decide_eq_true (by kernel_rfl)) (by unfold Func.isWrapper; first | (rw [if_pos (by decide +kernel)]; kernel_rfl) | (rw [if_neg (by decide +kernel)]; exact ⟨rfl, rfl⟩))
    (fun os started H enc _ => lifted os started H enc)
theorem proved : Rows.FnExactAverageSaid := over
#print axioms proved
end Go.Proofs.Ytodgognfnpcdgaa.fnExactAverage
namespace Go.Proofs.Ytodgognfnpcdgaa
/-- The row, under a short name, for the claim. -/
theorem fnExactAverage_holds : Rows.FnExactAverageSaid := fnExactAverage.proved
end Go.Proofs.Ytodgognfnpcdgaa
