/- Rows of rows that came in are read. -/
import Derived.Test.YtofegdgcafameaaRowWU
namespace Go.Proofs.Ytofegdgcafameaa.RowZU
open Go.RowKit Go.Proofs.YtofegdgcafameaaW.PrintWords Go.Proofs.Ytofegdgcafameaa.Base Go.Proofs.Ytofegdgcafameaa.LiftSU Go.Proofs.Ytofegdgcafameaa.RowWU
set_option linter.unusedVariables false
theorem rows_nil (W : World) : RedS W none 0 0 [] := ⟨⟨rfl, by omega, fun h => absurd h (by omega)⟩, Nat.le_refl _, rfl⟩
theorem rows_in {W : World} {a : Addr} {len cap base : Nat} {k : IntKind} (A : Nat → Option Addr) (L C : Nat → Nat) (Z : Nat → List Int) (hk : k = .i64) (hl : len ≤ cap) (hm : cap ≤ maxLen)
    (h : ∀ r, r < cap → W.cell? (a.add r) = some (.slice (A r) (L r) (C r)) ∧ L r ≤ C r ∧ C r ≤ maxLen ∧ (Z r).length = C r ∧ (∀ n ∈ Z r, (Lit.int k n).wf = true) ∧ (A r = none → C r = 0) ∧
      ∀ a', A r = some a' → base ≤ a'.block ∧ ∀ c, c < C r → W.cell? (a'.add c) = some (.int k ((Z r).getD c 0))) :
    ∃ x, RedS W (some a) len cap x ∧ x.length ≤ maxLen ∧ ∀ r ∈ x, r.length ≤ maxLen := by
  subst hk
  have each : ∀ r, r < len → ∃ l : List Int, L r = l.length ∧ Kd.C (Kd.int .i64) W (A r) l.length l ∧ l.length ≤ maxLen ∧ l.length ≤ C r := by
    intro r hr
    obtain ⟨_, h2, h3, h4, h5, h6, h7⟩ := h r (by omega)
    have hrow : (A r = none ∧ L r = 0 ∧ C r = 0 ∧ Z r = []) ∨ ∃ x, A r = some x ∧ L r ≤ C r ∧ C r ≤ maxLen ∧ (Z r).length = C r ∧ (∀ i, i < (Z r).length → W.cell? (x.add i) = some (.int .i64 ((Z r).getD i 0))) ∧ ∀ n ∈ Z r, (Lit.int .i64 n).wf = true := by
      cases hA : A r with
      | none =>
        have := h6 hA
        exact .inl ⟨rfl, by omega, this, List.length_eq_zero_iff.1 (by omega)⟩
      | some a' => exact .inr ⟨a', rfl, h2, h3, h4, fun i hi => (h7 a' hA).2 i (by omega), h5⟩
    obtain ⟨l, e, hr1, hm1, _, hc1⟩ := ReadsInt.ofRowC hrow
    exact ⟨l, e, Kd.C_of_reads (d := (0 : Int)) (h1 := fun _ => rfl) hr1, hm1, hc1⟩
  have pick : ∃ g : Nat → List Int, ∀ r, r < len → L r = (g r).length ∧ Kd.C (Kd.int .i64) W (A r) (g r).length (g r) ∧ (g r).length ≤ maxLen ∧ (g r).length ≤ C r := by
    refine ⟨fun r => open Classical in if hr : r < len then (each r hr).choose else [], fun r hr => ?_⟩
    simp only [dif_pos hr]
    exact (each r hr).choose_spec
  obtain ⟨g, hg⟩ := pick
  refine ⟨tabL len g, ⟨⟨tabL_length _ _, by unfold maxLen at hm; omega, fun _ => ⟨a, rfl, fun j p hj => ?_⟩⟩, hl, (tabL_length _ _).symm⟩, by rw [tabL_length]; omega, fun r hr => ?_⟩
  · have hjl : j < len := by
      have := (List.getElem?_eq_some_iff.1 hj).1
      rwa [tabL_length] at this
    have hp : p = g j := by
      unfold tabL at hj
      rw [List.getElem?_map, List.getElem?_range hjl] at hj
      injection hj with hj
      exact hj.symm
    subst hp
    obtain ⟨e, h2, h3, h4⟩ := hg j hjl
    refine ⟨[.slice (A j) (g j).length (C j)], rfl, ⟨A j, C j, rfl, h4, h2⟩, fun i u hu => ?_⟩
    have hi : i = 0 := by
      have := (List.getElem?_eq_some_iff.1 hu).1
      simp at this
      exact this
    subst hi
    injection hu with hu
    subst hu
    have hc := (h j (by omega)).1
    rw [e] at hc
    rw [show j * (Kd.slice 3 (Kd.int .i64)).sz + 0 = j by rw [show (Kd.slice 3 (Kd.int .i64)).sz = 1 from rfl]; omega]
    exact hc
  · unfold tabL at hr
    obtain ⟨i, hi, rfl⟩ := List.mem_map.1 hr
    exact (hg i (List.mem_range.1 hi)).2.2.1
end Go.Proofs.Ytofegdgcafameaa.RowZU
