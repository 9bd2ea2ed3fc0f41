/- Dft2's rows are few. -/
import Derived.Test.YtofegdgcafameaaRowW
namespace Go.Proofs.Ytofegdgcafameaa.RowY
open Go.RowKit Go.Proofs.Ytofegdgcafameaa.QFnExactDft2 Go.Proofs.YtofegdgcafameaaW.PrintWords Go.Proofs.Ytofegdgcafameaa.Base Go.Proofs.Ytofegdgcafameaa.Mod Go.Proofs.Ytofegdgcafameaa.Dft2P Go.Proofs.Ytofegdgcafameaa.RowW
set_option linter.unusedVariables false
theorem off_mul {x : List (List Int)} {M : Nat} (h : ∀ i : Nat, i < x.length → (rd_L1 x (i : Int)).length ≤ M) (j : Nat) (hj : j ≤ x.length) : off x j ≤ j * M := by
  induction j with
  | zero => simp [off]
  | succ j ih =>
    have := ih (by omega)
    have := h j (by omega)
    rw [off, Nat.succ_mul]
    omega
theorem small_of {x : List (List Int)} {n m : Nat} (hn : x.length ≤ n) (hm : ∀ r ∈ x, r.length ≤ m) (h1 : n ≤ 2000000) (h2 : m ≤ 2000000) (h3 : n * m ≤ 2000000) : Small x := by
  refine ⟨by omega, fun r hr => by have := hm r hr; omega, ?_⟩
  have h4 := off_mul (x := x) (M := m) (fun i hi => hm _ (rdL_mem hi)) x.length (Nat.le_refl _)
  have h5 := Nat.mul_le_mul_right m hn
  omega
theorem d2_small (x : List (List Int)) (p : Int) (back : Bool) (hs : Small x) : Small (d2R x p back).1 := by
  unfold d2R
  split
  · rename_i h
    refine small_of (n := 256) (m := 256) ?_ (fun r hr => ?_) (by omega) (by omega) (by omega)
    · show (d2V x p back).length ≤ 256
      unfold d2V
      rw [tabL_length]
      exact whole_le' h.1
    · replace hr : r ∈ d2V x p back := hr
      unfold d2V tabL at hr
      obtain ⟨i, hi, rfl⟩ := List.mem_map.1 hr
      rw [tab_length]
      exact ((dftR_iff _ _ _).1 (h.2 0 (whole_pos h.1)).1).2.1
  · exact ⟨by simp, by simp, by simp [off]⟩
end Go.Proofs.Ytofegdgcafameaa.RowY
