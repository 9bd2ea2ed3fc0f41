/- Dft2's rows are few. -/
import Derived.Test.YtofegdgcafameaaRowWU
namespace Go.Proofs.Ytofegdgcafameaa.RowYU
open Go.RowKit Go.Proofs.Ytofegdgcafameaa.QFnExactUnlift2 Go.Proofs.YtofegdgcafameaaW.PrintWords Go.Proofs.Ytofegdgcafameaa.Base Go.Proofs.Ytofegdgcafameaa.LiftSU Go.Proofs.Ytofegdgcafameaa.RowWU
set_option linter.unusedVariables false
theorem off_mul {x : List (List Int)} {M : Nat} (h : ∀ i : Nat, i < x.length → (rd_L1 x (i : Int)).length ≤ M) (j : Nat) (hj : j ≤ x.length) : off x j ≤ j * M := by
  induction j with
  | zero => simp [off]
  | succ j ih =>
    have := ih (by omega)
    have := h j (by omega)
    rw [off, Nat.succ_mul]
    omega
theorem small_of {x : List (List Int)} {n m : Nat} (hn : x.length ≤ n) (hm : ∀ r ∈ x, r.length ≤ m) (h1 : n ≤ 2000000) (h2 : m ≤ 2000000) (h3 : n * m ≤ 2000000) : Small x := by
  refine ⟨by omega, fun r hr => by have := hm r hr; omega, ?_⟩
  have h4 := off_mul (x := x) (M := m) (fun i hi => hm _ (rdL_mem hi)) x.length (Nat.le_refl _)
  have h5 := Nat.mul_le_mul_right m hn
  omega
end Go.Proofs.Ytofegdgcafameaa.RowYU
