/- Rows that are lifted both ways come back, of lists alone. -/
import Derived.Test.YtofegdgcafameaaLRowF
import Derived.Test.YtofegdgcafameaaLRowB
namespace Go.Proofs.Ytofegdgcafameaa.LRowV
open Go.RowKit Go.Proofs.YtofegdgcafameaaW.PrintWords Go.Proofs.Ytofegdgcafameaa.Base
open Go.Proofs.Ytofegdgcafameaa.RowT
open Go.Proofs.Ytofegdgcafameaa.LRowP
open Go.Proofs.Ytofegdgcafameaa.LRowF (fwd fwd_len lift2R)
open Go.Proofs.Ytofegdgcafameaa.LRowB (bwd bwd_len unlift2R W64 w64_rd w64_tab w64_wrap)
set_option linter.unusedVariables false
set_option linter.unusedSimpArgs false
theorem ok_of_w64 {l : List Int} (h : W64 l) : ok64 l := fun i _ => w64 (w64_rd h _).1 (w64_rd h _).2
theorem fwd_w64 (kind : Int) (l : List Int) : W64 (fwd kind l) := by
  unfold fwd
  intro x hx
  rw [List.mem_append] at hx
  rcases hx with hx | hx
  · exact (show W64 (lowV kind l) by unfold lowV; exact w64_tab _ _ fun i _ => w64_wrap _) x hx
  · exact (show W64 (highV kind l) by unfold highV; exact w64_tab _ _ fun i _ => w64_wrap _) x hx
theorem bwd_fwd (kind : Int) (l : List Int) (h : ok64 l) : bwd kind (fwd kind l) = l := by
  have hl := lowV_length kind l
  unfold bwd
  rw [fwd_len, ← hl]
  unfold fwd
  rw [List.take_left, List.drop_left]
  exact back_once kind l h
theorem cols_len (F : List Int → List Int) (z : List (List Int)) : (colsT F z).length = z.length := tabL_length _ _
theorem cols_row (F : List Int → List Int) (z : List (List Int)) {i : Nat} (h : i < z.length) : rd_L1 (colsT F z) (i : Int) = tab (rd_L1 z 0).length fun c => rd (F (colT z c)) (i : Int) := rdL_tab h
theorem cols_col (F : List Int → List Int) (z : List (List Int)) (hF : ∀ l, (F l).length = l.length) {c : Nat} (h : c < (rd_L1 z 0).length) : colT (colsT F z) c = F (colT z c) := by
  unfold colT
  rw [cols_len]
  symm
  refine eq_tab ?_ fun i hi => ?_
  · rw [hF]
    exact tab_length _ _
  · rw [cols_row F z hi, rd_tab' h]
    rfl
theorem cols_back (F G : List Int → List Int) (z : List (List Int)) (hF : ∀ l, (F l).length = l.length) (he : Even z) (hGF : ∀ c, c < (rd_L1 z 0).length → G (F (colT z c)) = colT z c) : colsT G (colsT F z) = z := by
  symm
  refine eq_tabL (cols_len F z).symm fun i hi => ?_
  rw [cols_len] at hi
  have h0 := cols_row F z (i := 0) (by omega)
  rw [show ((0 : Nat) : Int) = 0 from rfl] at h0
  rw [h0, tab_length]
  refine eq_tab (he i hi) fun c hc => ?_
  rw [cols_col F z hF hc, hGF c hc]
  unfold colT
  rw [rd_tab' hi]
theorem trip (kind : Int) (x : List (List Int)) (he : Even x) (hx : ∀ r ∈ x, ok64 r) : eachT (bwd kind) (colsT (bwd kind) (colsT (fwd kind) (eachT (fwd kind) x))) = x := by
  have hl : (eachT (fwd kind) x).length = x.length := tabL_length _ _
  rw [cols_back (fwd kind) (bwd kind) (eachT (fwd kind) x) (fwd_len kind) (LRowF.each_even (fwd_len kind) he) fun c hc => ?_]
  · symm
    refine eq_tabL hl.symm fun i hi => ?_
    rw [hl] at hi
    rw [LRowF.each_row (fwd kind) x hi, bwd_fwd kind _ (hx _ (rdL_mem hi))]
  · refine bwd_fwd kind _ (ok_of_w64 (w64_tab _ _ fun i hi => ?_))
    rw [hl] at hi
    rw [LRowF.each_row (fwd kind) x hi]
    exact w64_rd (fwd_w64 kind _) _
theorem back_rows (kind : Int) (x : List (List Int)) (h : rowsB kind x 1000000000) (h2 : rowsB kind (lift2R kind x).1 8000000000) : unlift2R kind (lift2R kind x).1 = (x, true) := by
  have e : lift2R kind x = (colsT (fwd kind) (eachT (fwd kind) x), true) := by unfold lift2R; rw [if_pos h]
  unfold unlift2R
  rw [if_pos h2, e]
  refine Prod.ext (trip kind x (fun i hi => (h.2.2 i hi).1) fun r hr => ?_) rfl
  obtain ⟨i, hi, rfl⟩ := List.getElem_of_mem hr
  have hin := (h.2.2 i hi).2.2
  rw [rdL_nat, List.getD_eq_getElem?_getD, List.getElem?_eq_getElem hi] at hin
  simp only [Option.getD_some] at hin
  exact ok64_sig (inB_iff.2 fun y hy => by have := inB_iff.1 hin y hy; omega)
/-- what the law asks of the way back -/
theorem back_same (kind : Int) (x : List (List Int)) (h : (lift2R kind x).2 = true) (h2 : (unlift2R kind (lift2R kind x).1).2 = true) : (unlift2R kind (lift2R kind x).1).1 = x := by
  have h1 : rowsB kind x 1000000000 := by
    unfold lift2R at h
    split at h
    · assumption
    · cases h
  have h3 : rowsB kind (lift2R kind x).1 8000000000 := by
    unfold unlift2R at h2
    split at h2
    · assumption
    · cases h2
  rw [back_rows kind x h1 h3]
theorem small_one : lift2R 1 [[1, 3]] = ([[2, 2]], true) := by
  have h : rowsB 1 [[1, 3]] 1000000000 := by
    refine ⟨by omega, by decide, fun i hi => ?_⟩
    have : i = 0 := by simp at hi; omega
    subst this
    exact ⟨rfl, by decide, by decide⟩
  unfold lift2R
  rw [if_pos h]
  decide +kernel
theorem lift2_few (kind : Int) (x : List (List Int)) (hn : x.length ≤ 2000000) (hr : ∀ r ∈ x, r.length ≤ 2000000) : (lift2R kind x).1.length ≤ 2000000 ∧ ∀ r ∈ (lift2R kind x).1, r.length ≤ 2000000 := by
  unfold lift2R
  split
  · rename_i h
    have hl : (eachT (fwd kind) x).length = x.length := tabL_length _ _
    refine ⟨?_, fun r hr => ?_⟩
    · show (colsT (fwd kind) (eachT (fwd kind) x)).length ≤ 2000000
      rw [cols_len, hl]
      omega
    · replace hr : r ∈ colsT (fwd kind) (eachT (fwd kind) x) := hr
      unfold colsT tabL at hr
      obtain ⟨i, hi, rfl⟩ := List.mem_map.1 hr
      have hi' := List.mem_range.1 hi
      rw [tab_length]
      have h0 := LRowF.each_row (fwd kind) x (i := 0) (by rw [hl] at hi'; omega)
      rw [show ((0 : Nat) : Int) = 0 from rfl] at h0
      rw [h0, fwd_len]
      rw [hl] at hi'
      have := (h.2.2 0 (by omega)).2.1
      rw [show ((0 : Nat) : Int) = 0 from rfl] at this
      omega
  · exact ⟨by simp, by simp⟩
end Go.Proofs.Ytofegdgcafameaa.LRowV
