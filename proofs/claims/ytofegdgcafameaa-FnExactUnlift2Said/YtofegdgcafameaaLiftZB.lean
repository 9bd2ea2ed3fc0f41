/- Unlift2 and the reference's Unlift2, as the exact law calls them. -/
import Derived.Test.YtofegdgcafameaaLiftXB
import Derived.Test.YtofegdgcafameaaRowYU
namespace Go.Proofs.Ytofegdgcafameaa.LiftZB
open Go.RowKit Go.Proofs.YtofegdgcafameaaW.PrintWords Go.Proofs.Ytofegdgcafameaa.Base Go.Proofs.Ytofegdgcafameaa.RowWU
open Go.Proofs.Ytofegdgcafameaa.QFnExactUnlift2 hiding rd_L1 at_L1
open Go.Proofs.Ytofegdgcafameaa.LiftXB Go.Proofs.Ytofegdgcafameaa.LiftB
set_option linter.unusedVariables false
theorem unlift2_calls (kind : Int) {A : Option Addr} {n c : Nat} {x : List (List Int)} (W : World) (h : RedS W A n c x) (hs : Small x) : Calls Try.prog 13 #[.int .i64 kind, .slice A n c] W (RetT (unlift2R kind x) W) := by
  have hn := hs.n
  refine (both_calls kind W h.row h.cap h.len (by have := h.len; omega) hs.r).mono ?_
  rintro e w' ⟨A', c', rfl, ho, hb⟩
  exact ⟨A', c', rfl, of_S ho, hb⟩
theorem sunlift2_calls (kind : Int) {A : Option Addr} {n c : Nat} {x : List (List Int)} (W : World) (h : RedS W A n c x) (hs : Small x) : Calls Try.prog 14 #[.int .i64 kind, .slice A n c] W (RetT (unlift2R kind x) W) := by
  obtain ⟨hr, hc, rfl⟩ := h
  obtain ⟨K, hk⟩ := specUnlift2_ev kind x hs.n hs.r
  refine (spec_Unlift2.calls K kind A c x _ _ W hr hc (hk K (Nat.le_refl _))).mono ?_
  rintro e w' ⟨v, rfl, ho, hb⟩
  obtain ⟨A', c', rfl⟩ := (of_S ho).form
  exact ⟨A', c', rfl, of_S ho, hb⟩
theorem unlift2_small (kind : Int) (x : List (List Int)) (hs : Small x) : Small (unlift2R kind x).1 := by
  unfold unlift2R
  split
  · rename_i h
    have hl : (RowT.colsT (bwd kind) x).length = x.length := RowT.tabL_length _ _
    refine RowYU.small_of (n := 64) (m := 64) ?_ (fun r hr => ?_) (by omega) (by omega) (by omega)
    · show (RowT.eachT (bwd kind) (RowT.colsT (bwd kind) x)).length ≤ 64
      unfold RowT.eachT
      rw [RowT.tabL_length, hl]
      exact h.2.1
    · replace hr : r ∈ RowT.eachT (bwd kind) (RowT.colsT (bwd kind) x) := hr
      unfold RowT.eachT RowT.tabL at hr
      obtain ⟨i, hi, rfl⟩ := List.mem_map.1 hr
      have hi' := List.mem_range.1 hi
      rw [hl] at hi'
      rw [bwd_len, show RowT.rd_L1 (RowT.colsT (bwd kind) x) (i : Int) = tab (RowT.rd_L1 x 0).length (fun c => rd (bwd kind (RowT.colT x c)) (i : Int)) from RowT.rdL_tab hi', tab_length]
      exact (h.2.2 0 (by omega)).2.1
  · exact ⟨by simp, by simp, by simp [LiftSU.off]⟩
end Go.Proofs.Ytofegdgcafameaa.LiftZB
