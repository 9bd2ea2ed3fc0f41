/- Lift2 and the reference's Lift2, as the exact law calls them. -/
import Derived.Test.YtofegdgcafameaaLiftX
import Derived.Test.YtofegdgcafameaaRowYL
namespace Go.Proofs.Ytofegdgcafameaa.LiftZ
open Go.RowKit Go.Proofs.YtofegdgcafameaaW.PrintWords Go.Proofs.Ytofegdgcafameaa.Base Go.Proofs.Ytofegdgcafameaa.RowWL
open Go.Proofs.Ytofegdgcafameaa.QFnExactLift2 hiding rd_L1 at_L1
open Go.Proofs.Ytofegdgcafameaa.LiftX Go.Proofs.Ytofegdgcafameaa.LiftF
set_option linter.unusedVariables false
theorem lift2_calls (kind : Int) {A : Option Addr} {n c : Nat} {x : List (List Int)} (W : World) (h : RedS W A n c x) (hs : Small x) : Calls Try.prog 10 #[.int .i64 kind, .slice A n c] W (RetT (lift2R kind x) W) := by
  have hn := hs.n
  refine (both_calls kind W h.row h.cap h.len (by have := h.len; omega) hs.r).mono ?_
  rintro e w' ⟨A', c', rfl, ho, hb⟩
  exact ⟨A', c', rfl, of_S ho, hb⟩
theorem slift2_calls (kind : Int) {A : Option Addr} {n c : Nat} {x : List (List Int)} (W : World) (h : RedS W A n c x) (hs : Small x) : Calls Try.prog 11 #[.int .i64 kind, .slice A n c] W (RetT (lift2R kind x) W) := by
  obtain ⟨hr, hc, rfl⟩ := h
  obtain ⟨K, hk⟩ := specLift2_ev kind x hs.n hs.r
  refine (spec_Lift2.calls K kind A c x _ _ W hr hc (hk K (Nat.le_refl _))).mono ?_
  rintro e w' ⟨v, rfl, ho, hb⟩
  obtain ⟨A', c', rfl⟩ := (of_S ho).form
  exact ⟨A', c', rfl, of_S ho, hb⟩
theorem lift2_small (kind : Int) (x : List (List Int)) (hs : Small x) : Small (lift2R kind x).1 := by
  unfold lift2R
  split
  · rename_i h
    have hl : (RowT.eachT (fwd kind) x).length = x.length := RowT.tabL_length _ _
    refine RowYL.small_of (n := 64) (m := 64) ?_ (fun r hr => ?_) (by omega) (by omega) (by omega)
    · show (RowT.colsT (fwd kind) (RowT.eachT (fwd kind) x)).length ≤ 64
      unfold RowT.colsT
      rw [RowT.tabL_length, hl]
      exact h.2.1
    · replace hr : r ∈ RowT.colsT (fwd kind) (RowT.eachT (fwd kind) x) := hr
      unfold RowT.colsT RowT.tabL at hr
      obtain ⟨i, hi, rfl⟩ := List.mem_map.1 hr
      have hi' := List.mem_range.1 hi
      rw [tab_length]
      have hpos : 0 < x.length := by rw [hl] at hi'; omega
      have h0 := each_row (fwd kind) x (i := 0) hpos
      rw [show ((0 : Nat) : Int) = 0 from rfl] at h0
      rw [h0, fwd_len]
      exact (h.2.2 0 hpos).2.1
  · exact ⟨by simp, by simp, by simp [LiftS.off]⟩
end Go.Proofs.Ytofegdgcafameaa.LiftZ
