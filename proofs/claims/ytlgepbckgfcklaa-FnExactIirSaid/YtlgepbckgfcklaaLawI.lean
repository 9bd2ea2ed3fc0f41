/- Contracts of FnExactIir's helpers, told of lists and numbers alone. -/
import Derived.Test.YtlgepbckgfcklaaLawW
import Derived.Test.YtlgepbckgfcklaaIirP
namespace Go.Proofs.Ytlgepbckgfcklaa.LawI
open Go.RowKit Go.Proofs.Ytlgepbckgfcklaa.QFnExactIir Go.Proofs.YtlgepbckgfcklaaW.PrintWords Go.Proofs.YtlgepbckgfcklaaW.PrintLast Go.Proofs.YtlgepbckgfcklaaW.PrintMore Go.Proofs.Ytlgepbckgfcklaa.Base Go.Proofs.Ytlgepbckgfcklaa.IirP Go.Proofs.Ytlgepbckgfcklaa.LawW
set_option linter.unusedVariables false
set_option linter.unusedSimpArgs false

theorem sec_calls (b0 b1 b2 a1 a2 : Int) (w : World) : Calls Try.prog 18 #[.agg #[.int .i64 b0, .int .i64 b1, .int .i64 b2, .int .i64 a1, .int .i64 a2]] w fun e w' => e = .returned (.agg #[.int .i64 b0, .int .i64 b1, .int .i64 b2, .int .i64 a1, .int .i64 a2]) ∧ Below w.heap.size w w' :=
  laws_toSection.calls b0 b1 b2 a1 a2 b0 b1 b2 a1 a2 w rfl
theorem past_calls (b0 b1 b2 a1 a2 : Int) (w : World) : Calls Try.prog 19 #[.agg #[.int .i64 b0, .int .i64 b1, .int .i64 b2, .int .i64 a1, .int .i64 a2]] w fun e w' => e = .returned (.agg #[.int .i64 b0, .int .i64 b1, .int .i64 b2, .int .i64 a1, .int .i64 a2]) ∧ Below w.heap.size w w' :=
  laws_toPast.calls b0 b1 b2 a1 a2 b0 b1 b2 a1 a2 w rfl
theorem eqPast_calls (b0 b1 b2 a1 a2 : Int) (w : World) : Calls Try.prog 21 #[.agg #[.int .i64 b0, .int .i64 b1, .int .i64 b2, .int .i64 a1, .int .i64 a2], .agg #[.int .i64 b0, .int .i64 b1, .int .i64 b2, .int .i64 a1, .int .i64 a2]] w fun e w' => e = .returned (.bool true) ∧ Below w.heap.size w w' :=
  laws_eqPast.calls b0 b1 b2 a1 a2 b0 b1 b2 a1 a2 true w (by unfold laws_eqPast.f; simp)
/-- what Iir tells -/
def RetI (r : List Int × Int × Int × Int × Int × Int × Bool) (w : World) (e : Ending) (w' : World) : Prop :=
  ∃ A c, e = .returned (.tuple #[.slice A r.1.length c, .agg #[.int .i64 r.2.1, .int .i64 r.2.2.1, .int .i64 r.2.2.2.1, .int .i64 r.2.2.2.2.1, .int .i64 r.2.2.2.2.2.1], .bool r.2.2.2.2.2.2]) ∧ Own w' w.heap.size (.slice A r.1.length c) r.1 ∧ Below w.heap.size w w'
theorem iir_calls {A : Option Addr} {n c : Nat} {l : List Int} (b0 b1 b2 a1 a2 x1 x2 y1 y2 e0 : Int) (w : World) (h : Red w A n c l) (hl : l.length ≤ 2000000) :
    Calls Try.prog 20 #[.agg #[.int .i64 b0, .int .i64 b1, .int .i64 b2, .int .i64 a1, .int .i64 a2], .agg #[.int .i64 x1, .int .i64 x2, .int .i64 y1, .int .i64 y2, .int .i64 e0], .slice A n c] w (RetI (iirR ⟨b0, b1, b2, a1, a2⟩ ⟨x1, x2, y1, y2, e0⟩ l) w) := by
  obtain ⟨hr, hc, rfl⟩ := h
  obtain ⟨K, hk⟩ := implIir_ev ⟨b0, b1, b2, a1, a2⟩ ⟨x1, x2, y1, y2, e0⟩ l hl
  refine (impl_Iir.calls K b0 b1 b2 a1 a2 x1 x2 y1 y2 e0 A c l _ _ _ _ _ _ _ w hr hc (hk K (Nat.le_refl _))).mono ?_
  rintro e w' ⟨v, rfl, ho, hb⟩
  obtain ⟨A', c', rfl⟩ := (of_R ho).form
  exact ⟨A', c', rfl, of_R ho, hb⟩
theorem siir_calls {A : Option Addr} {n c : Nat} {l : List Int} (b0 b1 b2 a1 a2 x1 x2 y1 y2 e0 : Int) (w : World) (h : Red w A n c l) (hl : l.length ≤ 2000000) :
    Calls Try.prog 17 #[.agg #[.int .i64 b0, .int .i64 b1, .int .i64 b2, .int .i64 a1, .int .i64 a2], .agg #[.int .i64 x1, .int .i64 x2, .int .i64 y1, .int .i64 y2, .int .i64 e0], .slice A n c] w (RetI (iirR ⟨b0, b1, b2, a1, a2⟩ ⟨x1, x2, y1, y2, e0⟩ l) w) := by
  obtain ⟨hr, hc, rfl⟩ := h
  obtain ⟨K, hk⟩ := specIir_ev ⟨b0, b1, b2, a1, a2⟩ ⟨x1, x2, y1, y2, e0⟩ l hl
  refine (spec_Iir.calls K b0 b1 b2 a1 a2 x1 x2 y1 y2 e0 A c l _ _ _ _ _ _ _ w hr hc (hk K (Nat.le_refl _))).mono ?_
  rintro e w' ⟨v, rfl, ho, hb⟩
  obtain ⟨A', c', rfl⟩ := (of_R ho).form
  exact ⟨A', c', rfl, of_R ho, hb⟩
/-- a box of five numbers: its cells -/
theorem box5 {w : World} {g t : Nat} {a b c d e : Value} (h : w.heap[g]? = some (.cells #[a, b, c, d, e] t (0, 0))) :
    w.cell? ⟨g, 0, none⟩ = some a ∧ w.cell? ⟨g, 1, none⟩ = some b ∧ w.cell? ⟨g, 2, none⟩ = some c ∧ w.cell? ⟨g, 3, none⟩ = some d ∧ w.cell? ⟨g, 4, none⟩ = some e := ⟨blk_cell h 0, blk_cell h 1, blk_cell h 2, blk_cell h 3, blk_cell h 4⟩
/-- behind a statement 'list, past, ok := Iir(..)': the list of its own, the past in a box of its own -/
def IBox (w5 wx : World) (r : List Int × Int × Int × Int × Int × Int × Bool) (v p ok : Value) : Prop :=
  ∃ A c G, v = .slice A r.1.length c ∧ p = .pointer (some ⟨G, 0, none⟩) ∧ ok = .bool r.2.2.2.2.2.2 ∧ Own wx w5.heap.size (.slice A r.1.length c) r.1 ∧
    wx.heap[G]? = some (.cells #[.int .i64 r.2.1, .int .i64 r.2.2.1, .int .i64 r.2.2.2.1, .int .i64 r.2.2.2.2.1, .int .i64 r.2.2.2.2.2.1] 40 (0, 0)) ∧ Below w5.heap.size w5 wx
end Go.Proofs.Ytlgepbckgfcklaa.LawI
