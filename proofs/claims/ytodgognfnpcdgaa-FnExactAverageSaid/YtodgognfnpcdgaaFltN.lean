/- Floats that may be NaN: what the operations give, up to the bits of a NaN. -/
import Derived.Test.YtodgognfnpcdgaaFltD
namespace Go.Proofs.Ytodgognfnpcdgaa.FltN
open Go.RowKit Go.Proofs.Ytodgognfnpcdgaa.Flt Go.Proofs.YtodgognfnpcdgaaW.PrintWords
open Ieee
set_option linter.unusedVariables false
set_option linter.unusedSimpArgs false

/-- the bits, or nothing where they are a NaN's -/
def cls (x : Nat) : Option Nat := match double.read x with | .nan _ _ => none | _ => some x

theorem cls_none {x : Nat} : cls x = none ↔ ∃ s f, double.read x = .nan s f := by
  unfold cls
  cases h : double.read x with
  | number s m e => simp
  | infinity s => simp
  | nan s f => simp
theorem cls_some {x y : Nat} (h : cls x = some y) : y = x ∧ ∀ s f, double.read x ≠ .nan s f := by
  unfold cls at h
  cases hr : double.read x with
  | number s m e => rw [hr] at h; exact ⟨by simpa using h.symm, by simp⟩
  | infinity s => rw [hr] at h; exact ⟨by simpa using h.symm, by simp⟩
  | nan s f => rw [hr] at h; simp at h
theorem cls_of {x : Nat} (h : ∀ s f, double.read x ≠ .nan s f) : cls x = some x := by
  unfold cls
  cases hr : double.read x with
  | number s m e => rfl
  | infinity s => rfl
  | nan s f => exact absurd hr (h s f)

theorem read_rung (s : Bool) (r : Nat) (h : r ≤ 9218868437227405312) : ∀ t f, double.read (double.word s r) ≠ .nan t f := by
  intro t f
  have eb : double.binade = 4503599627370496 := by decide
  have ei : double.infRung = 9218868437227405312 := by decide
  have es : double.signWeight = 9223372036854775808 := by decide
  unfold Format.read
  rw [eb, ei, es]
  have hw : double.word s r % 9223372036854775808 = r := by
    unfold Format.word
    rw [es]
    cases s <;> simp <;> omega
  rw [hw]
  simp only
  by_cases h1 : r < 4503599627370496
  · rw [if_pos h1]; simp
  · rw [if_neg h1]
    by_cases h2 : r < 9218868437227405312
    · rw [if_pos h2]; simp
    · rw [if_neg h2, if_pos (by omega)]; simp
theorem nearest_rung (s : Bool) (m : Nat) (e : Int) : ∀ t f, double.read (double.nearest s m e) ≠ .nan t f := by
  unfold Format.nearest
  split
  · exact read_rung s 0 (by omega)
  · refine read_rung s _ ?_
    have ei : double.infRung = 9218868437227405312 := by decide
    rw [ei]
    exact Nat.min_le_right _ _
theorem write_cls {d : Datum} (h : ∀ s f, d ≠ .nan s f) : cls (double.write d) = some (double.write d) := by
  refine cls_of ?_
  cases d with
  | number s m e => exact nearest_rung s m e
  | infinity s =>
    have ei : double.infRung = 9218868437227405312 := by decide
    exact read_rung s _ (by rw [ei]; exact Nat.le_refl _)
  | nan s f => exact absurd rfl (h s f)
theorem sum_ok {x y d : Datum} (h : x.sum y = some d) : ∀ s f, d ≠ .nan s f := by
  unfold Datum.sum at h
  split at h <;> (try (cases h; done)) <;> (try split at h) <;> (try (cases h; done)) <;> (cases h; intro s f hh; cases hh)
theorem product_ok {x y d : Datum} (h : x.product y = some d) : ∀ s f, d ≠ .nan s f := by
  unfold Datum.product at h
  split at h <;> (try (cases h; done)) <;> (try split at h) <;> (try (cases h; done)) <;> (cases h; intro s f hh; cases hh)
theorem quotient_ok {n : Nat} {x y d : Datum} (h : x.quotient n y = some d) : ∀ s f, d ≠ .nan s f := by
  unfold Datum.quotient at h
  split at h <;> (try (cases h; done)) <;> (try split at h) <;> (try split at h) <;> (try (cases h; done)) <;> (cases h; intro s f hh; cases hh)
theorem bits_cls {op : BinOp} {x y r : Nat} (h : floatBits op .f64 x y = some r) : cls r = some r := by
  unfold floatBits at h
  cases op <;> simp only at h <;> (try (cases h; done))
  · have h' : ((double.read x).sum (double.read y)).map double.write = some r := h
    obtain ⟨d, hd, rfl⟩ := Option.map_eq_some_iff.1 h'
    exact write_cls (sum_ok hd)
  · have h' : ((double.read x).sum (double.read y).opposite).map double.write = some r := h
    obtain ⟨d, hd, rfl⟩ := Option.map_eq_some_iff.1 h'
    exact write_cls (sum_ok hd)
  · have h' : ((double.read x).product (double.read y)).map double.write = some r := h
    obtain ⟨d, hd, rfl⟩ := Option.map_eq_some_iff.1 h'
    exact write_cls (product_ok hd)
  · have h' : ((double.read x).quotient 54 (double.read y)).map double.write = some r := h
    obtain ⟨d, hd, rfl⟩ := Option.map_eq_some_iff.1 h'
    exact write_cls (quotient_ok hd)
/-- an operation, up to the bits of a NaN -/
def opC (op : BinOp) (x y : Option Nat) : Option Nat := x.bind fun x => y.bind fun y => floatBits op .f64 x y
theorem nan_left {op : BinOp} {x y : Nat} (h : cls x = none) : floatBits op .f64 x y = none := by
  obtain ⟨s, f, hr⟩ := cls_none.1 h
  unfold floatBits
  cases op <;> simp only
  · show ((double.read x).sum (double.read y)).map double.write = none
    rw [hr]; rfl
  · show ((double.read x).sum (double.read y).opposite).map double.write = none
    rw [hr]; rfl
  · show ((double.read x).product (double.read y)).map double.write = none
    rw [hr]; rfl
  · show ((double.read x).quotient 54 (double.read y)).map double.write = none
    rw [hr]; rfl
theorem nan_right {op : BinOp} {x y : Nat} (h : cls y = none) : floatBits op .f64 x y = none := by
  obtain ⟨s, f, hr⟩ := cls_none.1 h
  unfold floatBits
  cases op <;> simp only
  · show ((double.read x).sum (double.read y)).map double.write = none
    rw [hr]; cases double.read x <;> rfl
  · show ((double.read x).sum (double.read y).opposite).map double.write = none
    rw [hr]; cases double.read x <;> rfl
  · show ((double.read x).product (double.read y)).map double.write = none
    rw [hr]; cases double.read x <;> rfl
  · show ((double.read x).quotient 54 (double.read y)).map double.write = none
    rw [hr]; cases double.read x <;> rfl
theorem opC_cls (op : BinOp) (x y : Nat) : opC op (cls x) (cls y) = floatBits op .f64 x y := by
  cases hx : cls x with
  | none => rw [nan_left hx]; rfl
  | some x' =>
    obtain ⟨rfl, _⟩ := cls_some hx
    cases hy : cls y with
    | none => rw [nan_right hy]; rfl
    | some y' =>
      obtain ⟨rfl, _⟩ := cls_some hy
      rfl
theorem cut_nan (x y t : Nat) : cls (Question.cut (.nanBits .f64 x y) t) = none := by
  refine cls_none.2 ?_
  have hq : Question.cut (.nanBits .f64 x y) t = (t % 2) * 2 ^ 63 + 0x7ff0000000000000 + 1 + (t / 2) % (2 ^ 52 - 1) := rfl
  rw [hq]
  have eb : double.binade = 4503599627370496 := by decide
  have ei : double.infRung = 9218868437227405312 := by decide
  have es : double.signWeight = 9223372036854775808 := by decide
  unfold Format.read
  rw [eb, ei, es]
  generalize hz : (t % 2) * 2 ^ 63 + 0x7ff0000000000000 + 1 + (t / 2) % (2 ^ 52 - 1) = z
  have h1 : 9218868437227405312 < z % 9223372036854775808 := by
    have := Nat.mod_lt (t / 2) (show 0 < 4503599627370495 by omega)
    have h2 : t % 2 = 0 ∨ t % 2 = 1 := by omega
    rcases h2 with h2 | h2 <;> rw [h2] at hz <;> simp at hz <;> omega
  simp only
  rw [if_neg (by omega), if_neg (by omega), if_neg (by omega)]
  exact ⟨_, _, rfl⟩
/-- THE WALK's FORM: some bits come back, in a world that may have been drawn. -/
theorem run_any {P : Program} (op : BinOp) (hop : op = .add ∨ op = .sub ∨ op = .mul ∨ op = .quo) (x y : Nat) (w : World) :
    ∃ r n, (∀ t, (binOp op t (.float .f64 x) (.float .f64 y)).run P w = .ok (.float .f64 r) (w.drewN n)) ∧ cls r = opC op (cls x) (cls y) := by
  rw [opC_cls]
  cases h : floatBits op .f64 x y with
  | some r => exact ⟨r, 0, fun t => run_float_arith w op t .f64 x y r h, bits_cls h⟩
  | none =>
    refine ⟨Question.cut (.nanBits .f64 x y) (w.tape w.drawn (.nanBits .f64 x y)), 1, fun t => ?_, cut_nan _ _ _⟩
    unfold floatBits at h
    rcases hop with rfl | rfl | rfl | rfl <;> simp only at h <;> simp [binOp, Op.floatArith, h, Question.forced, World.drewN]
theorem order_nan_left {x y : Nat} (h : cls x = none) : FloatKind.f64.format.order x y = none := by
  obtain ⟨s, f, hr⟩ := cls_none.1 h
  show (double.read x).order (double.read y) = none
  rw [hr]; rfl
theorem order_self {x : Nat} (h : cls x = some x) : FloatKind.f64.format.order x x = some .eq := by
  obtain ⟨_, hn⟩ := cls_some h
  show (double.read x).order (double.read x) = some .eq
  cases hr : double.read x with
  | number s m e => simp [Datum.order]
  | infinity s => cases s <;> rfl
  | nan s f => exact absurd hr (hn s f)
end Go.Proofs.Ytodgognfnpcdgaa.FltN
