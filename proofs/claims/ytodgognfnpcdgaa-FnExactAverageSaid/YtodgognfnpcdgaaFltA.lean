/- The walks of the functions on pairs of floats (whole numbers). -/
import Derived.Test.YtodgognfnpcdgaaFlt
import Derived.Test.YtodgognfnpcdgaaPFnDividedx1
import Derived.Laws.Cover2
import Derived.Laws.Small
import Derived.Laws.Pointers
import Derived.Laws.Unary
import Derived.Deep.RegionHeld3
namespace Go.Proofs.Ytodgognfnpcdgaa.FltA
open Go.RowKit Go.Proofs.Ytodgognfnpcdgaa.Flt Go.Proofs.YtodgognfnpcdgaaW.PrintWords
set_option linter.unusedVariables false

/-- both numbers are at most X in size -/
def Fits (z : Int × Int) (X : Nat) : Prop := z.1.natAbs ≤ X ∧ z.2.natAbs ≤ X
def mulC (z u : Int × Int) : Int × Int := (z.1 * u.1 - z.2 * u.2, z.1 * u.2 + z.2 * u.1)
def addC (z u : Int × Int) : Int × Int := (z.1 + u.1, z.2 + u.2)
def subC (z u : Int × Int) : Int × Int := (z.1 - u.1, z.2 - u.2)
def pow2C (z : Int × Int) : Int := z.1 * z.1 + z.2 * z.2

/-- what comes back: a pair that reads as z; nothing that stood has changed -/
def RetC (z : Int × Int) (w : World) (e : Ending) (w' : World) : Prop := ∃ p q, e = .returned (.agg #[.float .f64 p, .float .f64 q]) ∧ IsF p z.1 ∧ IsF q z.2 ∧ Below w.heap.size w w'
def RetF (n : Int) (w : World) (e : Ending) (w' : World) : Prop := ∃ p, e = .returned (.float .f64 p) ∧ IsF p n ∧ Below w.heap.size w w'

theorem natAbs_mul_le {a b : Int} {X Y : Nat} (h1 : a.natAbs ≤ X) (h2 : b.natAbs ≤ Y) : (a * b).natAbs ≤ X * Y := by
  rw [Int.natAbs_mul]; exact Nat.mul_le_mul h1 h2

theorem power2_calls (z : Int × Int) (X : Nat) (p q : Nat) (w : World) (hz : Fits z X) (hX : X * X ≤ 2251799813685248) (h1 : IsF p z.1) (h2 : IsF q z.2) :
    Calls Try.prog 10 #[.agg #[.float .f64 p, .float .f64 q]] w (RetF (pow2C z) w) := by
  obtain ⟨hz1, hz2⟩ := hz
  have b1 := natAbs_mul_le hz1 hz1
  have b2 := natAbs_mul_le hz2 hz2
  obtain ⟨r, e1, f1⟩ := mul_int h1 h1 (by omega)
  obtain ⟨s, e2, f2⟩ := mul_int h2 h2 (by omega)
  obtain ⟨t, e3, f3⟩ := add_int f1 f2 (by omega)
  have o1 : ∀ t w, (binOp .mul t (.float .f64 p) (.float .f64 p)).run Try.prog w = .ok (.float .f64 r) w := fun _ w => run_float_arith w .mul _ .f64 _ _ _ e1
  have o2 : ∀ t w, (binOp .mul t (.float .f64 q) (.float .f64 q)).run Try.prog w = .ok (.float .f64 s) w := fun _ w => run_float_arith w .mul _ .f64 _ _ _ e2
  have o3 : ∀ u w, (binOp .add u (.float .f64 r) (.float .f64 s)).run Try.prog w = .ok (.float .f64 t) w := fun _ w => run_float_arith w .add _ .f64 _ _ _ e3
  clear e1 e2 e3
  refine Calls.mono (R := fun e w' => e = .returned (.float .f64 t) ∧ Below w.heap.size w w') ?_ fun e w' h => ⟨t, h.1, f3, h.2⟩
  clear f1 f2 f3
  go_enter Try.func10, Try.ntmps10
  go_wp2_with (simp only [o1, o2, o3])
  go_ret
  exact ⟨rfl, by repeat (first | exact Below.refl _ _ | apply below_alloc)⟩

theorem run_store_float {P : Program} {w : World} {a : Addr} {m : Mode} (k : FloatKind) (n : Nat) : (store a (.float k n) m).run P w = stored P w a (.float k n) m := run_store P w a _ m rfl
attribute [local go_sem] run_store_float
theorem bar_calls (z : Int × Int) (p q : Nat) (w : World) (h1 : IsF p z.1) (h2 : IsF q z.2) :
    Calls Try.prog 33 #[.agg #[.float .f64 p, .float .f64 q]] w (RetC (z.1, -z.2) w) := by
  obtain ⟨n, hn⟩ : ∃ n, Op.negFloat .f64 q = n := ⟨_, rfl⟩
  have hu : Op.unary .neg (.float .f64 q) = pure (.float .f64 n) := by rw [← hn]; rfl
  have h3 : IsF n (-z.2) := by rw [← hn]; exact neg_int h2
  refine Calls.mono (R := fun e w' => e = .returned (.agg #[.float .f64 p, .float .f64 n]) ∧ Below w.heap.size w w') ?_ fun e w' h => ⟨_, _, h.1, h1, h3, h.2⟩
  clear h1 h2 h3 hn
  go_enter Try.func33, Try.ntmps33
  go_wp2
  refine bodyPost_ret (v := .agg #[.float .f64 p, .float .f64 n]) (by simp [results, Try.results33, go_sem]) rfl ⟨rfl, ?_⟩
  repeat (first | exact Below.refl _ _ | apply below_alloc)

theorem mul_calls (z u : Int × Int) (X Y : Nat) (p q r s : Nat) (w : World) (hz : Fits z X) (hu : Fits u Y) (hX : X * Y ≤ 2251799813685248) (h1 : IsF p z.1) (h2 : IsF q z.2) (h3 : IsF r u.1) (h4 : IsF s u.2) :
    Calls Try.prog 14 #[.agg #[.float .f64 p, .float .f64 q], .agg #[.float .f64 r, .float .f64 s]] w (RetC (mulC z u) w) := by
  obtain ⟨hz1, hz2⟩ := hz
  obtain ⟨hu1, hu2⟩ := hu
  have b1 := natAbs_mul_le hz1 hu1
  have b2 := natAbs_mul_le hz2 hu2
  have b3 := natAbs_mul_le hz1 hu2
  have b4 := natAbs_mul_le hz2 hu1
  obtain ⟨a1, e1, f1⟩ := mul_int h1 h3 (by omega)
  obtain ⟨a2, e2, f2⟩ := mul_int h2 h4 (by omega)
  obtain ⟨a3, e3, f3⟩ := mul_int h1 h4 (by omega)
  obtain ⟨a4, e4, f4⟩ := mul_int h2 h3 (by omega)
  obtain ⟨a5, e5, f5⟩ := sub_int f1 f2 (by omega)
  obtain ⟨a6, e6, f6⟩ := add_int f3 f4 (by omega)
  have o1 : ∀ t w, (binOp .mul t (.float .f64 p) (.float .f64 r)).run Try.prog w = .ok (.float .f64 a1) w := fun _ w => run_float_arith w .mul _ .f64 _ _ _ e1
  have o2 : ∀ t w, (binOp .mul t (.float .f64 q) (.float .f64 s)).run Try.prog w = .ok (.float .f64 a2) w := fun _ w => run_float_arith w .mul _ .f64 _ _ _ e2
  have o3 : ∀ t w, (binOp .mul t (.float .f64 p) (.float .f64 s)).run Try.prog w = .ok (.float .f64 a3) w := fun _ w => run_float_arith w .mul _ .f64 _ _ _ e3
  have o4 : ∀ t w, (binOp .mul t (.float .f64 q) (.float .f64 r)).run Try.prog w = .ok (.float .f64 a4) w := fun _ w => run_float_arith w .mul _ .f64 _ _ _ e4
  have o5 : ∀ t w, (binOp .sub t (.float .f64 a1) (.float .f64 a2)).run Try.prog w = .ok (.float .f64 a5) w := fun _ w => run_float_arith w .sub _ .f64 _ _ _ e5
  have o6 : ∀ t w, (binOp .add t (.float .f64 a3) (.float .f64 a4)).run Try.prog w = .ok (.float .f64 a6) w := fun _ w => run_float_arith w .add _ .f64 _ _ _ e6
  clear e1 e2 e3 e4 e5 e6
  refine Calls.mono (R := fun e w' => e = .returned (.agg #[.float .f64 a5, .float .f64 a6]) ∧ Below w.heap.size w w') ?_ fun e w' h => ⟨_, _, h.1, f5, f6, h.2⟩
  clear f1 f2 f3 f4 f5 f6 h1 h2 h3 h4 b1 b2 b3 b4
  go_enter Try.func14, Try.ntmps14
  go_wp2_with (simp only [o1, o2, o3, o4, o5, o6])
  refine bodyPost_ret (v := .agg #[.float .f64 a5, .float .f64 a6]) (by simp [results, Try.results14, go_sem]) rfl ⟨rfl, ?_⟩
  repeat (first | exact Below.refl _ _ | apply below_alloc)

theorem sub_calls (z u : Int × Int) (X Y : Nat) (p q r s : Nat) (w : World) (hz : Fits z X) (hu : Fits u Y) (hX : X + Y ≤ 2251799813685248) (h1 : IsF p z.1) (h2 : IsF q z.2) (h3 : IsF r u.1) (h4 : IsF s u.2) :
    Calls Try.prog 34 #[.agg #[.float .f64 p, .float .f64 q], .agg #[.float .f64 r, .float .f64 s]] w (RetC (subC z u) w) := by
  obtain ⟨hz1, hz2⟩ := hz
  obtain ⟨hu1, hu2⟩ := hu
  obtain ⟨a5, e5, f5⟩ := sub_int h1 h3 (by omega)
  obtain ⟨a6, e6, f6⟩ := sub_int h2 h4 (by omega)
  have o5 : ∀ t w, (binOp .sub t (.float .f64 p) (.float .f64 r)).run Try.prog w = .ok (.float .f64 a5) w := fun _ w => run_float_arith w .sub _ .f64 _ _ _ e5
  have o6 : ∀ t w, (binOp .sub t (.float .f64 q) (.float .f64 s)).run Try.prog w = .ok (.float .f64 a6) w := fun _ w => run_float_arith w .sub _ .f64 _ _ _ e6
  clear e5 e6
  refine Calls.mono (R := fun e w' => e = .returned (.agg #[.float .f64 a5, .float .f64 a6]) ∧ Below w.heap.size w w') ?_ fun e w' h => ⟨_, _, h.1, f5, f6, h.2⟩
  clear f5 f6 h1 h2 h3 h4
  go_enter Try.func34, Try.ntmps34
  go_wp2_with (simp only [o5, o6])
  refine bodyPost_ret (v := .agg #[.float .f64 a5, .float .f64 a6]) (by simp [results, Try.results34, go_sem]) rfl ⟨rfl, ?_⟩
  repeat (first | exact Below.refl _ _ | apply below_alloc)

theorem add_calls (z u : Int × Int) (X Y : Nat) (p q r s : Nat) (w : World) (hz : Fits z X) (hu : Fits u Y) (hX : X + Y ≤ 2251799813685248) (h1 : IsF p z.1) (h2 : IsF q z.2) (h3 : IsF r u.1) (h4 : IsF s u.2) :
    Calls Try.prog 35 #[.agg #[.float .f64 p, .float .f64 q], .agg #[.float .f64 r, .float .f64 s]] w (RetC (addC z u) w) := by
  obtain ⟨hz1, hz2⟩ := hz
  obtain ⟨hu1, hu2⟩ := hu
  obtain ⟨a5, e5, f5⟩ := add_int h1 h3 (by omega)
  obtain ⟨a6, e6, f6⟩ := add_int h2 h4 (by omega)
  have o5 : ∀ t w, (binOp .add t (.float .f64 p) (.float .f64 r)).run Try.prog w = .ok (.float .f64 a5) w := fun _ w => run_float_arith w .add _ .f64 _ _ _ e5
  have o6 : ∀ t w, (binOp .add t (.float .f64 q) (.float .f64 s)).run Try.prog w = .ok (.float .f64 a6) w := fun _ w => run_float_arith w .add _ .f64 _ _ _ e6
  clear e5 e6
  refine Calls.mono (R := fun e w' => e = .returned (.agg #[.float .f64 a5, .float .f64 a6]) ∧ Below w.heap.size w w') ?_ fun e w' h => ⟨_, _, h.1, f5, f6, h.2⟩
  clear f5 f6 h1 h2 h3 h4
  go_enter Try.func35, Try.ntmps35
  go_wp2_with (simp only [o5, o6])
  refine bodyPost_ret (v := .agg #[.float .f64 a5, .float .f64 a6]) (by simp [results, Try.results35, go_sem]) rfl ⟨rfl, ?_⟩
  repeat (first | exact Below.refl _ _ | apply below_alloc)

def eqC (z u : Int × Int) : Bool := decide (z.1 = u.1) && decide (z.2 = u.2)
theorem equal_calls (z u : Int × Int) (p q r s : Nat) (w : World) (h1 : IsF p z.1) (h2 : IsF q z.2) (h3 : IsF r u.1) (h4 : IsF s u.2) :
    Calls Try.prog 12 #[.agg #[.float .f64 p, .float .f64 q], .agg #[.float .f64 r, .float .f64 s]] w fun e w' => e = .returned (.bool (eqC z u)) ∧ Below w.heap.size w w' := by
  have o1 : (FloatKind.f64.format.order p r == some .eq) = decide (z.1 = u.1) := order_int h1 h3
  have o2 : (FloatKind.f64.format.order q s == some .eq) = decide (z.2 = u.2) := order_int h2 h4
  clear h1 h2 h3 h4
  by_cases e1 : z.1 = u.1
  · rw [decide_eq_true e1] at o1
    have hr : eqC z u = (FloatKind.f64.format.order q s == some .eq) := by unfold eqC; rw [decide_eq_true e1, o2]; rfl
    rw [hr]
    clear hr o2 e1
    go_enter Try.func12, Try.ntmps12
    go_wp2
    go_ret
    exact ⟨rfl, by repeat (first | exact Below.refl _ _ | apply below_alloc)⟩
  · rw [decide_eq_false e1] at o1
    have hr : eqC z u = false := by unfold eqC; rw [decide_eq_false e1]; rfl
    rw [hr]
    clear hr o2 e1
    go_enter Try.func12, Try.ntmps12
    go_wp2
    go_ret
    exact ⟨rfl, by repeat (first | exact Below.refl _ _ | apply below_alloc)⟩
end Go.Proofs.Ytodgognfnpcdgaa.FltA
