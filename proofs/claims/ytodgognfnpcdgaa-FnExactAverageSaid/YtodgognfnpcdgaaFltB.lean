/- The walks of DivPair, gauss and what the laws ask of the drawn bytes. -/
import Derived.Test.YtodgognfnpcdgaaFltA
import Derived.Deep.DeepCutAuto
import Derived.BigQuiet
namespace Go.Proofs.Ytodgognfnpcdgaa.FltB
open Go.RowKit Go.Proofs.Ytodgognfnpcdgaa.Flt Go.Proofs.Ytodgognfnpcdgaa.FltA Go.Proofs.YtodgognfnpcdgaaW.PrintWords Go.Proofs.Ytodgognfnpcdgaa.PFnDivided
set_option linter.unusedVariables false
set_option linter.unusedSimpArgs false
attribute [local go_sem] run_store_float

theorem mul_bar (a b : Int × Int) : mulC (mulC a b) (b.1, -b.2) = (a.1 * pow2C b, a.2 * pow2C b) := by
  simp only [mulC, pow2C]
  congr 1 <;> grind

theorem bcell {W w1 : World} (n : Nat) (hn : n ≤ W.heap.size) (hb : Below W.heap.size W w1) : (∀ b o, b < n → w1.cell? ⟨b, o, none⟩ = W.cell? ⟨b, o, none⟩) ∧ (∀ b o, b < n → w1.frozen? ⟨b, o, none⟩ = W.frozen? ⟨b, o, none⟩) :=
  ⟨fun b o h => hb.cell (p := ⟨b, o, none⟩) (Nat.lt_of_lt_of_le h hn), fun b o h => hb.frozen (p := ⟨b, o, none⟩) (Nat.lt_of_lt_of_le h hn)⟩
theorem bstep {n : Nat} {w w1 w2 : World} (h : Below n w w1) (h' : Below w1.heap.size w1 w2) (hn : n ≤ w1.heap.size) : Below n w w2 ∧ w1.heap.size ≤ w2.heap.size := ⟨h.trans (h'.mono hn), h'.size⟩

theorem fits_mul {a b : Int × Int} {X Y : Nat} (ha : Fits a X) (hb : Fits b Y) : Fits (mulC a b) (2 * (X * Y)) := by
  have b1 := natAbs_mul_le ha.1 hb.1
  have b2 := natAbs_mul_le ha.2 hb.2
  have b3 := natAbs_mul_le ha.1 hb.2
  have b4 := natAbs_mul_le ha.2 hb.1
  exact ⟨by show (a.1 * b.1 - a.2 * b.2).natAbs ≤ _; omega, by show (a.1 * b.2 + a.2 * b.1).natAbs ≤ _; omega⟩

set_option maxHeartbeats 1000000 in
theorem div_calls (a b : Int × Int) (p q r s : Nat) (w : World) (ha : Fits a 1000) (hb : Fits b 2) (hN : pow2C b ≠ 0) (h1 : IsF p (mulC a b).1) (h2 : IsF q (mulC a b).2) (h3 : IsF r b.1) (h4 : IsF s b.2) :
    Calls Try.prog 13 #[.agg #[.float .f64 p, .float .f64 q], .agg #[.float .f64 r, .float .f64 s]] w (RetC a w) := by
  have fm := fits_mul ha hb
  have key := mul_bar a b
  go_enter Try.func13, Try.ntmps13
  go_wp2_with fail
  refine (power2_calls b 2 r s _ hb (by omega) h3 h4).mono ?_
  rintro e w1 ⟨t, rfl, ht, hb1⟩
  go_wp2_with fail
  have hz : w.heap.size + 2 < w1.heap.size := by have := hb1.size; simp at this; omega
  have hk : ∀ w', Below w1.heap.size w1 w' → w'.cell? ⟨w.heap.size, 0, none⟩ = some (.float .f64 p) ∧ w'.cell? ⟨w.heap.size, 1, none⟩ = some (.float .f64 q) ∧ w'.cell? ⟨w.heap.size + 1, 0, none⟩ = some (.float .f64 r) ∧ w'.cell? ⟨w.heap.size + 1, 1, none⟩ = some (.float .f64 s) := by
    intro w' h
    obtain ⟨hc, hf⟩ := bcell (w.heap.size + 2) (by simp) hb1
    refine ⟨(h.cell (by simp; omega)).trans ?_, (h.cell (by simp; omega)).trans ?_, (h.cell (by simp; omega)).trans ?_, (h.cell (by simp; omega)).trans ?_⟩ <;> simp [hc, go_sem]
  have hkk : ∀ w', Below w1.heap.size w1 w' → w'.cell? ⟨w.heap.size + 1 + 1, 0, none⟩ = some (.float .f64 0) ∧ w'.cell? ⟨w.heap.size + 1 + 1, 1, none⟩ = some (.float .f64 0) ∧ w'.frozen? ⟨w.heap.size + 1 + 1, 0, none⟩ = false ∧ w'.frozen? ⟨w.heap.size + 1 + 1, 1, none⟩ = false := by
    intro w' h
    obtain ⟨hc, hf⟩ := bcell (w.heap.size + 3) (by simp) hb1
    refine ⟨(h.cell (by simp; omega)).trans ?_, (h.cell (by simp; omega)).trans ?_, (h.frozen (by simp; omega)).trans ?_, (h.frozen (by simp; omega)).trans ?_⟩ <;> simp [hc, hf, go_sem]
  have hk0 := fun w' h => (hk w' h).1
  have hk1 := fun w' h => (hk w' h).2.1
  have hk2 := fun w' h => (hk w' h).2.2.1
  have hk3 := fun w' h => (hk w' h).2.2.2
  clear hk
  have hB1 : Below w.heap.size w w1 := (bstep (w1 := ((w.alloc (Obj.cells #[Value.float FloatKind.f64 p, Value.float FloatKind.f64 q] 26)).alloc (Obj.cells #[Value.float FloatKind.f64 r, Value.float FloatKind.f64 s] 26)).alloc (Obj.cells #[Value.float FloatKind.f64 0, Value.float FloatKind.f64 0] 26)) (by repeat (first | exact Below.refl _ _ | apply below_alloc)) hb1 (by simp; omega)).1
  clear hb1
  have hz0 := Below.refl w1.heap.size w1
  go_region_held3 (fun w' => Below w1.heap.size w1 w') ((repeat (first | assumption | apply Below.drew | (refine Below.setCell ?_ (by first | omega | (simp; done) | (simp; omega)) _) | (refine Below.alloc ?_ (by first | omega | (simp; done) | (simp; omega)) _))))
    (first
      | (go_at_call 33; refine (bar_calls b r s _ h3 h4).mono ?_; rintro e w2 ⟨p2, q2, rfl, hp2, hq2, hb2⟩; obtain ⟨hc2, hf2⟩ := bcell _ (Nat.le_refl _) hb2; obtain ⟨hB2, hz2⟩ := bstep (by assumption) hb2 (by simp); simp at hz2; (try (have hz4 : w1.heap.size < w2.heap.size := by omega)))
      | (go_at_call 14; refine (mul_calls (mulC a b) (b.1, -b.2) 4000 2 _ _ _ _ _ fm ⟨hb.1, by have := hb.2; simp; exact this⟩ (by omega) h1 h2 hp2 hq2).mono ?_; rintro e w3 ⟨p3, q3, rfl, hp3, hq3, hb3⟩; obtain ⟨hc3, hf3⟩ := bcell _ (Nat.le_refl _) hb3; obtain ⟨hB3, hz3⟩ := bstep (by assumption) hb3 (by first | exact Nat.le_refl _ | (simp; done) | omega | (simp; omega))))
  all_goals
    rw [key] at hp3 hq3
    obtain ⟨x5, e5, f5⟩ := div_int hp3 ht hN (by have := ha.1; omega)
    obtain ⟨x6, e6, f6⟩ := div_int hq3 ht hN (by have := ha.2; omega)
    have o5 : ∀ u w, (binOp .quo u (.float .f64 p3) (.float .f64 t)).run Try.prog w = .ok (.float .f64 x5) w := fun _ w => run_float_arith w .quo _ .f64 _ _ _ e5
    have o6 : ∀ u w, (binOp .quo u (.float .f64 q3) (.float .f64 t)).run Try.prog w = .ok (.float .f64 x6) w := fun _ w => run_float_arith w .quo _ .f64 _ _ _ e6
    first
      | have hH := ‹Below w1.heap.size w1 (World.setCell _ _ _)›
      | have hH := ‹Below w1.heap.size w1 (World.alloc w3 _)›
    obtain ⟨g0, g1, g2, g3⟩ := hkk _ hH
    clear e5 e6 hkk hk0 hk1 hk2 hk3
    go_wp2_with (simp only [o5, o6])
    refine bodyPost_ret (v := .agg #[.float .f64 x5, .float .f64 x6]) (by simp [results, Try.results13, go_sem, g0, g1]) rfl ⟨_, _, rfl, f5, f6, ?_⟩
    clear hB2 hB3
    repeat (first | exact below_step hB1 hH | (refine Below.setCell ?_ (by first | omega | (simp; done) | (simp; omega)) _) | (refine Below.alloc ?_ (by first | omega | (simp; done) | (simp; omega)) _))
end Go.Proofs.Ytodgognfnpcdgaa.FltB
