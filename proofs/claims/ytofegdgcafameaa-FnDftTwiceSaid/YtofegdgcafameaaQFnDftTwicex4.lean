-- Laid by wip/own_print.py: the kit's printer, run with hand-made parts (see NOTES.md).
import Derived.Test.YtofegdgcafameaaQFnDftTwicex0
import Derived.Test.YtofegdgcafameaaQFnDftTwicex2
import Derived.Test.YtofegdgcafameaaQFnDftTwicex3
namespace Go.Proofs.Ytofegdgcafameaa.QFnDftTwice
open Go.RowKit Go.Proofs.YtofegdgcafameaaW.PrintWords Go.Proofs.YtofegdgcafameaaW.PrintLast Go.Proofs.YtofegdgcafameaaW.PrintMore
attribute [local go_sem] max2_int min2_int max_two min_two max_three min_three max_four min_four   -- for this text's walks alone
set_option linter.unusedVariables false
set_option linter.unusedSimpArgs false

/-! ### impl_Dft: function 44 -/
mutual
def impl_Dft.j0 : Nat → List Int → Int → Bool → Int → Bool → Option (List Int × Bool)
  | 0, _, _, _, _, _ => none
  | k + 1, x0, x1, x2, x8, x33 => if x33 = true then (some (([] : List Int), false)) else ((impl_Unit.f k x8 x1).bind fun t188 => (if x2 = true then ((impl_InvMod.f k t188 x1).bind fun t189 => ((impl_InvMod.f k x8 x1).bind fun t190 => (impl_Dft.j1 k x0 x1 x8 t189 t190))) else (impl_Dft.j1 k x0 x1 x8 t188 1)))
def impl_Dft.j1 : Nat → List Int → Int → Int → Int → Int → Option (List Int × Bool)
  | 0, _, _, _, _, _ => none
  | k + 1, x0, x1, x8, x9, x10 => if 0 ≤ x8 then (if (x8 : Int).toNat ≤ 35184372088832 then ((some (List.replicate (x8 : Int).toNat 0 : List Int)).bind fun y191 => (if 0 < (y191.length : Int) then (impl_Dft.l0 k x0 x1 x8 x9 x10 (y191.set (0 : Int).toNat 1) 1) else (none))) else (none)) else (none)
def impl_Dft.l0 : Nat → List Int → Int → Int → Int → Int → List Int → Int → Option (List Int × Bool)
  | 0, _, _, _, _, _, _, _ => none
  | k + 1, x0, x1, x8, x9, x10, x11, x12 => if x12 < x8 then (if 0 ≤ (wrap64 (x12 - 1)) then (if (wrap64 (x12 - 1)) < (x11.length : Int) then (if x1 = 0 then (none) else (if 0 ≤ x12 then (if x12 < (x11.length : Int) then (impl_Dft.l0 k x0 x1 x8 x9 x10 (x11.set (x12 : Int).toNat (Int.tmod (wrap64 ((rd x11 (wrap64 (x12 - 1))) * x9)) x1)) (wrap64 (x12 + 1))) else (none)) else (none))) else (none)) else (none)) else (if 0 ≤ x8 then (if (x8 : Int).toNat ≤ 35184372088832 then ((some (List.replicate (x8 : Int).toNat 0 : List Int)).bind fun y197 => (impl_Dft.l1 k x0 x1 x8 x10 x11 y197 (y197.length : Int) 0)) else (none)) else (none))
def impl_Dft.l1 : Nat → List Int → Int → Int → Int → List Int → List Int → Int → Int → Option (List Int × Bool)
  | 0, _, _, _, _, _, _, _, _ => none
  | k + 1, x0, x1, x8, x10, x11, x13, x68, x69 => if x69 < x68 then (impl_Dft.l2 k x0 x1 x8 x10 x11 x13 x69 0 x68 x69 x0 (x0.length : Int) 0) else (some (x13, true))
def impl_Dft.l2 : Nat → List Int → Int → Int → Int → List Int → List Int → Int → Int → Int → Int → List Int → Int → Int → Option (List Int × Bool)
  | 0, _, _, _, _, _, _, _, _, _, _, _, _, _ => none
  | k + 1, x0, x1, x8, x10, x11, x13, x14, x15, x68, x69, x72, x73, x74 => if x74 < x73 then (if 0 ≤ x74 then (if x74 < (x72.length : Int) then (if x8 = 0 then (none) else (if 0 ≤ (Int.tmod (wrap64 (x74 * x14)) x8) then (if (Int.tmod (wrap64 (x74 * x14)) x8) < (x11.length : Int) then (if x1 = 0 then (none) else (impl_Dft.l2 k x0 x1 x8 x10 x11 x13 x14 (Int.tmod (wrap64 (x15 + (wrap64 ((rd x72 x74) * (rd x11 (Int.tmod (wrap64 (x74 * x14)) x8)))))) x1) x68 x69 x72 x73 (wrap64 (x74 + 1)))) else (none)) else (none))) else (none)) else (none)) else (if x1 = 0 then (none) else (if 0 ≤ x14 then (if x14 < (x13.length : Int) then (impl_Dft.l1 k x0 x1 x8 x10 x11 (x13.set (x14 : Int).toNat (Int.tmod (wrap64 (x15 * x10)) x1)) x68 (wrap64 (x69 + 1))) else (none)) else (none)))
end
def impl_Dft.f (k : Nat) (l0 : List Int) (a1 : Int) (a2 : Bool) : Option (List Int × Bool) := (impl_isPrime.f a1).bind fun t185 => (if t185 = true then ((impl_row.f k l0 a1).bind fun t186 => (if t186 = true then ((impl_whole.f (l0.length : Int)).bind fun t187 => (impl_Dft.j0 k l0 a1 a2 (l0.length : Int) (!t187))) else (impl_Dft.j0 k l0 a1 a2 (l0.length : Int) true))) else (impl_Dft.j0 k l0 a1 a2 (l0.length : Int) true))
theorem impl_Dft.mono_l : ∀ k, (∀ y0 y1 y2 y3 y4, LeO (impl_Dft.j0 k y0 y1 y2 y3 y4) (impl_Dft.j0 (k + 1) y0 y1 y2 y3 y4)) ∧ (∀ y0 y1 y2 y3 y4, LeO (impl_Dft.j1 k y0 y1 y2 y3 y4) (impl_Dft.j1 (k + 1) y0 y1 y2 y3 y4)) ∧ (∀ y0 y1 y2 y3 y4 y5 y6, LeO (impl_Dft.l0 k y0 y1 y2 y3 y4 y5 y6) (impl_Dft.l0 (k + 1) y0 y1 y2 y3 y4 y5 y6)) ∧ (∀ y0 y1 y2 y3 y4 y5 y6 y7, LeO (impl_Dft.l1 k y0 y1 y2 y3 y4 y5 y6 y7) (impl_Dft.l1 (k + 1) y0 y1 y2 y3 y4 y5 y6 y7)) ∧ (∀ y0 y1 y2 y3 y4 y5 y6 y7 y8 y9 y10 y11 y12, LeO (impl_Dft.l2 k y0 y1 y2 y3 y4 y5 y6 y7 y8 y9 y10 y11 y12) (impl_Dft.l2 (k + 1) y0 y1 y2 y3 y4 y5 y6 y7 y8 y9 y10 y11 y12))
  | 0 => ⟨fun _ _ _ _ _ r h => by simp [impl_Dft.j0] at h, fun _ _ _ _ _ r h => by simp [impl_Dft.j1] at h, fun _ _ _ _ _ _ _ r h => by simp [impl_Dft.l0] at h, fun _ _ _ _ _ _ _ _ r h => by simp [impl_Dft.l1] at h, fun _ _ _ _ _ _ _ _ _ _ _ _ _ r h => by simp [impl_Dft.l2] at h⟩
  | k + 1 => by
    obtain ⟨ih0, ih1, ih2, ih3, ih4⟩ := impl_Dft.mono_l k
    refine ⟨?_, ?_, ?_, ?_, ?_⟩
    · intro y0 y1 y2 y3 y4
      unfold impl_Dft.j0
      repeat' first
      | (with_reducible exact ih0 _ _ _ _ _)
      | (with_reducible exact ih1 _ _ _ _ _)
      | (with_reducible exact ih2 _ _ _ _ _ _ _)
      | (with_reducible exact ih3 _ _ _ _ _ _ _ _)
      | (with_reducible exact ih4 _ _ _ _ _ _ _ _ _ _ _ _ _)
      | (with_reducible exact impl_InvMod.mono _ _ _)
      | (with_reducible exact impl_Unit.mono _ _ _)
      | (with_reducible exact impl_row.mono _ _ _)
      | (with_reducible exact LeO.refl _)
      | (with_reducible exact LeO.none _)
      | (with_reducible refine LeO.ite ?_ ?_)
      | (with_reducible refine LeO.bind ?_ (fun _ => ?_))
      | exact ih0 _ _ _ _ _
      | exact ih1 _ _ _ _ _
      | exact ih2 _ _ _ _ _ _ _
      | exact ih3 _ _ _ _ _ _ _ _
      | exact ih4 _ _ _ _ _ _ _ _ _ _ _ _ _
      | exact impl_InvMod.mono _ _ _
      | exact impl_Unit.mono _ _ _
      | exact impl_row.mono _ _ _
      | exact LeO.none _
      | refine LeO.ite ?_ ?_
      | refine LeO.bind ?_ (fun _ => ?_)
    · intro y0 y1 y2 y3 y4
      unfold impl_Dft.j1
      repeat' first
      | (with_reducible exact ih0 _ _ _ _ _)
      | (with_reducible exact ih1 _ _ _ _ _)
      | (with_reducible exact ih2 _ _ _ _ _ _ _)
      | (with_reducible exact ih3 _ _ _ _ _ _ _ _)
      | (with_reducible exact ih4 _ _ _ _ _ _ _ _ _ _ _ _ _)
      | (with_reducible exact impl_InvMod.mono _ _ _)
      | (with_reducible exact impl_Unit.mono _ _ _)
      | (with_reducible exact impl_row.mono _ _ _)
      | (with_reducible exact LeO.refl _)
      | (with_reducible exact LeO.none _)
      | (with_reducible refine LeO.ite ?_ ?_)
      | (with_reducible refine LeO.bind ?_ (fun _ => ?_))
      | exact ih0 _ _ _ _ _
      | exact ih1 _ _ _ _ _
      | exact ih2 _ _ _ _ _ _ _
      | exact ih3 _ _ _ _ _ _ _ _
      | exact ih4 _ _ _ _ _ _ _ _ _ _ _ _ _
      | exact impl_InvMod.mono _ _ _
      | exact impl_Unit.mono _ _ _
      | exact impl_row.mono _ _ _
      | exact LeO.none _
      | refine LeO.ite ?_ ?_
      | refine LeO.bind ?_ (fun _ => ?_)
    · intro y0 y1 y2 y3 y4 y5 y6
      unfold impl_Dft.l0
      repeat' first
      | (with_reducible exact ih0 _ _ _ _ _)
      | (with_reducible exact ih1 _ _ _ _ _)
      | (with_reducible exact ih2 _ _ _ _ _ _ _)
      | (with_reducible exact ih3 _ _ _ _ _ _ _ _)
      | (with_reducible exact ih4 _ _ _ _ _ _ _ _ _ _ _ _ _)
      | (with_reducible exact impl_InvMod.mono _ _ _)
      | (with_reducible exact impl_Unit.mono _ _ _)
      | (with_reducible exact impl_row.mono _ _ _)
      | (with_reducible exact LeO.refl _)
      | (with_reducible exact LeO.none _)
      | (with_reducible refine LeO.ite ?_ ?_)
      | (with_reducible refine LeO.bind ?_ (fun _ => ?_))
      | exact ih0 _ _ _ _ _
      | exact ih1 _ _ _ _ _
      | exact ih2 _ _ _ _ _ _ _
      | exact ih3 _ _ _ _ _ _ _ _
      | exact ih4 _ _ _ _ _ _ _ _ _ _ _ _ _
      | exact impl_InvMod.mono _ _ _
      | exact impl_Unit.mono _ _ _
      | exact impl_row.mono _ _ _
      | exact LeO.none _
      | refine LeO.ite ?_ ?_
      | refine LeO.bind ?_ (fun _ => ?_)
    · intro y0 y1 y2 y3 y4 y5 y6 y7
      unfold impl_Dft.l1
      repeat' first
      | (with_reducible exact ih0 _ _ _ _ _)
      | (with_reducible exact ih1 _ _ _ _ _)
      | (with_reducible exact ih2 _ _ _ _ _ _ _)
      | (with_reducible exact ih3 _ _ _ _ _ _ _ _)
      | (with_reducible exact ih4 _ _ _ _ _ _ _ _ _ _ _ _ _)
      | (with_reducible exact impl_InvMod.mono _ _ _)
      | (with_reducible exact impl_Unit.mono _ _ _)
      | (with_reducible exact impl_row.mono _ _ _)
      | (with_reducible exact LeO.refl _)
      | (with_reducible exact LeO.none _)
      | (with_reducible refine LeO.ite ?_ ?_)
      | (with_reducible refine LeO.bind ?_ (fun _ => ?_))
      | exact ih0 _ _ _ _ _
      | exact ih1 _ _ _ _ _
      | exact ih2 _ _ _ _ _ _ _
      | exact ih3 _ _ _ _ _ _ _ _
      | exact ih4 _ _ _ _ _ _ _ _ _ _ _ _ _
      | exact impl_InvMod.mono _ _ _
      | exact impl_Unit.mono _ _ _
      | exact impl_row.mono _ _ _
      | exact LeO.none _
      | refine LeO.ite ?_ ?_
      | refine LeO.bind ?_ (fun _ => ?_)
    · intro y0 y1 y2 y3 y4 y5 y6 y7 y8 y9 y10 y11 y12
      unfold impl_Dft.l2
      repeat' first
      | (with_reducible exact ih0 _ _ _ _ _)
      | (with_reducible exact ih1 _ _ _ _ _)
      | (with_reducible exact ih2 _ _ _ _ _ _ _)
      | (with_reducible exact ih3 _ _ _ _ _ _ _ _)
      | (with_reducible exact ih4 _ _ _ _ _ _ _ _ _ _ _ _ _)
      | (with_reducible exact impl_InvMod.mono _ _ _)
      | (with_reducible exact impl_Unit.mono _ _ _)
      | (with_reducible exact impl_row.mono _ _ _)
      | (with_reducible exact LeO.refl _)
      | (with_reducible exact LeO.none _)
      | (with_reducible refine LeO.ite ?_ ?_)
      | (with_reducible refine LeO.bind ?_ (fun _ => ?_))
      | exact ih0 _ _ _ _ _
      | exact ih1 _ _ _ _ _
      | exact ih2 _ _ _ _ _ _ _
      | exact ih3 _ _ _ _ _ _ _ _
      | exact ih4 _ _ _ _ _ _ _ _ _ _ _ _ _
      | exact impl_InvMod.mono _ _ _
      | exact impl_Unit.mono _ _ _
      | exact impl_row.mono _ _ _
      | exact LeO.none _
      | refine LeO.ite ?_ ?_
      | refine LeO.bind ?_ (fun _ => ?_)
theorem impl_Dft.mono : ∀ a0 a1 a2 k, LeO (impl_Dft.f k a0 a1 a2) (impl_Dft.f (k + 1) a0 a1 a2) := by
  intro a0 a1 a2 k
  obtain ⟨ih0, ih1, ih2, ih3, ih4⟩ := impl_Dft.mono_l k
  unfold impl_Dft.f
  repeat' first
      | (with_reducible exact ih0 _ _ _ _ _)
      | (with_reducible exact ih1 _ _ _ _ _)
      | (with_reducible exact ih2 _ _ _ _ _ _ _)
      | (with_reducible exact ih3 _ _ _ _ _ _ _ _)
      | (with_reducible exact ih4 _ _ _ _ _ _ _ _ _ _ _ _ _)
      | (with_reducible exact impl_InvMod.mono _ _ _)
      | (with_reducible exact impl_Unit.mono _ _ _)
      | (with_reducible exact impl_row.mono _ _ _)
      | (with_reducible exact LeO.refl _)
      | (with_reducible exact LeO.none _)
      | (with_reducible refine LeO.ite ?_ ?_)
      | (with_reducible refine LeO.bind ?_ (fun _ => ?_))
      | exact ih0 _ _ _ _ _
      | exact ih1 _ _ _ _ _
      | exact ih2 _ _ _ _ _ _ _
      | exact ih3 _ _ _ _ _ _ _ _
      | exact ih4 _ _ _ _ _ _ _ _ _ _ _ _ _
      | exact impl_InvMod.mono _ _ _
      | exact impl_Unit.mono _ _ _
      | exact impl_row.mono _ _ _
      | exact LeO.none _
      | refine LeO.ite ?_ ?_
      | refine LeO.bind ?_ (fun _ => ?_)
set_option maxHeartbeats 8000000 in
set_option maxRecDepth 100000 in
theorem impl_Dft.calls (k : Nat) (A0 : Option Addr) (c0 : Nat) (l0 : List Int) (a1 : Int) (a2 : Bool) (r1 : List Int) (r2 : Bool) (w : World) (hr0 : Kd.C (Kd.int .i64) w A0 l0.length l0) (hc0 : l0.length ≤ c0) (h : impl_Dft.f k l0 a1 a2 = some (r1, r2)) :
    Calls Try.prog 44 #[.slice A0 l0.length c0, .int .i64 a1, .bool a2] w fun e w' => ∃ v0_ : Value, e = .returned (.tuple #[v0_, .bool r2]) ∧ Kd.R (Kd.int .i64) 3 w' w.heap.size (fun _ => True) v0_ r1 ∧ Below w.heap.size w w' := by
  have HR0 := Aside0.mk hr0
  have HC0 := Aside0.mk hc0
  clear hr0 hc0
  have HB := Aside0.mk (Below.refl w.heap.size w)
  have H : ((impl_isPrime.f a1).bind fun t185 => (if t185 = true then ((impl_row.f k l0 a1).bind fun t186 => (if t186 = true then ((impl_whole.f (l0.length : Int)).bind fun t187 => (impl_Dft.j0 k l0 a1 a2 (l0.length : Int) (!t187))) else (impl_Dft.j0 k l0 a1 a2 (l0.length : Int) true))) else (impl_Dft.j0 k l0 a1 a2 (l0.length : Int) true))) = some (r1, r2) := h
  clear h
  have HC4 := Aside0.mk H
  clear H
  go_enter Try.func44, Try.ntmps44
  go_upto_region 2 with (fail)
  go_cut [33] (fun v33 wc => ∃ (kq : Nat) (x33_3 : Bool), v33 = .bool x33_3 ∧ Aside0 (impl_Dft.j0 kq l0 a1 a2 (l0.length : Int) x33_3 = some (r1, r2)) ∧ Aside0 (kq ≤ k) ∧ Aside0 (Below w.heap.size w wc))
  case first =>
    have H := HC4.out
    clear HC4
    replace H := Option.bind_eq_some_iff.mp H
    obtain ⟨t185, A50, H⟩ := H
    replace H : (if t185 = true then ((impl_row.f k l0 a1).bind fun t186 => (if t186 = true then ((impl_whole.f (l0.length : Int)).bind fun t187 => (impl_Dft.j0 k l0 a1 a2 (l0.length : Int) (!t187))) else (impl_Dft.j0 k l0 a1 a2 (l0.length : Int) true))) else (impl_Dft.j0 k l0 a1 a2 (l0.length : Int) true)) = some (r1, r2) := H
    have A5 := Aside0.mk A50
    clear A50
    by_cases c6 : t185 = true
    · subst c6
      have H1 : ((impl_row.f k l0 a1).bind fun t186 => (if t186 = true then ((impl_whole.f (l0.length : Int)).bind fun t187 => (impl_Dft.j0 k l0 a1 a2 (l0.length : Int) (!t187))) else (impl_Dft.j0 k l0 a1 a2 (l0.length : Int) true))) = some (r1, r2) := by rw [if_pos rfl] at H; exact H
      clear H
      have H := H1
      clear H1
      replace H := Option.bind_eq_some_iff.mp H
      obtain ⟨t186, A70, H⟩ := H
      replace H : (if t186 = true then ((impl_whole.f (l0.length : Int)).bind fun t187 => (impl_Dft.j0 k l0 a1 a2 (l0.length : Int) (!t187))) else (impl_Dft.j0 k l0 a1 a2 (l0.length : Int) true)) = some (r1, r2) := H
      have A7 := Aside0.mk A70
      clear A70
      by_cases c8 : t186 = true
      · subst c8
        have H1 : ((impl_whole.f (l0.length : Int)).bind fun t187 => (impl_Dft.j0 k l0 a1 a2 (l0.length : Int) (!t187))) = some (r1, r2) := by rw [if_pos rfl] at H; exact H
        clear H
        have H := H1
        clear H1
        replace H := Option.bind_eq_some_iff.mp H
        obtain ⟨t187, A90, H⟩ := H
        replace H : (impl_Dft.j0 k l0 a1 a2 (l0.length : Int) (!t187)) = some (r1, r2) := H
        have A9 := Aside0.mk A90
        clear A90
        have H' := Aside0.mk H
        clear H
        go_wp2_with (first | ((with_reducible refine gate_callee (f := 67) rfl ?_); refine goesL_ (some 21) rfl rfl Try.func67 (by kernel_rfl) rfl #[.int .i64 a1] rfl (by (try simp only [List.map_toArray, List.map_cons, List.map_nil]); first | done | rfl | (simp only [List.length_drop, List.length_take]; rfl)) ?_; (with_reducible refine (impl_isPrime.calls a1 true _ A5.out).mono ?_); rintro e w' ⟨rfl, ⟨nd, rfl⟩⟩; refine ⟨_, rfl, ?_⟩) | (go_at_call 68; (with_reducible refine (impl_row.calls k _ _ l0 a1 true _ ?side1 ?side2 A7.out).mono ?_); (case side1 => repeat (first | exact (Kd.C_below HR0.out (by repeat (first | (with_reducible first | exact HB.out | apply below_alloc | apply pw_below_drewN | apply below_drew1) | exact HB.out))) | (with_reducible refine Kd.C_alloc ?_ _) | (with_reducible refine Kd.C_drewN ?_ _) | (with_reducible refine Kd.C_drew ?_))); (case side2 => exact HC0.out); rintro e w' ⟨rfl, ⟨nd, rfl⟩⟩) | (go_at_call 43; (with_reducible refine (impl_whole.calls (l0.length : Int) t187 _ A9.out).mono ?_); rintro e w' ⟨rfl, ⟨nd, rfl⟩⟩))
        go_meet
        case rel => exact ⟨_, (!t187), (by first | rfl | (simp; done) | (simp [*]; done)), H', ⟨by first | omega | exact Nat.le_refl _⟩, ⟨by repeat (first | (with_reducible first | exact HB.out | apply below_alloc | apply pw_below_drewN | apply below_drew1) | exact HB.out)⟩⟩
      · replace c8 := Bool.eq_false_iff.mpr c8
        subst c8
        have H1 : (impl_Dft.j0 k l0 a1 a2 (l0.length : Int) true) = some (r1, r2) := by rw [if_neg (show ¬ (false = true) by decide)] at H; exact H
        clear H
        have H := H1
        clear H1
        have H' := Aside0.mk H
        clear H
        go_wp2_with (first | ((with_reducible refine gate_callee (f := 67) rfl ?_); refine goesL_ (some 21) rfl rfl Try.func67 (by kernel_rfl) rfl #[.int .i64 a1] rfl (by (try simp only [List.map_toArray, List.map_cons, List.map_nil]); first | done | rfl | (simp only [List.length_drop, List.length_take]; rfl)) ?_; (with_reducible refine (impl_isPrime.calls a1 true _ A5.out).mono ?_); rintro e w' ⟨rfl, ⟨nd, rfl⟩⟩; refine ⟨_, rfl, ?_⟩) | (go_at_call 68; (with_reducible refine (impl_row.calls k _ _ l0 a1 false _ ?side1 ?side2 A7.out).mono ?_); (case side1 => repeat (first | exact (Kd.C_below HR0.out (by repeat (first | (with_reducible first | exact HB.out | apply below_alloc | apply pw_below_drewN | apply below_drew1) | exact HB.out))) | (with_reducible refine Kd.C_alloc ?_ _) | (with_reducible refine Kd.C_drewN ?_ _) | (with_reducible refine Kd.C_drew ?_))); (case side2 => exact HC0.out); rintro e w' ⟨rfl, ⟨nd, rfl⟩⟩))
        go_meet
        case rel => exact ⟨_, (true), (by first | rfl | (simp; done) | (simp [*]; done)), H', ⟨by first | omega | exact Nat.le_refl _⟩, ⟨by repeat (first | (with_reducible first | exact HB.out | apply below_alloc | apply pw_below_drewN | apply below_drew1) | exact HB.out)⟩⟩
    · replace c6 := Bool.eq_false_iff.mpr c6
      subst c6
      have H1 : (impl_Dft.j0 k l0 a1 a2 (l0.length : Int) true) = some (r1, r2) := by rw [if_neg (show ¬ (false = true) by decide)] at H; exact H
      clear H
      have H := H1
      clear H1
      have H' := Aside0.mk H
      clear H
      go_wp2_with (first | ((with_reducible refine gate_callee (f := 67) rfl ?_); refine goesL_ (some 21) rfl rfl Try.func67 (by kernel_rfl) rfl #[.int .i64 a1] rfl (by (try simp only [List.map_toArray, List.map_cons, List.map_nil]); first | done | rfl | (simp only [List.length_drop, List.length_take]; rfl)) ?_; (with_reducible refine (impl_isPrime.calls a1 false _ A5.out).mono ?_); rintro e w' ⟨rfl, ⟨nd, rfl⟩⟩; refine ⟨_, rfl, ?_⟩))
      go_meet
      case rel => exact ⟨_, (true), (by first | rfl | (simp; done) | (simp [*]; done)), H', ⟨by first | omega | exact Nat.le_refl _⟩, ⟨by repeat (first | (with_reducible first | exact HB.out | apply below_alloc | apply pw_below_drewN | apply below_drew1) | exact HB.out)⟩⟩
  case rest =>
    clear HC4
    try clear p2
    try clear c4
    try clear c6
    try clear c8
    obtain ⟨kq, x33_3, rfl, HA, HJ3, HB⟩ := hcut
    cases kq with
    | zero => exact absurd HA.out (by simp [impl_Dft.j0])
    | succ kj3 =>
      have H := HA.out
      clear HA
      simp only [impl_Dft.j0] at H
      by_cases c10 : x33_3 = true
      · subst c10
        have H1 : (some (([] : List Int), false)) = some (r1, r2) := by rw [if_pos rfl] at H; exact H
        clear H
        have H := H1
        clear H1
        simp only [Option.some.injEq, Prod.mk.injEq] at H
        obtain ⟨rfl, rfl⟩ := H
        go_wp2
        go_ret2
        exact ⟨_, by first | rfl | (simp [errW_none, errW_some] <;> rfl) | (simp [*, errW_none, errW_some] <;> rfl), by first | exact Kd.R_nil _ _ _ _ _ | exact Kd.N_nil _ _ _ _ _ | exact Kd.V_nil _ _ _ _ _ | exact Kd.Q_nil _ _ _ _ _ | exact Kd.S_nil _ _ _ _ _, by repeat (first | (with_reducible first | exact HB.out | apply below_alloc | apply pw_below_drewN | apply below_drew1) | exact HB.out)⟩
      · replace c10 := Bool.eq_false_iff.mpr c10
        subst c10
        have H1 : ((impl_Unit.f kj3 (l0.length : Int) a1).bind fun t188 => (if a2 = true then ((impl_InvMod.f kj3 t188 a1).bind fun t189 => ((impl_InvMod.f kj3 (l0.length : Int) a1).bind fun t190 => (impl_Dft.j1 kj3 l0 a1 (l0.length : Int) t189 t190))) else (impl_Dft.j1 kj3 l0 a1 (l0.length : Int) t188 1))) = some (r1, r2) := by rw [if_neg (show ¬ (false = true) by decide)] at H; exact H
        clear H
        have H := H1
        clear H1
        replace H := Option.bind_eq_some_iff.mp H
        obtain ⟨t188, A110, H⟩ := H
        replace H : (if a2 = true then ((impl_InvMod.f kj3 t188 a1).bind fun t189 => ((impl_InvMod.f kj3 (l0.length : Int) a1).bind fun t190 => (impl_Dft.j1 kj3 l0 a1 (l0.length : Int) t189 t190))) else (impl_Dft.j1 kj3 l0 a1 (l0.length : Int) t188 1)) = some (r1, r2) := H
        have A11 := Aside0.mk A110
        clear A110
        have HC12 := Aside0.mk H
        clear H
        go_upto_if 37 with (first | ((with_reducible refine gate_callee (f := 69) rfl ?_); refine goesL_ (some 36) rfl rfl Try.func69 (by kernel_rfl) rfl #[.int .i64 (l0.length : Int), .int .i64 a1] rfl (by (try simp only [List.map_toArray, List.map_cons, List.map_nil]); first | done | rfl | (simp only [List.length_drop, List.length_take]; rfl)) ?_; (with_reducible refine (impl_Unit.calls kj3 (l0.length : Int) a1 t188 _ A11.out).mono ?_); rintro e w' ⟨rfl, ⟨nd, rfl⟩⟩; refine ⟨_, rfl, ?_⟩))
        (try simp only [Act.put, List.setIfInBounds_toArray, List.set_cons_zero, List.set_cons_succ])
        go_cut [9, 10] (fun v9 v10 wc => ∃ (kq : Nat) (x9_11 : Int) (x10_11 : Int), v9 = .int .i64 x9_11 ∧ v10 = .int .i64 x10_11 ∧ Aside0 (impl_Dft.j1 kq l0 a1 (l0.length : Int) x9_11 x10_11 = some (r1, r2)) ∧ Aside0 (kq ≤ kj3) ∧ Aside0 (Below w.heap.size w wc))
        case first =>
          have H := HC12.out
          clear HC12
          by_cases c13 : a2 = true
          · subst c13
            have H1 : ((impl_InvMod.f kj3 t188 a1).bind fun t189 => ((impl_InvMod.f kj3 (l0.length : Int) a1).bind fun t190 => (impl_Dft.j1 kj3 l0 a1 (l0.length : Int) t189 t190))) = some (r1, r2) := by rw [if_pos rfl] at H; exact H
            clear H
            have H := H1
            clear H1
            replace H := Option.bind_eq_some_iff.mp H
            obtain ⟨t189, A140, H⟩ := H
            replace H : ((impl_InvMod.f kj3 (l0.length : Int) a1).bind fun t190 => (impl_Dft.j1 kj3 l0 a1 (l0.length : Int) t189 t190)) = some (r1, r2) := H
            have A14 := Aside0.mk A140
            clear A140
            replace H := Option.bind_eq_some_iff.mp H
            obtain ⟨t190, A150, H⟩ := H
            replace H : (impl_Dft.j1 kj3 l0 a1 (l0.length : Int) t189 t190) = some (r1, r2) := H
            have A15 := Aside0.mk A150
            clear A150
            have H' := Aside0.mk H
            clear H
            go_wp2_with (first | ((with_reducible refine gate_callee (f := 70) rfl ?_); refine goesL_ (some 40) rfl rfl Try.func70 (by kernel_rfl) rfl #[.int .i64 t188, .int .i64 a1] rfl (by (try simp only [List.map_toArray, List.map_cons, List.map_nil]); first | done | rfl | (simp only [List.length_drop, List.length_take]; rfl)) ?_; (with_reducible refine (impl_InvMod.calls kj3 t188 a1 t189 _ A14.out).mono ?_); rintro e w' ⟨rfl, ⟨nd, rfl⟩⟩; refine ⟨_, rfl, ?_⟩) | ((with_reducible refine gate_callee (f := 70) rfl ?_); refine goesL_ (some 43) rfl rfl Try.func70 (by kernel_rfl) rfl #[.int .i64 (l0.length : Int), .int .i64 a1] rfl (by (try simp only [List.map_toArray, List.map_cons, List.map_nil]); first | done | rfl | (simp only [List.length_drop, List.length_take]; rfl)) ?_; (with_reducible refine (impl_InvMod.calls kj3 (l0.length : Int) a1 t190 _ A15.out).mono ?_); rintro e w' ⟨rfl, ⟨nd, rfl⟩⟩; refine ⟨_, rfl, ?_⟩))
            go_meet
            case rel => exact ⟨_, (t189), (t190), (by first | rfl | (simp; done) | (simp [*]; done)), (by first | rfl | (simp; done) | (simp [*]; done)), H', ⟨by have := HJ3.out; first | omega | exact Nat.le_refl _⟩, ⟨by repeat (first | (with_reducible first | exact HB.out | apply below_alloc | apply pw_below_drewN | apply below_drew1) | exact HB.out)⟩⟩
          · replace c13 := Bool.eq_false_iff.mpr c13
            subst c13
            have H1 : (impl_Dft.j1 kj3 l0 a1 (l0.length : Int) t188 1) = some (r1, r2) := by rw [if_neg (show ¬ (false = true) by decide)] at H; exact H
            clear H
            have H := H1
            clear H1
            have H' := Aside0.mk H
            clear H
            go_wp2
            go_meet
            case rel => exact ⟨_, (t188), (1), (by first | rfl | (simp; done) | (simp [*]; done)), (by first | rfl | (simp; done) | (simp [*]; done)), H', ⟨by have := HJ3.out; first | omega | exact Nat.le_refl _⟩, ⟨by repeat (first | (with_reducible first | exact HB.out | apply below_alloc | apply pw_below_drewN | apply below_drew1) | exact HB.out)⟩⟩
        case rest =>
          clear HC12
          try clear c1
          try clear p2
          try clear c4
          try clear c6
          try clear c7
          try clear c8
          try clear c10
          try clear c13
          try clear p2
          obtain ⟨kq, x9_11, x10_11, rfl, rfl, HA, HJ11, HB⟩ := hcut
          cases kq with
          | zero => exact absurd HA.out (by simp [impl_Dft.j1])
          | succ kj11 =>
            have H := HA.out
            clear HA
            simp only [impl_Dft.j1] at H
            by_cases c16 : 0 ≤ (l0.length : Int)
            · rw [if_pos c16] at H
              have c16b0 := eq_true c16
              have c16b1 : decide (0 ≤ (l0.length : Int)) = true := decide_eq_true c16
              clear c16
              by_cases c17 : ((l0.length : Int) : Int).toNat ≤ 35184372088832
              · rw [if_pos c17] at H
                have c17b0 := eq_true c17
                have c17b1 : decide (((l0.length : Int) : Int).toNat ≤ 35184372088832) = true := decide_eq_true c17
                clear c17
                obtain ⟨y191, hy191⟩ : ∃ y_ : List Int, y_ = (List.replicate ((l0.length : Int) : Int).toNat 0) := ⟨_, rfl⟩
                replace H : (if 0 < (y191.length : Int) then (impl_Dft.l0 kj11 l0 a1 (l0.length : Int) x9_11 x10_11 (y191.set (0 : Int).toNat 1) 1) else (none)) = some (r1, r2) := by first | (rw [hy191]; with_reducible exact H) | (have H2_ := (Option.bind_some _ _).symm.trans H; rw [hy191]; with_reducible exact H2_) | (have H2_ := (Option.bind_some _ _).symm.trans H; with_reducible exact H2_) | with_reducible exact H | (rw [hy191]; exact H) | exact H
                have Ny191 := Aside0.mk hy191
                clear hy191
                by_cases c18 : 0 < (y191.length : Int)
                · rw [if_pos c18] at H
                  have c18b0 : decide (0 < (y191.length : Int)) = true := decide_eq_true c18
                  have c18b1 : decide (0 < y191.length) = true := decide_eq_true (by omega)
                  clear c18
                  obtain ⟨y194, hy194⟩ : ∃ y_ : List Int, y_ = (y191.set (0 : Int).toNat 1) := ⟨_, rfl⟩
                  replace H : (impl_Dft.l0 kj11 l0 a1 (l0.length : Int) x9_11 x10_11 y194 1) = some (r1, r2) := by first | (rw [hy194]; with_reducible exact H) | (have H2_ := (Option.bind_some _ _).symm.trans H; rw [hy194]; with_reducible exact H2_) | (have H2_ := (Option.bind_some _ _).symm.trans H; with_reducible exact H2_) | with_reducible exact H | (rw [hy194]; exact H) | exact H
                  have Ny194 := Aside0.mk hy194
                  clear hy194
                  have H' := Aside0.mk H
                  clear H
                  go_wp2_with (first | ((with_reducible refine gate_dst (N := 45) rfl ?_); refine Kd.R_make (Kd.int .i64) _ 3 rfl (N := 45) rfl 29 _ _ rfl (l0.length : Int) rfl rfl Try.underlying29 (.int .i64 0) 8 info3 rfl (by decide) (by omega) 0 (ok := fun _ => True) (okp := fun _ => True) rfl (fun _ hk => hk) trivial (of_decide_eq_true (by first | (with_reducible assumption) | assumption)) (Nat.le_trans (Nat.mul_le_mul_right _ (of_decide_eq_true (by first | (with_reducible assumption) | assumption) : (l0.length : Int).toNat ≤ 35184372088832)) (by omega)) (Below.refl _ _) (Nat.le_refl _) ?_; intro v192 w20 ho21 hb hg_ hnew_; clear hg_ hnew_; (first | rw [← Ny191.out] at ho21 | (simp only [Int.reduceToNat] at ho21; rw [← Ny191.out] at ho21)); have n0_ := Aside0.mk (Kd.R_lower ho21 (below_size (by repeat (first | (with_reducible first | exact HB.out | apply below_alloc | apply pw_below_drewN | apply below_drew1) | exact HB.out)))); have n1_ := Aside0.mk (below_step (by repeat (first | (with_reducible first | exact HB.out | apply below_alloc | apply pw_below_drewN | apply below_drew1) | exact HB.out)) hb); clear HB; have HO193 := n0_; have HB := n1_; clear n0_ n1_; clear hb ho21; have p19 : 0 ≤ (0 : Int) := (by omega); have q19 : (0 : Int) < ((y191.length : Int) : Int) := of_decide_eq_true (by first | (with_reducible assumption) | assumption); have qi19 : (0 < y191.length) = True := eq_true (by omega); obtain ⟨go19, co19, eo19, gb19, gl19, cl19, HG19⟩ := Kd.R_form HO193.out (by omega); (first | cases eo19 | (injection eo19 with ea_ en_ ec_; (first | subst ea_ | (injection ea_ with ea_; subst ea_)); subst ec_; clear en_)); have GB19 := Aside0.mk gb19; have GG19 := Aside0.mk HG19; clear gb19 gl19 HG19; obtain ⟨hx19_0, hf19_0⟩ := Kd.R_celln 0 HO193.out (0 : Int) p19 q19; (try rw [show ((0 : Int)).toNat = 0 from rfl] at hx19_0); (try simp only [Nat.reduceMul, Nat.zero_mul, Nat.zero_add, Nat.reduceAdd] at hx19_0); (try rw [show ((0 : Int)).toNat = 0 from rfl] at hf19_0); (try simp only [Nat.reduceMul, Nat.zero_mul, Nat.zero_add, Nat.reduceAdd] at hf19_0); replace p19 := eq_true p19; replace q19 := eq_true q19; obtain ⟨hy22_, hz22_⟩ := Kd.R_celln 0 HO193.out (0 : Int) (by omega) (of_decide_eq_true (by first | (with_reducible assumption) | assumption)); (try simp only [Int.reduceToNat, Int.toNat_zero, Int.toNat_ofNat, Nat.reduceMul, Nat.zero_mul, Nat.zero_add] at hy22_ hz22_); (try rw [show ((0 : Int)).toNat = 0 from rfl] at hy22_); (try rw [show ((0 : Int)).toNat = 0 from rfl] at hz22_); have HP22 := Kd.R_putg HO193.out (0 : Int) 1) | ((with_reducible refine gate_store (t := 3) (p := 47) rfl ?_); refine store_event (t := 3) (p := 47) (v := ?vo_w23) (w1 := (w20.setCell ⟨go19, (0 : Int).toNat, none⟩ (.int .i64 1))) ?hg ?ho ?hn ?hr ?_; (case ho => rfl); (case hg => rfl); (case hn => rfl); (case hr => first | (go_simp; done) | (go_simp; rfl)); intro w23 hw; have hg : w20.grownBy w23 (some go19) := (by rw [hw]; exact HP22.2); have hp_ : Kd.R (Kd.int .i64) 3 w23 w.heap.size (fun _ => True) (.slice (some ⟨go19, 0, none⟩) y191.length co19) y194 := (by rw [hw, Ny194.out]; exact HP22.1); clear HP22; have n0_ := Aside0.mk (hp_); have n1_ := Aside0.mk ((by rw [hw]; exact below_set (HB.out) GB19.out : Below w.heap.size w w23)); clear HO193; clear HB; have HO193 := n0_; have HB := n1_; clear n0_ n1_; clear hg hw hp_))
                  go_loopg [12] kj11 (fun kq v12 w' => ∃ (x11_3 : List Int) (x12_3 : Int), v12 = .int .i64 x12_3 ∧ Aside0 (impl_Dft.l0 kq l0 a1 (l0.length : Int) x9_11 x10_11 x11_3 x12_3 = some (r1, r2)) ∧ Aside0 (kq ≤ kj11) ∧ Aside0 (Kd.R (Kd.int .i64) 3 w' w.heap.size (fun _ => True) (.slice (some ⟨go19, 0, none⟩) y191.length co19) x11_3) ∧ Aside0 (Below w.heap.size w w'))
                  case atStart => exact ⟨(y194), (1), (by first | rfl | (simp; done) | (simp [*]; done)), H', ⟨Nat.le_refl _⟩, ⟨by (with_reducible repeat (first | apply Kd.R_alloc | apply Kd.R_drewN | apply Kd.R_drew)); exact HO193.out⟩, ⟨by repeat (first | (with_reducible first | exact HB.out | apply below_alloc | apply pw_below_drewN | apply below_drew1) | exact HB.out)⟩⟩
                  case round =>
                    clear H'
                    try clear c1
                    try clear p1
                    try clear q1
                    try clear hx1
                    try clear qi1
                    try clear p2
                    try clear c4
                    try clear c6
                    try clear c7
                    try clear c8
                    try clear c10
                    try clear c13
                    try clear c16
                    try clear c16b0
                    try clear c16b1
                    try clear c17
                    try clear c17b0
                    try clear c17b1
                    try clear c18
                    try clear c18b0
                    try clear c18b1
                    try clear p19
                    try clear q19
                    try clear hx19
                    try clear qi19
                    try clear hf19
                    try clear hx19_0
                    try clear p19
                    try clear p2
                    try clear q19
                    obtain ⟨x11_3, x12_3, rfl, HA, HK3, HO_11, HB⟩ := hrel
                    have hl11_3 := (Kd.R_reads' HO_11.out).1
                    rw [hl11_3] at HO_11
                    (try simp only [hl11_3])
                    cases gk with
                    | zero => exact absurd HA.out (by simp [impl_Dft.l0])
                    | succ k3 =>
                      have H := HA.out
                      clear HA
                      simp only [impl_Dft.l0] at H
                      by_cases c24 : x12_3 < (l0.length : Int)
                      · rw [if_pos c24] at H
                        have c24b0 : decide (x12_3 < (l0.length : Int)) = true := decide_eq_true c24
                        (try (have c24b0_hl11_3 := c24b0; rw [hl11_3] at c24b0_hl11_3))
                        clear c24
                        obtain ⟨ji25, hji25⟩ : ∃ j_ : Int, (wrap64 (x12_3 - 1)) = j_ := ⟨_, rfl⟩
                        replace H : (if 0 ≤ (ji25) then (if (ji25) < (x11_3.length : Int) then (if a1 = 0 then (none) else (if 0 ≤ x12_3 then (if x12_3 < (x11_3.length : Int) then (impl_Dft.l0 k3 l0 a1 (l0.length : Int) x9_11 x10_11 (x11_3.set (x12_3 : Int).toNat (Int.tmod (wrap64 ((rd x11_3 (ji25)) * x9_11)) a1)) (wrap64 (x12_3 + 1))) else (none)) else (none))) else (none)) else (none)) = some (r1, r2) := by first | (rw [hji25] at H; exact H) | (simp only [hji25] at H ⊢; exact H)
                        have hji25w : (IntKind.i64.wrap (x12_3 - 1)) = ji25 := (i64_w _).trans hji25
                        by_cases c26 : 0 ≤ (ji25)
                        · rw [if_pos c26] at H
                          have c26b0 : decide (0 ≤ (ji25)) = true := decide_eq_true c26
                          clear c26
                          by_cases c27 : (ji25) < (x11_3.length : Int)
                          · rw [if_pos c27] at H
                            have c27b0 : decide ((ji25) < (x11_3.length : Int)) = true := decide_eq_true c27
                            (try (have c27b0_hl11_3 := c27b0; rw [hl11_3] at c27b0_hl11_3))
                            clear c27
                            by_cases c28 : a1 = 0
                            · rw [if_pos c28] at H
                              exact absurd H (by simp)
                            · rw [if_neg c28] at H
                              have c28b0 : (a1 == 0) = false := beq_eq_false_iff_ne.mpr c28
                              have c28b1 : (a1 != 0) = true := bne_iff_ne.mpr c28
                              by_cases c29 : 0 ≤ x12_3
                              · rw [if_pos c29] at H
                                have c29b0 : decide (0 ≤ x12_3) = true := decide_eq_true c29
                                clear c29
                                by_cases c30 : x12_3 < (x11_3.length : Int)
                                · rw [if_pos c30] at H
                                  have c30b0 : decide (x12_3 < (x11_3.length : Int)) = true := decide_eq_true c30
                                  (try (have c30b0_hl11_3 := c30b0; rw [hl11_3] at c30b0_hl11_3))
                                  clear c30
                                  obtain ⟨y196, hy196⟩ : ∃ y_ : List Int, y_ = (x11_3.set (x12_3 : Int).toNat (Int.tmod (wrap64 ((rd x11_3 (ji25)) * x9_11)) a1)) := ⟨_, rfl⟩
                                  replace H : (impl_Dft.l0 k3 l0 a1 (l0.length : Int) x9_11 x10_11 y196 (wrap64 (x12_3 + 1))) = some (r1, r2) := by first | (rw [hy196]; with_reducible exact H) | (have H2_ := (Option.bind_some _ _).symm.trans H; rw [hy196]; with_reducible exact H2_) | (have H2_ := (Option.bind_some _ _).symm.trans H; with_reducible exact H2_) | with_reducible exact H | (rw [hy196]; exact H) | exact H
                                  have Ny196 := Aside0.mk hy196
                                  clear hy196
                                  have H' := Aside0.mk H
                                  clear H
                                  have p195 : 0 ≤ ((ji25) : Int) := of_decide_eq_true (by first | (with_reducible assumption) | assumption)
                                  have q195 : (ji25) < (x11_3.length : Int) := of_decide_eq_true (by first | (with_reducible assumption) | assumption)
                                  obtain ⟨ad195, e195, hx195_0⟩ := Kd.at_int (Kd.R_reads' HO_11.out).2.2 (ji25) p195 q195
                                  obtain rfl : (⟨go19, 0, none⟩ : Addr) = ad195 := (by injection e195)
                                  (first | simp only [add_plain] at hx195_0 | simp only [add_at] at hx195_0 | simp only [Addr.add, Nat.zero_add] at hx195_0 | skip)
                                  replace p195 := eq_true p195
                                  replace q195 := eq_true q195
                                  have p31 : 0 ≤ (x12_3 : Int) := of_decide_eq_true (by first | (with_reducible assumption) | assumption)
                                  have q31 : (x12_3 : Int) < ((x11_3.length : Int) : Int) := of_decide_eq_true (by first | (with_reducible assumption) | assumption)
                                  obtain ⟨hx31_0, hf31_0⟩ := Kd.R_celln 0 HO_11.out (x12_3 : Int) p31 q31
                                  replace p31 := eq_true p31
                                  replace q31 := eq_true q31
                                  have HP32 := Kd.R_putg HO_11.out (x12_3 : Int) (Int.tmod (wrap64 ((rd x11_3 (ji25)) * x9_11)) a1)
                                  go_wp2_with (first | ((with_reducible refine gate_store (t := 3) (p := 64) rfl ?_); refine store_event (t := 3) (p := 64) (v := ?vo_w33) (w1 := (wr.setCell ⟨go19, (x12_3 : Int).toNat, none⟩ (.int .i64 (Int.tmod (wrap64 ((rd x11_3 (ji25)) * x9_11)) a1)))) ?hg ?ho ?hn ?hr ?_; (case ho => rfl); (case hg => rfl); (case hn => rfl); (case hr => first | (go_simp; done) | (go_simp; rfl)); intro w33 hw; have hg : wr.grownBy w33 (some go19) := (by rw [hw]; exact HP32.2); have hp_ : Kd.R (Kd.int .i64) 3 w33 w.heap.size (fun _ => True) (.slice (some ⟨go19, 0, none⟩) x11_3.length co19) y196 := (by rw [hw, Ny196.out]; exact HP32.1); clear HP32; have n0_ := Aside0.mk (hp_); have n1_ := Aside0.mk ((by rw [hw]; exact below_set (HB.out) GB19.out : Below w.heap.size w w33)); clear HO_11; clear HB; have HO_11 := n0_; have HB := n1_; clear n0_ n1_; clear hg hw hp_))
                                  (try simp only [← hl11_3])
                                  go_roundg k3
                                  case measure => have := HJ3.out; have := HJ11.out; have := HK3.out; omega
                                  case rel => exact ⟨(y196), (wrap64 (x12_3 + 1)), (by first | rfl | (simp; done) | (simp [*]; done)), H', ⟨by have := HJ3.out; have := HJ11.out; have := HK3.out; omega⟩, ⟨by (try simp only [hl11_3]); (with_reducible repeat (first | apply Kd.R_alloc | apply Kd.R_drewN | apply Kd.R_drew)); exact HO_11.out⟩, ⟨by repeat (first | (with_reducible first | exact HB.out | apply below_alloc | apply pw_below_drewN | apply below_drew1) | exact HB.out)⟩⟩
                                · rw [if_neg c30] at H
                                  exact absurd H (by simp)
                              · rw [if_neg c29] at H
                                exact absurd H (by simp)
                          · rw [if_neg c27] at H
                            exact absurd H (by simp)
                        · rw [if_neg c26] at H
                          exact absurd H (by simp)
                      · rw [if_neg c24] at H
                        have c24b0 : decide (x12_3 < (l0.length : Int)) = false := decide_eq_false c24
                        (try (have c24b0_hl11_3 := c24b0; rw [hl11_3] at c24b0_hl11_3))
                        clear c24
                        by_cases c34 : 0 ≤ (l0.length : Int)
                        · rw [if_pos c34] at H
                          have c34b0 := eq_true c34
                          have c34b1 : decide (0 ≤ (l0.length : Int)) = true := decide_eq_true c34
                          (try (have c34b1_hl11_3 := c34b1; rw [hl11_3] at c34b1_hl11_3))
                          clear c34
                          by_cases c35 : ((l0.length : Int) : Int).toNat ≤ 35184372088832
                          · rw [if_pos c35] at H
                            have c35b0 := eq_true c35
                            have c35b1 : decide (((l0.length : Int) : Int).toNat ≤ 35184372088832) = true := decide_eq_true c35
                            (try (have c35b1_hl11_3 := c35b1; rw [hl11_3] at c35b1_hl11_3))
                            clear c35
                            obtain ⟨y197, hy197⟩ : ∃ y_ : List Int, y_ = (List.replicate ((l0.length : Int) : Int).toNat 0) := ⟨_, rfl⟩
                            replace H : (impl_Dft.l1 k3 l0 a1 (l0.length : Int) x10_11 x11_3 y197 (y197.length : Int) 0) = some (r1, r2) := by first | (rw [hy197]; with_reducible exact H) | (have H2_ := (Option.bind_some _ _).symm.trans H; rw [hy197]; with_reducible exact H2_) | (have H2_ := (Option.bind_some _ _).symm.trans H; with_reducible exact H2_) | with_reducible exact H | (rw [hy197]; exact H) | exact H
                            have Ny197 := Aside0.mk hy197
                            clear hy197
                            have H' := Aside0.mk H
                            clear H
                            go_wp2_with (first | ((with_reducible refine gate_dst (N := 66) rfl ?_); refine Kd.R_make (Kd.int .i64) _ 3 rfl (N := 66) rfl 29 _ _ rfl (l0.length : Int) rfl rfl Try.underlying29 (.int .i64 0) 8 info3 rfl (by decide) (by omega) 0 (ok := fun _ => True) (okp := fun _ => True) rfl (fun _ hk => hk) trivial (of_decide_eq_true (by first | (with_reducible assumption) | assumption)) (Nat.le_trans (Nat.mul_le_mul_right _ (of_decide_eq_true (by first | (with_reducible assumption) | assumption) : (l0.length : Int).toNat ≤ 35184372088832)) (by omega)) (Below.refl _ _) (Nat.le_refl _) ?_; intro v198 w36 ho37 hb hg_ hnew_; clear hg_ hnew_; (first | rw [← Ny197.out] at ho37 | (simp only [Int.reduceToNat] at ho37; rw [← Ny197.out] at ho37)); have n0_ := Aside0.mk (Kd.R_elder' (by (with_reducible repeat (first | apply Kd.R_alloc | apply Kd.R_drewN | apply Kd.R_drew)); exact HO_11.out) (Kd.R_base ho37) hb); have n1_ := Aside0.mk (Kd.R_lower (Kd.R_new' ho37 (Kd.R_lt (by (with_reducible repeat (first | apply Kd.R_alloc | apply Kd.R_drewN | apply Kd.R_drew)); exact HO_11.out))) (below_size (by repeat (first | (with_reducible first | exact HB.out | apply below_alloc | apply pw_below_drewN | apply below_drew1) | exact HB.out)))); have n2_ := Aside0.mk (below_step (by repeat (first | (with_reducible first | exact HB.out | apply below_alloc | apply pw_below_drewN | apply below_drew1) | exact HB.out)) hb); clear HO_11; clear HB; have HO_11 := n0_; have HO199 := n1_; have HB := n2_; clear n0_ n1_ n2_; clear hb ho37; obtain ⟨Ao38, co38, eo38⟩ := Kd.R_slice HO199.out; subst eo38))
                            go_loopg [69] k3 (fun kq v69 w' => ∃ (x13_4 : List Int) (x69_4 : Int), v69 = .int .i64 x69_4 ∧ Aside0 (impl_Dft.l1 kq l0 a1 (l0.length : Int) x10_11 x11_3 x13_4 (y197.length : Int) x69_4 = some (r1, r2)) ∧ Aside0 (kq ≤ k3) ∧ Aside0 (Kd.R (Kd.int .i64) 3 w' w.heap.size (fun k_ => some k_ ≠ ((.slice Ao38 y197.length co38) : Value).ownBlock) (.slice (some ⟨go19, 0, none⟩) x11_3.length co19) x11_3) ∧ Aside0 (Kd.R (Kd.int .i64) 3 w' w.heap.size (fun k_ => some k_ ≠ ((.slice (some ⟨go19, 0, none⟩) x11_3.length co19) : Value).ownBlock) (.slice Ao38 y197.length co38) x13_4) ∧ Aside0 (Below w.heap.size w w'))
                            case atStart => exact ⟨(y197), (0), (by first | rfl | (simp; done) | (simp [*]; done)), H', ⟨Nat.le_refl _⟩, ⟨by (try simp only [hl11_3]); (with_reducible repeat (first | apply Kd.R_alloc | apply Kd.R_drewN | apply Kd.R_drew)); exact Kd.R_mono HO_11.out (fun _ hk => hk.2)⟩, ⟨by (try simp only [hl11_3]); (with_reducible repeat (first | apply Kd.R_alloc | apply Kd.R_drewN | apply Kd.R_drew)); exact Kd.R_mono HO199.out (fun _ hk => hk.2)⟩, ⟨by repeat (first | (with_reducible first | exact HB.out | apply below_alloc | apply pw_below_drewN | apply below_drew1) | exact HB.out)⟩⟩
                            case round =>
                              clear H'
                              try clear c1
                              try clear p1
                              try clear q1
                              try clear hx1
                              try clear qi1
                              try clear c2
                              try clear p2
                              try clear c3
                              try clear p3
                              try clear q3
                              try clear hx3
                              try clear hf3
                              try clear c4
                              try clear c6
                              try clear p6
                              try clear c7
                              try clear c8
                              try clear c10
                              try clear c13
                              try clear c16
                              try clear c16b0
                              try clear c16b1
                              try clear c17
                              try clear c17b0
                              try clear c17b1
                              try clear c18
                              try clear c18b0
                              try clear c18b1
                              try clear p19
                              try clear q19
                              try clear hx19
                              try clear qi19
                              try clear hf19
                              try clear c24
                              try clear c24b0
                              try clear c26
                              try clear c26b0
                              try clear c27
                              try clear c27b0
                              try clear c28
                              try clear c28b0
                              try clear c28b1
                              try clear c29
                              try clear c29b0
                              try clear c30
                              try clear c30b0
                              try clear p31
                              try clear q31
                              try clear hx31
                              try clear hf31
                              try clear c34
                              try clear c34b0
                              try clear c34b1
                              try clear c35
                              try clear c35b0
                              try clear c35b1
                              try clear hx195_0
                              try clear hx19_0
                              try clear hx31_0
                              try clear p1
                              try clear p19
                              try clear p195
                              try clear p2
                              try clear p31
                              try clear q1
                              try clear q19
                              try clear q195
                              try clear q31
                              obtain ⟨x13_4, x69_4, rfl, HA, HK4, HO_11, HO_13, HB⟩ := hrel
                              have hl13_4 := (Kd.R_reads' HO_13.out).1
                              rw [hl13_4] at HO_13
                              (try simp only [hl13_4])
                              (try simp only [hl13_4] at HO_11)
                              cases gk with
                              | zero => exact absurd HA.out (by simp [impl_Dft.l1])
                              | succ k4 =>
                                have H := HA.out
                                clear HA
                                simp only [impl_Dft.l1] at H
                                by_cases c39 : x69_4 < (y197.length : Int)
                                · rw [if_pos c39] at H
                                  have c39b0 : decide (x69_4 < (y197.length : Int)) = true := decide_eq_true c39
                                  (try (have c39b0_hl11_3 := c39b0; rw [hl11_3] at c39b0_hl11_3))
                                  (try (have c39b0_hl13_4 := c39b0; rw [hl13_4] at c39b0_hl13_4))
                                  clear c39
                                  have H' := Aside0.mk H
                                  clear H
                                  go_wp2
                                  go_loopg [15, 74] k4 (fun kq v15 v74 w' => ∃ (x15_5 : Int) (x74_5 : Int), v15 = .int .i64 x15_5 ∧ v74 = .int .i64 x74_5 ∧ Aside0 (impl_Dft.l2 kq l0 a1 (l0.length : Int) x10_11 x11_3 x13_4 x69_4 x15_5 (y197.length : Int) x69_4 l0 (l0.length : Int) x74_5 = some (r1, r2)) ∧ Aside0 (kq ≤ k4) ∧ Aside0 (Kd.R (Kd.int .i64) 3 w' w.heap.size (fun k_ => some k_ ≠ ((.slice Ao38 x13_4.length co38) : Value).ownBlock) (.slice (some ⟨go19, 0, none⟩) x11_3.length co19) x11_3) ∧ Aside0 (Kd.R (Kd.int .i64) 3 w' w.heap.size (fun k_ => some k_ ≠ ((.slice (some ⟨go19, 0, none⟩) x11_3.length co19) : Value).ownBlock) (.slice Ao38 x13_4.length co38) x13_4) ∧ Aside0 (Below w.heap.size w w'))
                                  case atStart => exact ⟨(0), (0), (by first | rfl | (simp; done) | (simp [*]; done)), (by first | rfl | (simp; done) | (simp [*]; done)), H', ⟨Nat.le_refl _⟩, ⟨by (try simp only [hl11_3]); (try simp only [hl13_4]); (with_reducible repeat (first | apply Kd.R_alloc | apply Kd.R_drewN | apply Kd.R_drew)); exact HO_11.out⟩, ⟨by (try simp only [hl11_3]); (try simp only [hl13_4]); (with_reducible repeat (first | apply Kd.R_alloc | apply Kd.R_drewN | apply Kd.R_drew)); exact HO_13.out⟩, ⟨by repeat (first | (with_reducible first | exact HB.out | apply below_alloc | apply pw_below_drewN | apply below_drew1) | exact HB.out)⟩⟩
                                  case round =>
                                    clear H'
                                    try clear c1
                                    try clear p1
                                    try clear q1
                                    try clear hx1
                                    try clear qi1
                                    try clear c2
                                    try clear p2
                                    try clear c3
                                    try clear p3
                                    try clear q3
                                    try clear hx3
                                    try clear hf3
                                    try clear c4
                                    try clear c6
                                    try clear p6
                                    try clear c7
                                    try clear c8
                                    try clear c10
                                    try clear c13
                                    try clear c16
                                    try clear c16b0
                                    try clear c16b1
                                    try clear c17
                                    try clear c17b0
                                    try clear c17b1
                                    try clear c18
                                    try clear c18b0
                                    try clear c18b1
                                    try clear p19
                                    try clear q19
                                    try clear hx19
                                    try clear qi19
                                    try clear hf19
                                    try clear c24
                                    try clear c24b0
                                    try clear c26
                                    try clear c26b0
                                    try clear c27
                                    try clear c27b0
                                    try clear c28
                                    try clear c28b0
                                    try clear c28b1
                                    try clear c29
                                    try clear c29b0
                                    try clear c30
                                    try clear c30b0
                                    try clear p31
                                    try clear q31
                                    try clear hx31
                                    try clear hf31
                                    try clear c34
                                    try clear c34b0
                                    try clear c34b1
                                    try clear c35
                                    try clear c35b0
                                    try clear c35b1
                                    try clear c39
                                    try clear c39b0
                                    try clear hx195_0
                                    try clear hx19_0
                                    try clear hx31_0
                                    try clear p1
                                    try clear p19
                                    try clear p195
                                    try clear p2
                                    try clear p3
                                    try clear p31
                                    try clear p6
                                    try clear q1
                                    try clear q19
                                    try clear q195
                                    try clear q3
                                    try clear q31
                                    obtain ⟨x15_5, x74_5, rfl, rfl, HA, HK5, HO_11, HO_13, HB⟩ := hrel
                                    cases gk with
                                    | zero => exact absurd HA.out (by simp [impl_Dft.l2])
                                    | succ k5 =>
                                      have H := HA.out
                                      clear HA
                                      simp only [impl_Dft.l2] at H
                                      by_cases c40 : x74_5 < (l0.length : Int)
                                      · rw [if_pos c40] at H
                                        have c40b0 : decide (x74_5 < (l0.length : Int)) = true := decide_eq_true c40
                                        (try (have c40b0_hl11_3 := c40b0; rw [hl11_3] at c40b0_hl11_3))
                                        (try (have c40b0_hl13_4 := c40b0; rw [hl13_4] at c40b0_hl13_4))
                                        clear c40
                                        by_cases c41 : 0 ≤ x74_5
                                        · rw [if_pos c41] at H
                                          have c41b0 : decide (0 ≤ x74_5) = true := decide_eq_true c41
                                          clear c41
                                          by_cases c42 : x74_5 < (l0.length : Int)
                                          · rw [if_pos c42] at H
                                            have c42b0 : decide (x74_5 < (l0.length : Int)) = true := decide_eq_true c42
                                            (try (have c42b0_hl11_3 := c42b0; rw [hl11_3] at c42b0_hl11_3))
                                            (try (have c42b0_hl13_4 := c42b0; rw [hl13_4] at c42b0_hl13_4))
                                            clear c42
                                            by_cases c43 : (l0.length : Int) = 0
                                            · rw [if_pos c43] at H
                                              exact absurd H (by simp)
                                            · rw [if_neg c43] at H
                                              have c43b0 : ((l0.length : Int) == 0) = false := beq_eq_false_iff_ne.mpr c43
                                              have c43b1 : ((l0.length : Int) != 0) = true := bne_iff_ne.mpr c43
                                              have c43b2 : ¬ (l0 = []) := fun h_ => c43 (by rw [h_]; rfl)
                                              obtain ⟨ji44, hji44⟩ : ∃ j_ : Int, (Int.tmod (wrap64 (x74_5 * x69_4)) (l0.length : Int)) = j_ := ⟨_, rfl⟩
                                              replace H : (if 0 ≤ (ji44) then (if (ji44) < (x11_3.length : Int) then (if a1 = 0 then (none) else (impl_Dft.l2 k5 l0 a1 (l0.length : Int) x10_11 x11_3 x13_4 x69_4 (Int.tmod (wrap64 (x15_5 + (wrap64 ((rd l0 x74_5) * (rd x11_3 (ji44)))))) a1) (y197.length : Int) x69_4 l0 (l0.length : Int) (wrap64 (x74_5 + 1)))) else (none)) else (none)) = some (r1, r2) := by first | (rw [hji44] at H; exact H) | (simp only [hji44] at H ⊢; exact H)
                                              by_cases c45 : 0 ≤ (ji44)
                                              · rw [if_pos c45] at H
                                                have c45b0 : decide (0 ≤ (ji44)) = true := decide_eq_true c45
                                                clear c45
                                                by_cases c46 : (ji44) < (x11_3.length : Int)
                                                · rw [if_pos c46] at H
                                                  have c46b0 : decide ((ji44) < (x11_3.length : Int)) = true := decide_eq_true c46
                                                  (try (have c46b0_hl11_3 := c46b0; rw [hl11_3] at c46b0_hl11_3))
                                                  (try (have c46b0_hl13_4 := c46b0; rw [hl13_4] at c46b0_hl13_4))
                                                  clear c46
                                                  by_cases c47 : a1 = 0
                                                  · rw [if_pos c47] at H
                                                    exact absurd H (by simp)
                                                  · rw [if_neg c47] at H
                                                    have c47b0 : (a1 == 0) = false := beq_eq_false_iff_ne.mpr c47
                                                    have c47b1 : (a1 != 0) = true := bne_iff_ne.mpr c47
                                                    have H' := Aside0.mk H
                                                    clear H
                                                    have p200 : 0 ≤ (x74_5 : Int) := of_decide_eq_true (by first | (with_reducible assumption) | assumption)
                                                    have q200 : x74_5 < (l0.length : Int) := of_decide_eq_true (by first | (with_reducible assumption) | assumption)
                                                    obtain ⟨ad200, e200, hx200_0⟩ := Kd.at_int HR0.out x74_5 p200 q200
                                                    cases e200
                                                    replace hx200_0 := (HB.out.cell (World.block_lt_of_cell? w _ hx200_0)).trans hx200_0
                                                    replace p200 := eq_true p200
                                                    replace q200 := eq_true q200
                                                    have p201 : 0 ≤ ((ji44) : Int) := of_decide_eq_true (by first | (with_reducible assumption) | assumption)
                                                    have q201 : (ji44) < (x11_3.length : Int) := of_decide_eq_true (by first | (with_reducible assumption) | assumption)
                                                    obtain ⟨ad201, e201, hx201_0⟩ := Kd.at_int (Kd.R_reads' HO_11.out).2.2 (ji44) p201 q201
                                                    obtain rfl : (⟨go19, 0, none⟩ : Addr) = ad201 := (by injection e201)
                                                    (first | simp only [add_plain] at hx201_0 | simp only [add_at] at hx201_0 | simp only [Addr.add, Nat.zero_add] at hx201_0 | skip)
                                                    replace p201 := eq_true p201
                                                    replace q201 := eq_true q201
                                                    go_wp2
                                                    go_roundg k5
                                                    case measure => have := HJ3.out; have := HJ11.out; have := HK3.out; have := HK4.out; have := HK5.out; omega
                                                    case rel => exact ⟨(Int.tmod (wrap64 (x15_5 + (wrap64 ((rd l0 x74_5) * (rd x11_3 (ji44)))))) a1), (wrap64 (x74_5 + 1)), (by first | rfl | (simp; done) | (simp only [← hji44] <;> (first | rfl | simp)) | (simp [*]; done)), (by first | rfl | (simp; done) | (simp [*]; done)), H', ⟨by have := HJ3.out; have := HJ11.out; have := HK3.out; have := HK4.out; have := HK5.out; omega⟩, ⟨by (try simp only [hl11_3]); (try simp only [hl13_4]); (with_reducible repeat (first | apply Kd.R_alloc | apply Kd.R_drewN | apply Kd.R_drew)); exact HO_11.out⟩, ⟨by (try simp only [hl11_3]); (try simp only [hl13_4]); (with_reducible repeat (first | apply Kd.R_alloc | apply Kd.R_drewN | apply Kd.R_drew)); exact HO_13.out⟩, ⟨by repeat (first | (with_reducible first | exact HB.out | apply below_alloc | apply pw_below_drewN | apply below_drew1) | exact HB.out)⟩⟩
                                                · rw [if_neg c46] at H
                                                  exact absurd H (by simp)
                                              · rw [if_neg c45] at H
                                                exact absurd H (by simp)
                                          · rw [if_neg c42] at H
                                            exact absurd H (by simp)
                                        · rw [if_neg c41] at H
                                          exact absurd H (by simp)
                                      · rw [if_neg c40] at H
                                        have c40b0 : decide (x74_5 < (l0.length : Int)) = false := decide_eq_false c40
                                        (try (have c40b0_hl11_3 := c40b0; rw [hl11_3] at c40b0_hl11_3))
                                        (try (have c40b0_hl13_4 := c40b0; rw [hl13_4] at c40b0_hl13_4))
                                        clear c40
                                        by_cases c48 : a1 = 0
                                        · rw [if_pos c48] at H
                                          exact absurd H (by simp)
                                        · rw [if_neg c48] at H
                                          have c48b0 : (a1 == 0) = false := beq_eq_false_iff_ne.mpr c48
                                          have c48b1 : (a1 != 0) = true := bne_iff_ne.mpr c48
                                          by_cases c49 : 0 ≤ x69_4
                                          · rw [if_pos c49] at H
                                            have c49b0 : decide (0 ≤ x69_4) = true := decide_eq_true c49
                                            clear c49
                                            by_cases c50 : x69_4 < (x13_4.length : Int)
                                            · rw [if_pos c50] at H
                                              have c50b0 : decide (x69_4 < (x13_4.length : Int)) = true := decide_eq_true c50
                                              (try (have c50b0_hl11_3 := c50b0; rw [hl11_3] at c50b0_hl11_3))
                                              (try (have c50b0_hl13_4 := c50b0; rw [hl13_4] at c50b0_hl13_4))
                                              clear c50
                                              obtain ⟨y202, hy202⟩ : ∃ y_ : List Int, y_ = (x13_4.set (x69_4 : Int).toNat (Int.tmod (wrap64 (x15_5 * x10_11)) a1)) := ⟨_, rfl⟩
                                              replace H : (impl_Dft.l1 k5 l0 a1 (l0.length : Int) x10_11 x11_3 y202 (y197.length : Int) (wrap64 (x69_4 + 1))) = some (r1, r2) := by first | (rw [hy202]; with_reducible exact H) | (have H2_ := (Option.bind_some _ _).symm.trans H; rw [hy202]; with_reducible exact H2_) | (have H2_ := (Option.bind_some _ _).symm.trans H; with_reducible exact H2_) | with_reducible exact H | (rw [hy202]; exact H) | exact H
                                              have Ny202 := Aside0.mk hy202
                                              clear hy202
                                              have H' := Aside0.mk H
                                              clear H
                                              have p51 : 0 ≤ (x69_4 : Int) := of_decide_eq_true (by first | (with_reducible assumption) | assumption)
                                              have q51 : (x69_4 : Int) < ((x13_4.length : Int) : Int) := of_decide_eq_true (by first | (with_reducible assumption) | assumption)
                                              obtain ⟨go51, co51, eo51, gb51, gl51, cl51, HG51⟩ := Kd.R_form HO_13.out (by omega)
                                              (first | cases eo51 | (injection eo51 with ea_ en_ ec_; (first | subst ea_ | (injection ea_ with ea_; subst ea_)); subst ec_; clear en_))
                                              have GB51 := Aside0.mk gb51
                                              have GG51 := Aside0.mk HG51
                                              clear gb51 gl51 HG51
                                              obtain ⟨hx51_0, hf51_0⟩ := Kd.R_celln 0 HO_13.out (x69_4 : Int) p51 q51
                                              replace p51 := eq_true p51
                                              replace q51 := eq_true q51
                                              have HP52 := Kd.R_putg HO_13.out (x69_4 : Int) (Int.tmod (wrap64 (x15_5 * x10_11)) a1)
                                              go_wp2_with (first | ((with_reducible refine gate_store (t := 3) (p := 101) rfl ?_); refine store_event (t := 3) (p := 101) (v := ?vo_w53) (w1 := (wr.setCell ⟨go51, (x69_4 : Int).toNat, none⟩ (.int .i64 (Int.tmod (wrap64 (x15_5 * x10_11)) a1)))) ?hg ?ho ?hn ?hr ?_; (case ho => rfl); (case hg => rfl); (case hn => rfl); (case hr => first | (go_simp; done) | (go_simp; rfl)); intro w53 hw; have hg : wr.grownBy w53 (some go51) := (by rw [hw]; exact HP52.2); have hp_ : Kd.R (Kd.int .i64) 3 w53 w.heap.size (fun k_ => some k_ ≠ (.slice (some ⟨go19, 0, none⟩) x11_3.length co19 : Value).ownBlock) (.slice (some ⟨go51, 0, none⟩) x13_4.length co38) y202 := (by rw [hw, Ny202.out]; exact HP52.1); clear HP52; have n0_ := Aside0.mk (Kd.R_after (v := (.slice (some ⟨go51, 0, none⟩) x13_4.length co38)) (v1 := (.slice (some ⟨go51, 0, none⟩) x13_4.length co38)) (ok := (fun _ => True)) (by (with_reducible repeat (first | apply Kd.R_alloc | apply Kd.R_drewN | apply Kd.R_drew)); exact Kd.R_mono HO_11.out (fun _ hk => ⟨trivial, hk⟩)) hg (.inl rfl)); have n1_ := Aside0.mk (hp_); have n2_ := Aside0.mk ((by rw [hw]; exact below_set (HB.out) GB51.out : Below w.heap.size w w53)); clear HO_11; clear HO_13; clear HB; have HO_11 := n0_; have HO_13 := n1_; have HB := n2_; clear n0_ n1_ n2_; clear hg hw hp_))
                                              (try simp only [← hl13_4])
                                              go_roundg k5
                                              case measure => have := HJ3.out; have := HJ11.out; have := HK3.out; have := HK4.out; have := HK5.out; omega
                                              case rel => exact ⟨(y202), (wrap64 (x69_4 + 1)), (by first | rfl | (simp; done) | (simp [*]; done)), H', ⟨by have := HJ3.out; have := HJ11.out; have := HK3.out; have := HK4.out; have := HK5.out; omega⟩, ⟨by (try simp only [hl11_3]); (try simp only [hl13_4]); (with_reducible repeat (first | apply Kd.R_alloc | apply Kd.R_drewN | apply Kd.R_drew)); exact Kd.R_mono HO_11.out (fun _ hk => hk.2)⟩, ⟨by (try simp only [hl11_3]); (try simp only [hl13_4]); (with_reducible repeat (first | apply Kd.R_alloc | apply Kd.R_drewN | apply Kd.R_drew)); exact HO_13.out⟩, ⟨by repeat (first | (with_reducible first | exact HB.out | apply below_alloc | apply pw_below_drewN | apply below_drew1) | exact HB.out)⟩⟩
                                            · rw [if_neg c50] at H
                                              exact absurd H (by simp)
                                          · rw [if_neg c49] at H
                                            exact absurd H (by simp)
                                · rw [if_neg c39] at H
                                  have c39b0 : decide (x69_4 < (y197.length : Int)) = false := decide_eq_false c39
                                  (try (have c39b0_hl11_3 := c39b0; rw [hl11_3] at c39b0_hl11_3))
                                  (try (have c39b0_hl13_4 := c39b0; rw [hl13_4] at c39b0_hl13_4))
                                  clear c39
                                  simp only [Option.some.injEq, Prod.mk.injEq] at H
                                  obtain ⟨rfl, rfl⟩ := H
                                  go_wp2
                                  go_ret2
                                  exact ⟨_, by first | rfl | (simp [errW_none, errW_some] <;> rfl) | (simp [*, errW_none, errW_some] <;> rfl), by (with_reducible repeat (first | apply Kd.R_alloc | apply Kd.R_drewN | apply Kd.R_drew)); exact Kd.R_mono HO_13.out (fun _ hk => trivial), by repeat (first | (with_reducible first | exact HB.out | apply below_alloc | apply pw_below_drewN | apply below_drew1) | exact HB.out)⟩
                          · rw [if_neg c35] at H
                            exact absurd H (by simp)
                        · rw [if_neg c34] at H
                          exact absurd H (by simp)
                · rw [if_neg c18] at H
                  exact absurd H (by simp)
              · rw [if_neg c17] at H
                exact absurd H (by simp)
            · rw [if_neg c16] at H
              exact absurd H (by simp)

end Go.Proofs.Ytofegdgcafameaa.QFnDftTwice
