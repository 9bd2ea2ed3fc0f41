-- Laid by wip/own_print.py: the kit's printer, run with hand-made parts (see NOTES.md).
import Derived.Test.YtgincgknmchedaaQFnExactAdaptx0
import Derived.Test.YtgincgknmchedaaQFnExactAdaptx1
namespace Go.Proofs.Ytgincgknmchedaa.QFnExactAdapt
open Go.RowKit Go.Proofs.YtgincgknmchedaaW.PrintWords Go.Proofs.YtgincgknmchedaaW.PrintLast Go.Proofs.YtgincgknmchedaaW.PrintMore
attribute [local go_sem] max2_int min2_int max_two min_two max_three min_three max_four min_four   -- for this text's walks alone
set_option linter.unusedVariables false
set_option linter.unusedSimpArgs false

/-! ### spec_Shift: function 48 -/
def spec_Shift.j0 : Nat → Int → Int → Int → Bool → Option (Int)
  | 0, _, _, _, _ => none
  | k + 1, x0, x1, x2, x22 => if x22 = true then (some 0) else (if 0 ≤ (IntKind.u64.wrap (x1)) then ((spec_l5Floor.f x0 (shl .i64 1 (IntKind.u64.wrap (x1)))).bind fun t116 => (if x2 = 2 then (if t116 < 0 then (if (wrap64 (x0 - (wrap64 (t116 * (shl .i64 1 (IntKind.u64.wrap (x1))))))) > 0 then (some (wrap64 (t116 + 1))) else (some t116)) else (some t116)) else (if x2 = 3 then (if x1 > 0 then (if (wrap64 (x0 - (wrap64 (t116 * (shl .i64 1 (IntKind.u64.wrap (x1))))))) ≥ (wrap64 ((shl .i64 1 (IntKind.u64.wrap (x1))) - (wrap64 (x0 - (wrap64 (t116 * (shl .i64 1 (IntKind.u64.wrap (x1))))))))) then (some (wrap64 (t116 + 1))) else (some t116)) else (some t116)) else (if x2 = 4 then (if x1 > 0 then (if (wrap64 (x0 - (wrap64 (t116 * (shl .i64 1 (IntKind.u64.wrap (x1))))))) > (wrap64 ((shl .i64 1 (IntKind.u64.wrap (x1))) - (wrap64 (x0 - (wrap64 (t116 * (shl .i64 1 (IntKind.u64.wrap (x1))))))))) then (some (wrap64 (t116 + 1))) else (if (wrap64 (x0 - (wrap64 (t116 * (shl .i64 1 (IntKind.u64.wrap (x1))))))) = (wrap64 ((shl .i64 1 (IntKind.u64.wrap (x1))) - (wrap64 (x0 - (wrap64 (t116 * (shl .i64 1 (IntKind.u64.wrap (x1))))))))) then (if (Int.tmod t116 2) = 0 then (some t116) else (some (wrap64 (t116 + 1)))) else (some t116))) else (some t116)) else (some t116))))) else (none))
def spec_Shift.f (k : Nat) (a0 : Int) (a1 : Int) (a2 : Int) : Option (Int) := (spec_l1In.f a0 (-4000000000000000000) 4000000000000000000).bind fun t113 => (if t113 = true then ((spec_l1In.f a1 0 60).bind fun t114 => (if t114 = true then ((spec_l5Cut.f a2).bind fun t115 => (spec_Shift.j0 k a0 a1 a2 (!t115))) else (spec_Shift.j0 k a0 a1 a2 true))) else (spec_Shift.j0 k a0 a1 a2 true))
theorem spec_Shift.mono_l : ∀ k, (∀ y0 y1 y2 y3, LeO (spec_Shift.j0 k y0 y1 y2 y3) (spec_Shift.j0 (k + 1) y0 y1 y2 y3))
  | 0 => fun _ _ _ _ r h => by simp [spec_Shift.j0] at h
  | k + 1 => by
    have ih0 := spec_Shift.mono_l k
    · intro y0 y1 y2 y3
      unfold spec_Shift.j0
      repeat' first
      | (with_reducible exact ih0 _ _ _ _)
      | (with_reducible exact LeO.refl _)
      | (with_reducible exact LeO.none _)
      | (with_reducible refine LeO.ite ?_ ?_)
      | (with_reducible refine LeO.bind ?_ (fun _ => ?_))
      | exact ih0 _ _ _ _
      | exact LeO.none _
      | refine LeO.ite ?_ ?_
      | refine LeO.bind ?_ (fun _ => ?_)
theorem spec_Shift.mono : ∀ a0 a1 a2 k, LeO (spec_Shift.f k a0 a1 a2) (spec_Shift.f (k + 1) a0 a1 a2) := by
  intro a0 a1 a2 k
  have ih0 := spec_Shift.mono_l k
  unfold spec_Shift.f
  repeat' first
      | (with_reducible exact ih0 _ _ _ _)
      | (with_reducible exact LeO.refl _)
      | (with_reducible exact LeO.none _)
      | (with_reducible refine LeO.ite ?_ ?_)
      | (with_reducible refine LeO.bind ?_ (fun _ => ?_))
      | exact ih0 _ _ _ _
      | exact LeO.none _
      | refine LeO.ite ?_ ?_
      | refine LeO.bind ?_ (fun _ => ?_)
set_option maxHeartbeats 8000000 in
set_option maxRecDepth 100000 in
theorem spec_Shift.calls (k : Nat) (a0 : Int) (a1 : Int) (a2 : Int) (r : Int) (w : World) (h : spec_Shift.f k a0 a1 a2 = some r) :
    Calls Try.prog 48 #[.int .i64 a0, .int .i64 a1, .int .i64 a2] w fun e w' => e = .returned (.int .i64 r) ∧ Drawn0 w w' := by
  have H : ((spec_l1In.f a0 (-4000000000000000000) 4000000000000000000).bind fun t113 => (if t113 = true then ((spec_l1In.f a1 0 60).bind fun t114 => (if t114 = true then ((spec_l5Cut.f a2).bind fun t115 => (spec_Shift.j0 k a0 a1 a2 (!t115))) else (spec_Shift.j0 k a0 a1 a2 true))) else (spec_Shift.j0 k a0 a1 a2 true))) = some r := h
  clear h
  have HC4 := Aside0.mk H
  clear H
  go_enter Try.func48, Try.ntmps48
  go_upto_region 1 with (fail)
  go_cut [22] (fun v22 wc => ∃ (kq : Nat) (x22_3 : Bool), v22 = .bool x22_3 ∧ Aside0 (spec_Shift.j0 kq a0 a1 a2 x22_3 = some r) ∧ Aside0 (kq ≤ k) ∧ Drawn0 w wc)
  case first =>
    have H := HC4.out
    clear HC4
    replace H := Option.bind_eq_some_iff.mp H
    obtain ⟨t113, A50, H⟩ := H
    replace H : (if t113 = true then ((spec_l1In.f a1 0 60).bind fun t114 => (if t114 = true then ((spec_l5Cut.f a2).bind fun t115 => (spec_Shift.j0 k a0 a1 a2 (!t115))) else (spec_Shift.j0 k a0 a1 a2 true))) else (spec_Shift.j0 k a0 a1 a2 true)) = some r := H
    have A5 := Aside0.mk A50
    clear A50
    by_cases c6 : t113 = true
    · subst c6
      have H1 : ((spec_l1In.f a1 0 60).bind fun t114 => (if t114 = true then ((spec_l5Cut.f a2).bind fun t115 => (spec_Shift.j0 k a0 a1 a2 (!t115))) else (spec_Shift.j0 k a0 a1 a2 true))) = some r := by rw [if_pos rfl] at H; exact H
      clear H
      have H := H1
      clear H1
      replace H := Option.bind_eq_some_iff.mp H
      obtain ⟨t114, A70, H⟩ := H
      replace H : (if t114 = true then ((spec_l5Cut.f a2).bind fun t115 => (spec_Shift.j0 k a0 a1 a2 (!t115))) else (spec_Shift.j0 k a0 a1 a2 true)) = some r := H
      have A7 := Aside0.mk A70
      clear A70
      by_cases c8 : t114 = true
      · subst c8
        have H1 : ((spec_l5Cut.f a2).bind fun t115 => (spec_Shift.j0 k a0 a1 a2 (!t115))) = some r := by rw [if_pos rfl] at H; exact H
        clear H
        have H := H1
        clear H1
        replace H := Option.bind_eq_some_iff.mp H
        obtain ⟨t115, A90, H⟩ := H
        replace H : (spec_Shift.j0 k a0 a1 a2 (!t115)) = some r := H
        have A9 := Aside0.mk A90
        clear A90
        have H' := Aside0.mk H
        clear H
        go_wp2_with (first | ((with_reducible refine gate_callee (f := 30) rfl ?_); refine goesL_ (some 11) rfl rfl Try.func30 (by kernel_rfl) rfl #[.int .i64 a0, .int .i64 (-4000000000000000000), .int .i64 4000000000000000000] rfl (by (try simp only [List.map_toArray, List.map_cons, List.map_nil]); first | done | rfl | (simp only [List.length_drop, List.length_take]; rfl)) ?_; (with_reducible refine (spec_l1In.calls a0 (-4000000000000000000) 4000000000000000000 true _ A5.out).mono ?_); rintro e w' ⟨rfl, ⟨nd, rfl⟩⟩; refine ⟨_, rfl, ?_⟩) | (go_at_call 30; (with_reducible refine (spec_l1In.calls a1 0 60 true _ A7.out).mono ?_); rintro e w' ⟨rfl, ⟨nd, rfl⟩⟩) | (go_at_call 61; (with_reducible refine (spec_l5Cut.calls a2 t115 _ A9.out).mono ?_); rintro e w' ⟨rfl, ⟨nd, rfl⟩⟩))
        go_meet
        case rel => exact ⟨_, (!t115), (by first | rfl | (simp; done) | (simp [*]; done)), H', ⟨by first | omega | exact Nat.le_refl _⟩, by repeat (first | exact Drawn0.refl _ | apply Drawn0.step)⟩
      · replace c8 := Bool.eq_false_iff.mpr c8
        subst c8
        have H1 : (spec_Shift.j0 k a0 a1 a2 true) = some r := by rw [if_neg (show ¬ (false = true) by decide)] at H; exact H
        clear H
        have H := H1
        clear H1
        have H' := Aside0.mk H
        clear H
        go_wp2_with (first | ((with_reducible refine gate_callee (f := 30) rfl ?_); refine goesL_ (some 11) rfl rfl Try.func30 (by kernel_rfl) rfl #[.int .i64 a0, .int .i64 (-4000000000000000000), .int .i64 4000000000000000000] rfl (by (try simp only [List.map_toArray, List.map_cons, List.map_nil]); first | done | rfl | (simp only [List.length_drop, List.length_take]; rfl)) ?_; (with_reducible refine (spec_l1In.calls a0 (-4000000000000000000) 4000000000000000000 true _ A5.out).mono ?_); rintro e w' ⟨rfl, ⟨nd, rfl⟩⟩; refine ⟨_, rfl, ?_⟩) | (go_at_call 30; (with_reducible refine (spec_l1In.calls a1 0 60 false _ A7.out).mono ?_); rintro e w' ⟨rfl, ⟨nd, rfl⟩⟩))
        go_meet
        case rel => exact ⟨_, (true), (by first | rfl | (simp; done) | (simp [*]; done)), H', ⟨by first | omega | exact Nat.le_refl _⟩, by repeat (first | exact Drawn0.refl _ | apply Drawn0.step)⟩
    · replace c6 := Bool.eq_false_iff.mpr c6
      subst c6
      have H1 : (spec_Shift.j0 k a0 a1 a2 true) = some r := by rw [if_neg (show ¬ (false = true) by decide)] at H; exact H
      clear H
      have H := H1
      clear H1
      have H' := Aside0.mk H
      clear H
      go_wp2_with (first | ((with_reducible refine gate_callee (f := 30) rfl ?_); refine goesL_ (some 11) rfl rfl Try.func30 (by kernel_rfl) rfl #[.int .i64 a0, .int .i64 (-4000000000000000000), .int .i64 4000000000000000000] rfl (by (try simp only [List.map_toArray, List.map_cons, List.map_nil]); first | done | rfl | (simp only [List.length_drop, List.length_take]; rfl)) ?_; (with_reducible refine (spec_l1In.calls a0 (-4000000000000000000) 4000000000000000000 false _ A5.out).mono ?_); rintro e w' ⟨rfl, ⟨nd, rfl⟩⟩; refine ⟨_, rfl, ?_⟩))
      go_meet
      case rel => exact ⟨_, (true), (by first | rfl | (simp; done) | (simp [*]; done)), H', ⟨by first | omega | exact Nat.le_refl _⟩, by repeat (first | exact Drawn0.refl _ | apply Drawn0.step)⟩
  case rest =>
    clear HC4
    try clear p2
    try clear c3
    try clear c4
    try clear c6
    try clear c8
    obtain ⟨kq, x22_3, rfl, HA, HJ3, ⟨mc3, rfl⟩⟩ := hcut
    cases kq with
    | zero => exact absurd HA.out (by simp [spec_Shift.j0])
    | succ kj3 =>
      have H := HA.out
      clear HA
      simp only [spec_Shift.j0] at H
      by_cases c10 : x22_3 = true
      · subst c10
        have H1 : (some 0) = some r := by rw [if_pos rfl] at H; exact H
        clear H
        have H := H1
        clear H1
        obtain rfl := Option.some.inj H
        go_wp2
        go_ret
        exact ⟨by first | rfl | (simp; done) | (simp [*]; done), by repeat (first | exact Drawn0.refl _ | apply Drawn0.step)⟩
      · replace c10 := Bool.eq_false_iff.mpr c10
        subst c10
        have H1 : (if 0 ≤ (IntKind.u64.wrap (a1)) then ((spec_l5Floor.f a0 (shl .i64 1 (IntKind.u64.wrap (a1)))).bind fun t116 => (if a2 = 2 then (if t116 < 0 then (if (wrap64 (a0 - (wrap64 (t116 * (shl .i64 1 (IntKind.u64.wrap (a1))))))) > 0 then (some (wrap64 (t116 + 1))) else (some t116)) else (some t116)) else (if a2 = 3 then (if a1 > 0 then (if (wrap64 (a0 - (wrap64 (t116 * (shl .i64 1 (IntKind.u64.wrap (a1))))))) ≥ (wrap64 ((shl .i64 1 (IntKind.u64.wrap (a1))) - (wrap64 (a0 - (wrap64 (t116 * (shl .i64 1 (IntKind.u64.wrap (a1))))))))) then (some (wrap64 (t116 + 1))) else (some t116)) else (some t116)) else (if a2 = 4 then (if a1 > 0 then (if (wrap64 (a0 - (wrap64 (t116 * (shl .i64 1 (IntKind.u64.wrap (a1))))))) > (wrap64 ((shl .i64 1 (IntKind.u64.wrap (a1))) - (wrap64 (a0 - (wrap64 (t116 * (shl .i64 1 (IntKind.u64.wrap (a1))))))))) then (some (wrap64 (t116 + 1))) else (if (wrap64 (a0 - (wrap64 (t116 * (shl .i64 1 (IntKind.u64.wrap (a1))))))) = (wrap64 ((shl .i64 1 (IntKind.u64.wrap (a1))) - (wrap64 (a0 - (wrap64 (t116 * (shl .i64 1 (IntKind.u64.wrap (a1))))))))) then (if (Int.tmod t116 2) = 0 then (some t116) else (some (wrap64 (t116 + 1)))) else (some t116))) else (some t116)) else (some t116))))) else (none)) = some r := by rw [if_neg (show ¬ (false = true) by decide)] at H; exact H
        clear H
        have H := H1
        clear H1
        obtain ⟨ji11, hji11⟩ : ∃ j_ : Int, (IntKind.u64.wrap (a1)) = j_ := ⟨_, rfl⟩
        replace H : (if 0 ≤ (ji11) then ((spec_l5Floor.f a0 (shl .i64 1 (ji11))).bind fun t116 => (if a2 = 2 then (if t116 < 0 then (if (wrap64 (a0 - (wrap64 (t116 * (shl .i64 1 (ji11)))))) > 0 then (some (wrap64 (t116 + 1))) else (some t116)) else (some t116)) else (if a2 = 3 then (if a1 > 0 then (if (wrap64 (a0 - (wrap64 (t116 * (shl .i64 1 (ji11)))))) ≥ (wrap64 ((shl .i64 1 (ji11)) - (wrap64 (a0 - (wrap64 (t116 * (shl .i64 1 (ji11)))))))) then (some (wrap64 (t116 + 1))) else (some t116)) else (some t116)) else (if a2 = 4 then (if a1 > 0 then (if (wrap64 (a0 - (wrap64 (t116 * (shl .i64 1 (ji11)))))) > (wrap64 ((shl .i64 1 (ji11)) - (wrap64 (a0 - (wrap64 (t116 * (shl .i64 1 (ji11)))))))) then (some (wrap64 (t116 + 1))) else (if (wrap64 (a0 - (wrap64 (t116 * (shl .i64 1 (ji11)))))) = (wrap64 ((shl .i64 1 (ji11)) - (wrap64 (a0 - (wrap64 (t116 * (shl .i64 1 (ji11)))))))) then (if (Int.tmod t116 2) = 0 then (some t116) else (some (wrap64 (t116 + 1)))) else (some t116))) else (some t116)) else (some t116))))) else (none)) = some r := by first | (rw [hji11] at H; exact H) | (simp only [hji11] at H ⊢; exact H)
        by_cases c12 : 0 ≤ (ji11)
        · rw [if_pos c12] at H
          have c12b0 := eq_true c12
          have c12b1 : decide (0 ≤ (ji11)) = true := decide_eq_true c12
          clear c12
          obtain ⟨ji13, hji13⟩ : ∃ j_ : Int, (shl .i64 1 (ji11)) = j_ := ⟨_, rfl⟩
          replace H : ((spec_l5Floor.f a0 (ji13)).bind fun t116 => (if a2 = 2 then (if t116 < 0 then (if (wrap64 (a0 - (wrap64 (t116 * (ji13))))) > 0 then (some (wrap64 (t116 + 1))) else (some t116)) else (some t116)) else (if a2 = 3 then (if a1 > 0 then (if (wrap64 (a0 - (wrap64 (t116 * (ji13))))) ≥ (wrap64 ((ji13) - (wrap64 (a0 - (wrap64 (t116 * (ji13))))))) then (some (wrap64 (t116 + 1))) else (some t116)) else (some t116)) else (if a2 = 4 then (if a1 > 0 then (if (wrap64 (a0 - (wrap64 (t116 * (ji13))))) > (wrap64 ((ji13) - (wrap64 (a0 - (wrap64 (t116 * (ji13))))))) then (some (wrap64 (t116 + 1))) else (if (wrap64 (a0 - (wrap64 (t116 * (ji13))))) = (wrap64 ((ji13) - (wrap64 (a0 - (wrap64 (t116 * (ji13))))))) then (if (Int.tmod t116 2) = 0 then (some t116) else (some (wrap64 (t116 + 1)))) else (some t116))) else (some t116)) else (some t116))))) = some r := by first | (rw [hji13] at H; exact H) | (simp only [hji13] at H ⊢; exact H)
          have hji13_ : (IntKind.i64.wrap (1 * 2 ^ min (ji11).toNat 64)) = ji13 := hji13
          have hji13z : (ji11) ≤ 64 → (IntKind.i64.wrap (1 * 2 ^ (ji11).toNat)) = ji13 := shl_small hji13
          have hji13u : (IntKind.i64.wrap (2 ^ min (ji11).toNat 64)) = ji13 := by have h_ := hji13_; rw [Int.one_mul] at h_; exact h_
          have hji13v : (ji11) ≤ 64 → (IntKind.i64.wrap (2 ^ (ji11).toNat)) = ji13 := fun hle_ => by have h_ := hji13z hle_; rw [Int.one_mul] at h_; exact h_
          have hji13y : (wrap64 (1 * 2 ^ min (ji11).toNat 64)) = ji13 := (i64_w _).symm.trans hji13_
          have hji13x : (ji11) ≤ 64 → (wrap64 (1 * 2 ^ (ji11).toNat)) = ji13 := fun h_ => (i64_w _).symm.trans (hji13z h_)
          replace H := Option.bind_eq_some_iff.mp H
          obtain ⟨t116, A140, H⟩ := H
          replace H : (if a2 = 2 then (if t116 < 0 then (if (wrap64 (a0 - (wrap64 (t116 * (ji13))))) > 0 then (some (wrap64 (t116 + 1))) else (some t116)) else (some t116)) else (if a2 = 3 then (if a1 > 0 then (if (wrap64 (a0 - (wrap64 (t116 * (ji13))))) ≥ (wrap64 ((ji13) - (wrap64 (a0 - (wrap64 (t116 * (ji13))))))) then (some (wrap64 (t116 + 1))) else (some t116)) else (some t116)) else (if a2 = 4 then (if a1 > 0 then (if (wrap64 (a0 - (wrap64 (t116 * (ji13))))) > (wrap64 ((ji13) - (wrap64 (a0 - (wrap64 (t116 * (ji13))))))) then (some (wrap64 (t116 + 1))) else (if (wrap64 (a0 - (wrap64 (t116 * (ji13))))) = (wrap64 ((ji13) - (wrap64 (a0 - (wrap64 (t116 * (ji13))))))) then (if (Int.tmod t116 2) = 0 then (some t116) else (some (wrap64 (t116 + 1)))) else (some t116))) else (some t116)) else (some t116)))) = some r := H
          have A14 := Aside0.mk A140
          clear A140
          by_cases c15 : a2 = 2
          · rw [if_pos c15] at H
            have c15b0 : (a2 == 2) = true := beq_iff_eq.mpr c15
            have c15b1 : (a2 != 2) = false := bne_eq_false_iff_eq.mpr c15
            clear c15
            by_cases c16 : t116 < 0
            · rw [if_pos c16] at H
              have c16b0 : decide (t116 < 0) = true := decide_eq_true c16
              clear c16
              by_cases c17 : (wrap64 (a0 - (wrap64 (t116 * (ji13))))) > 0
              · rw [if_pos c17] at H
                have c17b0 : decide (0 < (wrap64 (a0 - (wrap64 (t116 * (ji13)))))) = true := decide_eq_true c17
                clear c17
                obtain rfl := Option.some.inj H
                go_wp2_with (first | ((with_reducible refine gate_callee (f := 41) rfl ?_); refine goesL_ (some 28) rfl rfl Try.func41 (by kernel_rfl) rfl #[.int .i64 a0, .int .i64 ji13] rfl (by (try simp only [List.map_toArray, List.map_cons, List.map_nil]); first | done | (simp only [hji13]; rfl) | rfl | (simp only [List.length_drop, List.length_take]; rfl)) ?_; (with_reducible refine (spec_l5Floor.calls a0 ji13 t116 _ A14.out).mono ?_); rintro e w' ⟨rfl, ⟨nd, rfl⟩⟩; refine ⟨_, rfl, ?_⟩))
                go_ret
                exact ⟨by first | rfl | (simp; done) | (simp only [← hji11, ← hji13] <;> (first | rfl | simp)) | (simp [*]; done), by repeat (first | exact Drawn0.refl _ | apply Drawn0.step)⟩
              · rw [if_neg c17] at H
                have c17b0 : decide (0 < (wrap64 (a0 - (wrap64 (t116 * (ji13)))))) = false := decide_eq_false c17
                clear c17
                obtain rfl := Option.some.inj H
                go_wp2_with (first | ((with_reducible refine gate_callee (f := 41) rfl ?_); refine goesL_ (some 28) rfl rfl Try.func41 (by kernel_rfl) rfl #[.int .i64 a0, .int .i64 ji13] rfl (by (try simp only [List.map_toArray, List.map_cons, List.map_nil]); first | done | (simp only [hji13]; rfl) | rfl | (simp only [List.length_drop, List.length_take]; rfl)) ?_; (with_reducible refine (spec_l5Floor.calls a0 ji13 t116 _ A14.out).mono ?_); rintro e w' ⟨rfl, ⟨nd, rfl⟩⟩; refine ⟨_, rfl, ?_⟩))
                go_ret
                exact ⟨by first | rfl | (simp; done) | (simp only [← hji11, ← hji13] <;> (first | rfl | simp)) | (simp [*]; done), by repeat (first | exact Drawn0.refl _ | apply Drawn0.step)⟩
            · rw [if_neg c16] at H
              have c16b0 : decide (t116 < 0) = false := decide_eq_false c16
              clear c16
              obtain rfl := Option.some.inj H
              go_wp2_with (first | ((with_reducible refine gate_callee (f := 41) rfl ?_); refine goesL_ (some 28) rfl rfl Try.func41 (by kernel_rfl) rfl #[.int .i64 a0, .int .i64 ji13] rfl (by (try simp only [List.map_toArray, List.map_cons, List.map_nil]); first | done | (simp only [hji13]; rfl) | rfl | (simp only [List.length_drop, List.length_take]; rfl)) ?_; (with_reducible refine (spec_l5Floor.calls a0 ji13 t116 _ A14.out).mono ?_); rintro e w' ⟨rfl, ⟨nd, rfl⟩⟩; refine ⟨_, rfl, ?_⟩))
              go_ret
              exact ⟨by first | rfl | (simp; done) | (simp only [← hji11, ← hji13] <;> (first | rfl | simp)) | (simp [*]; done), by repeat (first | exact Drawn0.refl _ | apply Drawn0.step)⟩
          · rw [if_neg c15] at H
            have c15b0 : (a2 == 2) = false := beq_eq_false_iff_ne.mpr c15
            have c15b1 : (a2 != 2) = true := bne_iff_ne.mpr c15
            by_cases c18 : a2 = 3
            · rw [if_pos c18] at H
              have c18b0 : (a2 == 3) = true := beq_iff_eq.mpr c18
              have c18b1 : (a2 != 3) = false := bne_eq_false_iff_eq.mpr c18
              clear c18
              by_cases c19 : a1 > 0
              · rw [if_pos c19] at H
                have c19b0 : decide (0 < a1) = true := decide_eq_true c19
                clear c19
                by_cases c20 : (wrap64 (a0 - (wrap64 (t116 * (ji13))))) ≥ (wrap64 ((ji13) - (wrap64 (a0 - (wrap64 (t116 * (ji13)))))))
                · rw [if_pos c20] at H
                  have c20b0 : decide ((wrap64 ((ji13) - (wrap64 (a0 - (wrap64 (t116 * (ji13))))))) ≤ (wrap64 (a0 - (wrap64 (t116 * (ji13)))))) = true := decide_eq_true c20
                  clear c20
                  obtain rfl := Option.some.inj H
                  go_wp2_with (first | ((with_reducible refine gate_callee (f := 41) rfl ?_); refine goesL_ (some 28) rfl rfl Try.func41 (by kernel_rfl) rfl #[.int .i64 a0, .int .i64 ji13] rfl (by (try simp only [List.map_toArray, List.map_cons, List.map_nil]); first | done | (simp only [hji13]; rfl) | rfl | (simp only [List.length_drop, List.length_take]; rfl)) ?_; (with_reducible refine (spec_l5Floor.calls a0 ji13 t116 _ A14.out).mono ?_); rintro e w' ⟨rfl, ⟨nd, rfl⟩⟩; refine ⟨_, rfl, ?_⟩))
                  go_ret
                  exact ⟨by first | rfl | (simp; done) | (simp only [← hji11, ← hji13] <;> (first | rfl | simp)) | (simp [*]; done), by repeat (first | exact Drawn0.refl _ | apply Drawn0.step)⟩
                · rw [if_neg c20] at H
                  have c20b0 : decide ((wrap64 ((ji13) - (wrap64 (a0 - (wrap64 (t116 * (ji13))))))) ≤ (wrap64 (a0 - (wrap64 (t116 * (ji13)))))) = false := decide_eq_false c20
                  clear c20
                  obtain rfl := Option.some.inj H
                  go_wp2_with (first | ((with_reducible refine gate_callee (f := 41) rfl ?_); refine goesL_ (some 28) rfl rfl Try.func41 (by kernel_rfl) rfl #[.int .i64 a0, .int .i64 ji13] rfl (by (try simp only [List.map_toArray, List.map_cons, List.map_nil]); first | done | (simp only [hji13]; rfl) | rfl | (simp only [List.length_drop, List.length_take]; rfl)) ?_; (with_reducible refine (spec_l5Floor.calls a0 ji13 t116 _ A14.out).mono ?_); rintro e w' ⟨rfl, ⟨nd, rfl⟩⟩; refine ⟨_, rfl, ?_⟩))
                  go_ret
                  exact ⟨by first | rfl | (simp; done) | (simp only [← hji11, ← hji13] <;> (first | rfl | simp)) | (simp [*]; done), by repeat (first | exact Drawn0.refl _ | apply Drawn0.step)⟩
              · rw [if_neg c19] at H
                have c19b0 : decide (0 < a1) = false := decide_eq_false c19
                clear c19
                obtain rfl := Option.some.inj H
                go_wp2_with (first | ((with_reducible refine gate_callee (f := 41) rfl ?_); refine goesL_ (some 28) rfl rfl Try.func41 (by kernel_rfl) rfl #[.int .i64 a0, .int .i64 ji13] rfl (by (try simp only [List.map_toArray, List.map_cons, List.map_nil]); first | done | (simp only [hji13]; rfl) | rfl | (simp only [List.length_drop, List.length_take]; rfl)) ?_; (with_reducible refine (spec_l5Floor.calls a0 ji13 t116 _ A14.out).mono ?_); rintro e w' ⟨rfl, ⟨nd, rfl⟩⟩; refine ⟨_, rfl, ?_⟩))
                go_ret
                exact ⟨by first | rfl | (simp; done) | (simp only [← hji11, ← hji13] <;> (first | rfl | simp)) | (simp [*]; done), by repeat (first | exact Drawn0.refl _ | apply Drawn0.step)⟩
            · rw [if_neg c18] at H
              have c18b0 : (a2 == 3) = false := beq_eq_false_iff_ne.mpr c18
              have c18b1 : (a2 != 3) = true := bne_iff_ne.mpr c18
              by_cases c21 : a2 = 4
              · rw [if_pos c21] at H
                have c21b0 : (a2 == 4) = true := beq_iff_eq.mpr c21
                have c21b1 : (a2 != 4) = false := bne_eq_false_iff_eq.mpr c21
                clear c21
                by_cases c22 : a1 > 0
                · rw [if_pos c22] at H
                  have c22b0 : decide (0 < a1) = true := decide_eq_true c22
                  clear c22
                  by_cases c23 : (wrap64 (a0 - (wrap64 (t116 * (ji13))))) > (wrap64 ((ji13) - (wrap64 (a0 - (wrap64 (t116 * (ji13)))))))
                  · rw [if_pos c23] at H
                    have c23b0 : decide ((wrap64 ((ji13) - (wrap64 (a0 - (wrap64 (t116 * (ji13))))))) < (wrap64 (a0 - (wrap64 (t116 * (ji13)))))) = true := decide_eq_true c23
                    clear c23
                    obtain rfl := Option.some.inj H
                    go_wp2_with (first | ((with_reducible refine gate_callee (f := 41) rfl ?_); refine goesL_ (some 28) rfl rfl Try.func41 (by kernel_rfl) rfl #[.int .i64 a0, .int .i64 ji13] rfl (by (try simp only [List.map_toArray, List.map_cons, List.map_nil]); first | done | (simp only [hji13]; rfl) | rfl | (simp only [List.length_drop, List.length_take]; rfl)) ?_; (with_reducible refine (spec_l5Floor.calls a0 ji13 t116 _ A14.out).mono ?_); rintro e w' ⟨rfl, ⟨nd, rfl⟩⟩; refine ⟨_, rfl, ?_⟩))
                    go_ret
                    exact ⟨by first | rfl | (simp; done) | (simp only [← hji11, ← hji13] <;> (first | rfl | simp)) | (simp [*]; done), by repeat (first | exact Drawn0.refl _ | apply Drawn0.step)⟩
                  · rw [if_neg c23] at H
                    have c23b0 : decide ((wrap64 ((ji13) - (wrap64 (a0 - (wrap64 (t116 * (ji13))))))) < (wrap64 (a0 - (wrap64 (t116 * (ji13)))))) = false := decide_eq_false c23
                    clear c23
                    by_cases c24 : (wrap64 (a0 - (wrap64 (t116 * (ji13))))) = (wrap64 ((ji13) - (wrap64 (a0 - (wrap64 (t116 * (ji13)))))))
                    · rw [if_pos c24] at H
                      have c24b0 : ((wrap64 (a0 - (wrap64 (t116 * (ji13))))) == (wrap64 ((ji13) - (wrap64 (a0 - (wrap64 (t116 * (ji13)))))))) = true := beq_iff_eq.mpr c24
                      have c24b1 : ((wrap64 (a0 - (wrap64 (t116 * (ji13))))) != (wrap64 ((ji13) - (wrap64 (a0 - (wrap64 (t116 * (ji13)))))))) = false := bne_eq_false_iff_eq.mpr c24
                      clear c24
                      by_cases c25 : (Int.tmod t116 2) = 0
                      · rw [if_pos c25] at H
                        have c25b0 : ((Int.tmod t116 2) == 0) = true := beq_iff_eq.mpr c25
                        have c25b1 : ((Int.tmod t116 2) != 0) = false := bne_eq_false_iff_eq.mpr c25
                        clear c25
                        obtain rfl := Option.some.inj H
                        go_wp2_with (first | ((with_reducible refine gate_callee (f := 41) rfl ?_); refine goesL_ (some 28) rfl rfl Try.func41 (by kernel_rfl) rfl #[.int .i64 a0, .int .i64 ji13] rfl (by (try simp only [List.map_toArray, List.map_cons, List.map_nil]); first | done | (simp only [hji13]; rfl) | rfl | (simp only [List.length_drop, List.length_take]; rfl)) ?_; (with_reducible refine (spec_l5Floor.calls a0 ji13 t116 _ A14.out).mono ?_); rintro e w' ⟨rfl, ⟨nd, rfl⟩⟩; refine ⟨_, rfl, ?_⟩))
                        go_ret
                        exact ⟨by first | rfl | (simp; done) | (simp only [← hji11, ← hji13] <;> (first | rfl | simp)) | (simp [*]; done), by repeat (first | exact Drawn0.refl _ | apply Drawn0.step)⟩
                      · rw [if_neg c25] at H
                        have c25b0 : ((Int.tmod t116 2) == 0) = false := beq_eq_false_iff_ne.mpr c25
                        have c25b1 : ((Int.tmod t116 2) != 0) = true := bne_iff_ne.mpr c25
                        obtain rfl := Option.some.inj H
                        go_wp2_with (first | ((with_reducible refine gate_callee (f := 41) rfl ?_); refine goesL_ (some 28) rfl rfl Try.func41 (by kernel_rfl) rfl #[.int .i64 a0, .int .i64 ji13] rfl (by (try simp only [List.map_toArray, List.map_cons, List.map_nil]); first | done | (simp only [hji13]; rfl) | rfl | (simp only [List.length_drop, List.length_take]; rfl)) ?_; (with_reducible refine (spec_l5Floor.calls a0 ji13 t116 _ A14.out).mono ?_); rintro e w' ⟨rfl, ⟨nd, rfl⟩⟩; refine ⟨_, rfl, ?_⟩))
                        go_ret
                        exact ⟨by first | rfl | (simp; done) | (simp only [← hji11, ← hji13] <;> (first | rfl | simp)) | (simp [*]; done), by repeat (first | exact Drawn0.refl _ | apply Drawn0.step)⟩
                    · rw [if_neg c24] at H
                      have c24b0 : ((wrap64 (a0 - (wrap64 (t116 * (ji13))))) == (wrap64 ((ji13) - (wrap64 (a0 - (wrap64 (t116 * (ji13)))))))) = false := beq_eq_false_iff_ne.mpr c24
                      have c24b1 : ((wrap64 (a0 - (wrap64 (t116 * (ji13))))) != (wrap64 ((ji13) - (wrap64 (a0 - (wrap64 (t116 * (ji13)))))))) = true := bne_iff_ne.mpr c24
                      obtain rfl := Option.some.inj H
                      go_wp2_with (first | ((with_reducible refine gate_callee (f := 41) rfl ?_); refine goesL_ (some 28) rfl rfl Try.func41 (by kernel_rfl) rfl #[.int .i64 a0, .int .i64 ji13] rfl (by (try simp only [List.map_toArray, List.map_cons, List.map_nil]); first | done | (simp only [hji13]; rfl) | rfl | (simp only [List.length_drop, List.length_take]; rfl)) ?_; (with_reducible refine (spec_l5Floor.calls a0 ji13 t116 _ A14.out).mono ?_); rintro e w' ⟨rfl, ⟨nd, rfl⟩⟩; refine ⟨_, rfl, ?_⟩))
                      go_ret
                      exact ⟨by first | rfl | (simp; done) | (simp only [← hji11, ← hji13] <;> (first | rfl | simp)) | (simp [*]; done), by repeat (first | exact Drawn0.refl _ | apply Drawn0.step)⟩
                · rw [if_neg c22] at H
                  have c22b0 : decide (0 < a1) = false := decide_eq_false c22
                  clear c22
                  obtain rfl := Option.some.inj H
                  go_wp2_with (first | ((with_reducible refine gate_callee (f := 41) rfl ?_); refine goesL_ (some 28) rfl rfl Try.func41 (by kernel_rfl) rfl #[.int .i64 a0, .int .i64 ji13] rfl (by (try simp only [List.map_toArray, List.map_cons, List.map_nil]); first | done | (simp only [hji13]; rfl) | rfl | (simp only [List.length_drop, List.length_take]; rfl)) ?_; (with_reducible refine (spec_l5Floor.calls a0 ji13 t116 _ A14.out).mono ?_); rintro e w' ⟨rfl, ⟨nd, rfl⟩⟩; refine ⟨_, rfl, ?_⟩))
                  go_ret
                  exact ⟨by first | rfl | (simp; done) | (simp only [← hji11, ← hji13] <;> (first | rfl | simp)) | (simp [*]; done), by repeat (first | exact Drawn0.refl _ | apply Drawn0.step)⟩
              · rw [if_neg c21] at H
                have c21b0 : (a2 == 4) = false := beq_eq_false_iff_ne.mpr c21
                have c21b1 : (a2 != 4) = true := bne_iff_ne.mpr c21
                obtain rfl := Option.some.inj H
                go_wp2_with (first | ((with_reducible refine gate_callee (f := 41) rfl ?_); refine goesL_ (some 28) rfl rfl Try.func41 (by kernel_rfl) rfl #[.int .i64 a0, .int .i64 ji13] rfl (by (try simp only [List.map_toArray, List.map_cons, List.map_nil]); first | done | (simp only [hji13]; rfl) | rfl | (simp only [List.length_drop, List.length_take]; rfl)) ?_; (with_reducible refine (spec_l5Floor.calls a0 ji13 t116 _ A14.out).mono ?_); rintro e w' ⟨rfl, ⟨nd, rfl⟩⟩; refine ⟨_, rfl, ?_⟩))
                go_ret
                exact ⟨by first | rfl | (simp; done) | (simp only [← hji11, ← hji13] <;> (first | rfl | simp)) | (simp [*]; done), by repeat (first | exact Drawn0.refl _ | apply Drawn0.step)⟩
        · rw [if_neg c12] at H
          exact absurd H (by simp)

end Go.Proofs.Ytgincgknmchedaa.QFnExactAdapt
