/- The walk of FnPowers. -/
import Derived.Test.YtodgognfnpcdgaaFltD
namespace Go.Proofs.Ytodgognfnpcdgaa.FltE
open Go.RowKit Go.Proofs.Ytodgognfnpcdgaa.Flt Go.Proofs.Ytodgognfnpcdgaa.FltA Go.Proofs.Ytodgognfnpcdgaa.FltB Go.Proofs.Ytodgognfnpcdgaa.FltC Go.Proofs.Ytodgognfnpcdgaa.FltD Go.Proofs.YtodgognfnpcdgaaW.PrintWords Go.Proofs.YtodgognfnpcdgaaW.PrintLast Go.Proofs.Ytodgognfnpcdgaa.PFnDivided
set_option linter.unusedVariables false
set_option linter.unusedSimpArgs false
attribute [local go_sem] run_store_float

theorem pow_calls' (z : Int × Int) (n : Int) (p q : Nat) (w : World) (hz : Fits z 2) (h0 : 0 ≤ n) (hn : n ≤ 16) (h1 : IsF p z.1) (h2 : IsF q z.2) :
    Calls Try.prog 15 #[.agg #[.float .f64 p, .float .f64 q], .int .i64 n] w (RetC (powC z n.toNat) w) := by
  have := pow_calls z n.toNat p q w hz (by omega) h1 h2
  rwa [show ((n.toNat : Nat) : Int) = n by omega] at this

/-- behind the third statement: y = a^m a^n in a block of its own -/
def YBox (w w5 wx : World) (s7 : Value) (u : Int × Int) : Prop :=
  ∃ B p q, s7 = .pointer (some ⟨B, 0, none⟩) ∧ Cell2 wx B p q ∧ IsF p u.1 ∧ IsF q u.2 ∧ Below w5.heap.size w5 wx ∧ w5.heap.size ≤ B ∧ B < wx.heap.size

set_option maxHeartbeats 1000000 in
theorem powers_calls {A : Option Addr} {c : Nat} {l : List Int} (w : World) (h : Code0 w A c l) :
    Calls Try.prog 4 #[.slice A l.length c] w fun e w' => e = .returned (.bool true) ∧ Below w.heap.size w w' := by
  by_cases hbig : (l.length : Int) > 1048576
  · go_enter Try.func4, Try.ntmps4
    go_wp2_with (go_at_call 8; refine (laws_big.calls A c l true w h.row h.cap (by unfold laws_big.f; rw [decide_eq_true hbig])).mono ?_; rintro e w' ⟨rfl, ⟨n, rfl⟩⟩)
    go_ret
    exact ⟨rfl, by repeat (first | exact Below.refl _ _ | apply below_alloc | apply below_drew1 | apply pw_below_drewN)⟩
  · go_enter Try.func4, Try.ntmps4
    go_wp2_with (go_at_call 8; refine (laws_big.calls A c l false w h.row h.cap (by unfold laws_big.f; rw [decide_eq_false hbig])).mono ?_; rintro e w' ⟨rfl, ⟨n, rfl⟩⟩)
    refine (gauss_calls w h 0 (by omega) (by omega) _ (by repeat (first | exact Below.refl _ _ | apply below_alloc | apply below_drew1 | apply pw_below_drewN))).mono ?_
    rintro e w1 ⟨z, hz, p, q, rfl, hp, hq, hb1⟩
    have hb : Below w.heap.size w w1 := (bstep (w1 := w.drewN n) (by repeat (first | exact Below.refl _ _ | apply below_alloc | apply below_drew1 | apply pw_below_drewN)) hb1 (by simp)).1
    clear hb1
    go_upto_region 4 with fail
    have ca := Cell2.new w1 p q
    replace hb := Below.alloc hb hb.size (Obj.cells #[.float .f64 p, .float .f64 q] 26)
    have hz1 : w1.heap.size < (w1.alloc (Obj.cells #[.float .f64 p, .float .f64 q] 26)).heap.size := by simp
    generalize hB : w1.heap.size = BA at *
    clear hB
    generalize w1.alloc (Obj.cells #[.float .f64 p, .float .f64 q] 26) = wa at *
    go_wp2_with fail
    refine (at_calls' w h 2 (by omega) (by omega) _ hb).mono ?_
    rintro e w2 ⟨v, rfl, hv0, hv1, hb2⟩
    replace ca := ca.below hb2 hz1
    obtain ⟨hb, hz2⟩ := bstep hb hb2 hb.size
    clear hb2
    go_wp2_with fail
    refine (at_calls' w h 3 (by omega) (by omega) _ hb).mono ?_
    rintro e w3 ⟨u, rfl, hu0, hu1, hb3⟩
    replace ca := ca.below hb3 (by omega)
    obtain ⟨hb, hz3⟩ := bstep hb hb3 hb.size
    clear hb3
    have hm : 0 ≤ v % 9 ∧ v % 9 ≤ 8 := by omega
    have hn : 0 ≤ u % 9 ∧ u % 9 ≤ 8 := by omega
    obtain ⟨c0, c1, c2, c3⟩ := ca
    go_wp2_with fail
    refine (pow_calls' z (v % 9 + u % 9) p q _ hz (by omega) (by omega) hp hq).mono ?_
    rintro e w4 ⟨px, qx, rfl, hx1, hx2, hb4⟩
    replace ca := Cell2.below ⟨c0, c1, c2, c3⟩ hb4 (by omega)
    obtain ⟨hb, hz4⟩ := bstep hb hb4 hb.size
    clear hb4 c0 c1 c2 c3
    go_upto_region 6 with fail
    have cx := Cell2.new w4 px qx
    replace ca := ca.below (Below.alloc (Below.refl w4.heap.size w4) (Nat.le_refl _) (Obj.cells #[.float .f64 px, .float .f64 qx] 26)) (by omega)
    replace hb := Below.alloc hb hb.size (Obj.cells #[.float .f64 px, .float .f64 qx] 26)
    have hz5 : w4.heap.size < (w4.alloc (Obj.cells #[.float .f64 px, .float .f64 qx] 26)).heap.size := by simp
    have hAX : BA < w4.heap.size := by omega
    generalize hB : w4.heap.size = BX at *
    clear hB hz4
    generalize w4.alloc (Obj.cells #[.float .f64 px, .float .f64 qx] 26) = w5 at *
    have hk0 := fun w' (h : Below w5.heap.size w5 w') => (ca.below h (by omega)).1
    have hk1 := fun w' (h : Below w5.heap.size w5 w') => (ca.below h (by omega)).2.1
    have hz0 := Below.refl w5.heap.size w5
    go_cut [7] (fun s7 wx => YBox w w5 wx s7 (mulC (powC z (v % 9).toNat) (powC z (u % 9).toNat)))
    case first =>
      go_region_held3 (fun w' => Below w5.heap.size w5 w') ((repeat (first | assumption | apply Below.drew | (refine Below.setCell ?_ (by first | omega | (simp; done) | (simp; omega)) _) | (refine Below.alloc ?_ (by first | omega | (simp; done) | (simp; omega)) _))))
        (first
          | (go_at_call 15; (with_reducible refine (pow_calls' z (v % 9) p q _ hz hm.1 (by omega) hp hq).mono ?_); rintro e w6 ⟨p6, q6, rfl, m1, m2, hb6⟩; obtain ⟨hc6, hf6⟩ := bcell _ (Nat.le_refl _) hb6; obtain ⟨hB6, hz6⟩ := bstep (n := w5.heap.size) (w := w5) (by assumption) hb6 (by first | omega | (simp; done) | (simp; omega)); have hs6 := hB6.size; simp at hz6; (try (have hy6 : w5.heap.size < w6.heap.size := by omega)))
          | (go_at_call 15; (with_reducible refine (pow_calls' z (u % 9) p q _ hz hn.1 (by omega) hp hq).mono ?_); rintro e w7 ⟨p7, q7, rfl, m3, m4, hb7⟩; obtain ⟨hc7, hf7⟩ := bcell _ (Nat.le_refl _) hb7; obtain ⟨hB7, hz7⟩ := bstep (n := w5.heap.size) (w := w5) (by assumption) hb7 (by first | omega | (simp; done) | (simp; omega)); have hs7 := hB7.size; (try simp at hz7); (try (have hy7 : w6.heap.size < w7.heap.size := by omega)); (try (have hx7 : w5.heap.size < w7.heap.size := by omega)))
          | (go_at_call 14; refine (mul_calls (powC z (v % 9).toNat) (powC z (u % 9).toNat) 16777216 16777216 p6 q6 p7 q7 _ (powC_fits hz (by omega)) (powC_fits hz (by omega)) (by omega) m1 m2 m3 m4).mono ?_; rintro e w8 ⟨p8, q8, rfl, m5, m6, hb8⟩; obtain ⟨hc8, hf8⟩ := bcell _ (Nat.le_refl _) hb8; obtain ⟨hB8, hz8⟩ := bstep (n := w5.heap.size) (w := w5) (by assumption) hb8 (by first | omega | (simp; done) | (simp; omega)); have hs8 := hB8.size; (try simp at hz8)))
      all_goals
        go_wp2_with fail
        go_meet
        refine ⟨_, p8, q8, rfl, ?_, m5, m6, by assumption, by omega, by first | omega | (simp; done) | (simp; omega)⟩
        first
          | exact Cell2.new _ _ _
          | (refine ⟨?_, ?_, ?_, ?_⟩ <;> simp [hc8, hf8, hc7, hf7, hc6, hf6, hz8, go_sem, *]; done)
    case rest =>
      obtain ⟨BY, py, qy, rfl, cy, y1, y2, hbc, hy1, hy2⟩ := hcut
      clear hk0 hk1 hz0
      obtain ⟨hb, hz6⟩ := bstep hb hbc hb.size
      replace ca := ca.below hbc (by omega)
      replace cx := cx.below hbc (by omega)
      clear hbc
      have hkey : mulC (powC z (v % 9).toNat) (powC z (u % 9).toNat) = powC z (v % 9 + u % 9).toNat := by
        rw [← powC_add]; congr 1; omega
      rw [hkey] at y1 y2
      clear hkey
      go_wp2_with fail
      go_loopw [8, 9] (fun f i wr => ∃ k : Nat, k ≤ (v % 9 + u % 9).toNat ∧ i = .int .i64 k ∧ ∃ t, f = .float .f64 t ∧ IsF t (pow2C z ^ k) ∧ Below wc.heap.size wc wr) (fun _ i _ => ((v % 9 + u % 9) - intOf i).toNat)
      case atStart => exact ⟨0, by omega, rfl, _, rfl, by rw [Int.pow_zero]; exact one_int, Below.refl _ _⟩
      case round =>
        obtain ⟨k, hk, rfl, t, rfl, ht, hbr⟩ := hrel
        have cr := ca.below hbr (by omega)
        by_cases hlt : (k : Int) < v % 9 + u % 9
        · obtain ⟨c0, c1, c2, c3⟩ := cr
          go_wp2_with fail
          refine (power2_calls z 2 p q _ hz (by omega) hp hq).mono ?_
          rintro e w9 ⟨tp, rfl, htp, hb9⟩
          obtain ⟨hbr, hz9⟩ := bstep hbr hb9 hbr.size
          have hN := pow2_of hz
          have hpw := pow_le8 hN.1 hN.2 (k + 1)
          have hpl := pow8_le (n := k + 1) (by omega)
          have hq : (pow2C z ^ (k + 1)).natAbs < 9007199254740992 := by
            generalize pow2C z ^ (k + 1) = Q at *
            generalize (8 : Int) ^ (k + 1) = R at *
            omega
          obtain ⟨r, er, hr⟩ := mul_int ht htp (by rw [← Int.pow_succ]; exact hq)
          clear hq
          rw [← Int.pow_succ] at hr
          have o1 : ∀ u w, (binOp .mul u (.float .f64 t) (.float .f64 tp)).run Try.prog w = .ok (.float .f64 r) w := fun _ w => run_float_arith w .mul _ .f64 _ _ _ er
          clear er hpw hpl hN hb9
          go_wp2_with (simp only [o1])
          go_roundw
          case rel => exact ⟨k + 1, by omega, by go_num, r, rfl, hr, hbr⟩
          case measure => simp [intOf]; omega
        · have hke : (v % 9 + u % 9).toNat = k := by omega
          rw [hke] at y1 y2 hx1 hx2
          clear hke
          have cX := cx.below hbr (by omega)
          have cY := cy.below hbr (by omega)
          obtain ⟨a0, a1, a2, a3⟩ := cX
          obtain ⟨b0, b1, b2, b3⟩ := cY
          go_wp2_with fail
          refine (equal_same (powC z k) px qx py qy _ hx1 hx2 y1 y2).mono ?_
          rintro e w9 ⟨rfl, hb9⟩
          replace cX := Cell2.below ⟨a0, a1, a2, a3⟩ hb9 (by have := hbr.size; omega)
          obtain ⟨hbr, hz9⟩ := bstep hbr hb9 hbr.size
          clear a0 a1 a2 a3 b0 b1 b2 b3 hb9 cr
          obtain ⟨a0, a1, a2, a3⟩ := cX
          go_wp2_with fail
          refine (power2_calls (powC z k) 16777216 px qx _ (powC_fits hz (by omega)) (by omega) hx1 hx2).mono ?_
          rintro e w10 ⟨tp, rfl, htp, hb10⟩
          obtain ⟨hbr, hz10⟩ := bstep hbr hb10 hbr.size
          clear a0 a1 a2 a3 hb10
          rw [pow2_pow] at htp
          have ho : (FloatKind.f64.format.order tp t == some .eq) = true := by rw [order_int htp ht]; simp
          go_wp2_with fail
          refine (pow_calls' (0, 1) 3 0 4607182418800017408 _ ⟨by decide, by decide⟩ (by omega) (by omega) zero_int one_int).mono ?_
          rintro e w11 ⟨p3, q3, rfl, k1, k2, hb11⟩
          rw [show powC (0, 1) (Int.toNat 3) = (0, -1) by decide] at k1 k2
          obtain ⟨hbr, hz11⟩ := bstep hbr hb11 hbr.size
          clear hb11
          go_wp2_with fail
          refine (equal_same (0, -1) p3 q3 0 13830554455654793216 _ k1 k2 zero_int minus_int).mono ?_
          rintro e w12 ⟨rfl, hb12⟩
          obtain ⟨hbr, hz12⟩ := bstep hbr hb12 hbr.size
          clear hb12
          go_wp2_with fail
          go_ret
          exact ⟨rfl, below_step hb hbr⟩
end Go.Proofs.Ytodgognfnpcdgaa.FltE
