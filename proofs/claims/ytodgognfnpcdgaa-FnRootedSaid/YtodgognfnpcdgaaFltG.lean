/- The walk of PolyPair. -/
import Derived.Test.YtodgognfnpcdgaaFltF
namespace Go.Proofs.Ytodgognfnpcdgaa.FltG
open Go.RowKit Go.Proofs.Ytodgognfnpcdgaa.Flt Go.Proofs.Ytodgognfnpcdgaa.FltA Go.Proofs.Ytodgognfnpcdgaa.FltB Go.Proofs.Ytodgognfnpcdgaa.FltC Go.Proofs.Ytodgognfnpcdgaa.FltD Go.Proofs.Ytodgognfnpcdgaa.FltF Go.Proofs.YtodgognfnpcdgaaW.PrintWords Go.Proofs.YtodgognfnpcdgaaW.PrintLast Go.Proofs.YtodgognfnpcdgaaW.PrintMore
set_option linter.unusedVariables false
set_option linter.unusedSimpArgs false
attribute [local go_sem] run_store_float

/-- at the loop's head: s is what the numbers behind place k tell -/
def InPoly (w : World) (B : Nat) (x : Int × Int) (xs : List (Int × Int)) (k : Nat) (wx : World) : Prop :=
  ∃ p q a b r s, B < wx.heap.size ∧ Cell2 wx B p q ∧ Cell2 wx (w.heap.size + 1) a b ∧ Cell2 wx w.heap.size r s ∧ IsF p (evalC x (xs.drop k)).1 ∧ IsF q (evalC x (xs.drop k)).2 ∧ IsF r x.1 ∧ IsF s x.2 ∧ Below w.heap.size w wx

set_option maxHeartbeats 2000000 in
theorem poly_calls (A : Option Addr) (c : Nat) (xs : List (Int × Int)) (x : Int × Int) (p q : Nat) (w : World) (hr : cx.C w A xs.length xs) (hc : xs.length ≤ c) (h0 : 0 < xs.length) (h9 : xs.length ≤ 9) (hX : AllFit xs 390625) (hx : Fits x 2) (h1 : IsF p x.1) (h2 : IsF q x.2) :
    Calls Try.prog 17 #[.slice A xs.length c, .agg #[.float .f64 p, .float .f64 q]] w (RetC (evalC x xs) w) := by
  obtain ⟨ad, pl, ql, rfl, hl1, hl2, hl⟩ := cx_load hr (xs.length - 1) (by omega)
  have hb0 : Below w.heap.size w ((w.alloc (Obj.cells #[.float .f64 p, .float .f64 q] 26)).alloc (Obj.cells #[.float .f64 0, .float .f64 0] 26)) := by repeat (first | exact Below.refl _ _ | apply below_alloc)
  obtain ⟨hl3, hl4⟩ := hl _ hb0
  clear hl
  have hne : ((xs.length : Int) == 0) = false := by simp; intro h; simp [h] at h0
  have hne2 : ¬ xs = [] := fun h => by simp [h] at h0
  have hH0 : cx.C w (some ad) xs.length xs := hr
  clear hb0
  go_enter Try.func17, Try.ntmps17
  go_upto_region 4 with fail
  have hs0 : InPoly w (w.heap.size + 1 + 1) x xs (xs.length - 1) (((w.alloc (Obj.cells #[.float .f64 p, .float .f64 q] 26)).alloc (Obj.cells #[.float .f64 0, .float .f64 0] 26)).alloc (Obj.cells #[.float .f64 pl, .float .f64 ql] 26)) := by
    refine ⟨pl, ql, 0, 0, p, q, by simp, ⟨by simp [go_sem], by simp [go_sem], by simp [go_sem], by simp [go_sem]⟩, ⟨by simp [go_sem], by simp [go_sem], by simp [go_sem], by simp [go_sem]⟩, ⟨by simp [go_sem], by simp [go_sem], by simp [go_sem], by simp [go_sem]⟩, ?_, ?_, h1, h2, by repeat (first | exact Below.refl _ _ | apply below_alloc)⟩
    · rw [evalC_drop x xs _ (by omega), List.drop_of_length_le (by omega)]
      simpa [evalC, addC, mulC, zeroC] using hl1
    · rw [evalC_drop x xs _ (by omega), List.drop_of_length_le (by omega)]
      simpa [evalC, addC, mulC, zeroC] using hl2
  clear hl1 hl2 hl3 hl4 h1 h2 hne hne2
  go_wp2_with fail
  go_loopw [6] (fun v wr => ∃ j : Int, -1 ≤ j ∧ j < xs.length ∧ v = .int .i64 j ∧ InPoly w (w.heap.size + 1 + 1) x xs (j + 1).toNat wr) (fun v _ => (intOf v + 1).toNat)
  case atStart => exact ⟨(xs.length : Int) - 2, by omega, by omega, rfl, by rw [show ((xs.length : Int) - 2 + 1).toNat = xs.length - 1 by omega]; exact hs0⟩
  case round =>
    clear hs0
    obtain ⟨j, hj0, hj1, rfl, p1, q1, a, b, r, s, hB1, c5, c4, c3, f1, f2, f3, f4, hb⟩ := hrel
    by_cases hj : 0 ≤ j
    · obtain ⟨m, rfl⟩ := Int.eq_ofNat_of_zero_le hj
      have hm : m < xs.length := by omega
      obtain ⟨ad', pe, qe, ead, e1, e2, hl⟩ := cx_load hr m hm
      obtain rfl := Option.some.inj ead
      clear ead
      rw [show ((m : Int) + 1).toNat = m + 1 by omega] at f1 f2
      have hfe : Fits (evalC x (xs.drop (m + 1))) 762939453125 := by
        refine fits_mono (fits_eval hx (fun y hy => hX y (List.mem_of_mem_drop hy))) ?_
        have h5 : 5 ^ (xs.drop (m + 1)).length ≤ 5 ^ 8 := Nat.pow_le_pow_right (by omega) (by rw [List.length_drop]; omega)
        have h6 := Nat.mul_le_mul_right 390625 h5
        exact Nat.le_trans h6 (by decide)
      have hge : decide ((0 : Int) ≤ m) = true := decide_eq_true hj
      go_wp2_with fail
      refine start_ (n := 9) (S := fun w' => Below wr.heap.size wr w') (ds := [8]) #[false, false, false, false, false, false, false, false, false] (by kernel_rfl) rfl rfl (Below.drew (Below.refl _ _)) (fun hHeld => ?_)
      have hk0 := fun w' (h : Below wr.heap.size wr w') => (c5.below h hB1).1
      have hk1 := fun w' (h : Below wr.heap.size wr w') => (c5.below h hB1).2.1
      have hk2 := fun w' (h : Below wr.heap.size wr w') => (c3.below h (by omega)).1
      have hk3 := fun w' (h : Below wr.heap.size wr w') => (c3.below h (by omega)).2.1
      have hk4 := fun w' (h : Below wr.heap.size wr w') => (hl w' (below_step hb h)).1
      have hk5 := fun w' (h : Below wr.heap.size wr w') => (hl w' (below_step hb h)).2
      generalize wr.drew = w2 at hHeld ⊢
      refine take_ (i := 0) (N := some 29) (v := ?_) (a' := ?_) #[true, false, false, false, false, false, false, false, false] rfl rfl (by kernel_rfl) (fun _ _ _ h => h) (Or.inl ⟨by rfl, ?_⟩) hHeld ?_ ?_
      rotate_left
      · rintro w' hS_
        go_simp
        with_reducible rfl
      rotate_left
      · simp only [Act.put, List.setIfInBounds_toArray, List.set_cons_zero, List.set_cons_succ, i64_w, i32_w]
        rfl
      refine take_ (i := 1) (N := some 30) (v := ?_) (a' := ?_) #[true, true, false, false, false, false, false, false, false] rfl rfl (by kernel_rfl) (fun _ _ _ h => h) (Or.inl ⟨by rfl, ?_⟩) hHeld ?_ ?_
      rotate_left
      · rintro w' hS_
        go_simp
        with_reducible rfl
      rotate_left
      · simp only [Act.put, List.setIfInBounds_toArray, List.set_cons_zero, List.set_cons_succ, i64_w, i32_w]
        rfl
      refine take_ (i := 3) (N := some 32) (v := ?_) (a' := ?_) #[true, true, false, true, false, false, false, false, false] rfl rfl (by kernel_rfl) (fun _ _ _ h => h) (Or.inl ⟨by rfl, ?_⟩) hHeld ?_ ?_
      rotate_left
      · rintro w' hS_
        go_simp
        with_reducible rfl
      rotate_left
      · simp only [Act.put, List.setIfInBounds_toArray, List.set_cons_zero, List.set_cons_succ, i64_w, i32_w]
        rfl
      refine take_ (i := 4) (N := some 33) (v := ?_) (a' := ?_) #[true, true, false, true, true, false, false, false, false] rfl rfl (by kernel_rfl) (fun _ _ _ h => h) (Or.inl ⟨by rfl, ?_⟩) hHeld ?_ ?_
      rotate_left
      · rintro w' hS_
        go_simp
        with_reducible rfl
      rotate_left
      · simp only [Act.put, List.setIfInBounds_toArray, List.set_cons_zero, List.set_cons_succ, i64_w, i32_w]
        rfl
      refine take_ (i := 5) (N := some 34) (v := ?_) (a' := ?_) #[true, true, false, true, true, true, false, false, false] rfl rfl (by kernel_rfl) (fun _ _ _ h => h) (Or.inl ⟨by rfl, ?_⟩) hHeld ?_ ?_
      rotate_left
      · rintro w' hS_
        go_simp
        with_reducible rfl
      rotate_left
      · simp only [Act.put, List.setIfInBounds_toArray, List.set_cons_zero, List.set_cons_succ, i64_w, i32_w]
        rfl
      refine take_ (i := 6) (N := some 35) (v := ?_) (a' := ?_) #[true, true, false, true, true, true, true, false, false] rfl rfl (by kernel_rfl) (fun _ _ _ h => h) (Or.inl ⟨by rfl, ?_⟩) hHeld ?_ ?_
      rotate_left
      · rintro w' hS_
        go_simp
        with_reducible rfl
      rotate_left
      · simp only [Act.put, List.setIfInBounds_toArray, List.set_cons_zero, List.set_cons_succ, i64_w, i32_w]
        rfl
      refine one_ (i := 2) (N := some 31) #[true, true, true, true, true, true, true, false, false] rfl rfl (by kernel_rfl) (by decide) (fun K hK => ?_)
      refine goes_ Try.func14 (by kernel_rfl) rfl #[.agg #[.float .f64 p1, .float .f64 q1], .agg #[.float .f64 r, .float .f64 s]] (by rfl) rfl rfl (by (try simp only [List.map_toArray, List.map_cons, List.map_nil]); first | done | rfl) ?_
      refine (mul_calls (evalC x (xs.drop (m + 1))) x 762939453125 2 p1 q1 r s _ hfe hx (by omega) f1 f2 f3 f4).mono ?_
      rintro e w3 ⟨p3, q3, rfl, m1, m2, hb3⟩
      refine ⟨_, rfl, ?_⟩
      have hB3 := (bstep (n := wr.heap.size) (w := wr) hHeld hb3 hHeld.size).1
      clear hb3 hHeld
      refine hK.out _ _ hB3 (fun hHeld => ?_)
      clear hK K
      refine norm_ (a' := ?_) ?_ ?_
      rotate_left
      · show Act.put _ (some 31) _ = _
        simp only [Act.put, List.setIfInBounds_toArray, List.set_cons_zero, List.set_cons_succ, i64_w, i32_w]
        rfl
      refine one_ (i := 7) (N := some 36) #[true, true, true, true, true, true, true, true, false] rfl rfl (by kernel_rfl) (by decide) (fun K hK => ?_)
      refine goes_ Try.func35 (by kernel_rfl) rfl #[.agg #[.float .f64 p3, .float .f64 q3], .agg #[.float .f64 pe, .float .f64 qe]] (by rfl) rfl rfl (by (try simp only [List.map_toArray, List.map_cons, List.map_nil]); first | done | rfl) ?_
      refine (add_calls (mulC (evalC x (xs.drop (m + 1))) x) (xs.getD m zeroC) 3051757812500 390625 p3 q3 pe qe _ (fits_mono (fits_mul hfe hx) (by omega)) (hX.get m) (by omega) m1 m2 e1 e2).mono ?_
      rintro e w4 ⟨p4, q4, rfl, m3, m4, hb4⟩
      refine ⟨_, rfl, ?_⟩
      have hB4 := (bstep (n := wr.heap.size) (w := wr) hB3 hb4 hB3.size).1
      clear hb4 hB3
      refine hK.out _ _ hB4 (fun hHeld => ?_)
      clear hK K
      refine norm_ (a' := ?_) ?_ ?_
      rotate_left
      · show Act.put _ (some 36) _ = _
        simp only [Act.put, List.setIfInBounds_toArray, List.set_cons_zero, List.set_cons_succ, i64_w, i32_w]
        rfl
      rw [← evalC_drop x xs m hm] at m3 m4
      have hc5 := c5.below hHeld hB1
      have hc4 := c4.below hHeld (by omega)
      have hc3 := c3.below hHeld (by omega)
      have hc5w := hc5
      obtain ⟨y0, y1, y2, y3⟩ := hc5w
      have hsz := hHeld.size
      refine last_ (i := 8) (N := none) #[true, true, true, true, true, true, true, true, true] rfl rfl (by kernel_rfl) (by decide) (fun K hK => ?_)
      refine skip_ (w1 := ?_) (by rfl) rfl ?_ ?_
      rotate_left
      · go_simp
        rfl
      refine hK.out _ _ ?_
      clear hK K
      refine done_ (by kernel_rfl) ?_
      clear y0 y1 y2 y3 hk0 hk1 hk2 hk3 hk4 hk5
      go_wp2_with fail
      go_roundw
      case rel => exact ⟨(m : Int) - 1, by omega, by omega, by go_num, p4, q4, a, b, r, s, by first | omega | (simp; done) | (simp; omega), hc5.same _ _, hc4.other _ _ (by omega), hc3.other _ _ (by omega), by rw [show ((m : Int) - 1 + 1).toNat = m by omega]; exact m3, by rw [show ((m : Int) - 1 + 1).toNat = m by omega]; exact m4, f3, f4, ((below_step hb hHeld).setCell (by first | omega | (simp; done) | (simp; omega)) _).setCell (by first | omega | (simp; done) | (simp; omega)) _⟩
      case measure => (simp [intOf]; try omega)
    · obtain rfl : j = -1 := by omega
      have hlt : decide ((0 : Int) ≤ -1) = false := by decide
      obtain ⟨y0, y1, y2, y3⟩ := c5
      obtain ⟨z0, z1, z2, z3⟩ := c4
      go_wp2_with fail
      refine bodyPost_ret (v := .agg #[.float .f64 p1, .float .f64 q1]) (by simp [results, Try.results17, go_sem, z0, z1]) rfl ⟨_, _, rfl, f1, f2, ?_⟩
      repeat (first | exact hb | (refine Below.setCell ?_ (by first | omega | (simp; done) | (simp; omega)) _))
end Go.Proofs.Ytodgognfnpcdgaa.FltG
