/- Powers of pairs of whole numbers: the plain part and the walk of PowPair. -/
import Derived.Test.YtodgognfnpcdgaaFltC
import Derived.Deep.LoopGhost
import Derived.Lib.Hide
namespace Go.Proofs.Ytodgognfnpcdgaa.FltD
open Go.RowKit Go.Proofs.Ytodgognfnpcdgaa.Flt Go.Proofs.Ytodgognfnpcdgaa.FltA Go.Proofs.Ytodgognfnpcdgaa.FltB Go.Proofs.Ytodgognfnpcdgaa.FltC Go.Proofs.YtodgognfnpcdgaaW.PrintWords
set_option linter.unusedVariables false
set_option linter.unusedSimpArgs false
attribute [local go_sem] run_store_float

def powC (z : Int × Int) : Nat → Int × Int
  | 0 => (1, 0)
  | n + 1 => mulC (powC z n) z
theorem mulC_one (z : Int × Int) : mulC z (1, 0) = z := by unfold mulC; simp
theorem one_mulC (z : Int × Int) : mulC (1, 0) z = z := by unfold mulC; simp
theorem mulC_assoc (a b c : Int × Int) : mulC (mulC a b) c = mulC a (mulC b c) := by
  simp only [mulC]; congr 1 <;> grind
theorem powC_add (z : Int × Int) (m n : Nat) : powC z (m + n) = mulC (powC z m) (powC z n) := by
  induction n with
  | zero => exact (mulC_one _).symm
  | succ n ih => show mulC (powC z (m + n)) z = mulC (powC z m) (mulC (powC z n) z); rw [ih, mulC_assoc]
theorem pow2_mul (a b : Int × Int) : pow2C (mulC a b) = pow2C a * pow2C b := by
  simp only [mulC, pow2C]; grind
theorem pow2_pow (z : Int × Int) (n : Nat) : pow2C (powC z n) = pow2C z ^ n := by
  induction n with
  | zero => rw [Int.pow_zero]; rfl
  | succ n ih => show pow2C (mulC (powC z n) z) = _; rw [pow2_mul, ih, Int.pow_succ]
theorem sq_nonneg (x : Int) : 0 ≤ x * x := by rw [← Int.natAbs_mul_self]; omega
theorem sq_le {x : Int} {X : Nat} (h : x * x ≤ (X : Int) * X) : x.natAbs ≤ X := by
  refine Classical.byContradiction fun hc => ?_
  have h1 : (X + 1) * (X + 1) ≤ x.natAbs * x.natAbs := Nat.mul_le_mul (by omega) (by omega)
  have h2 : ((x.natAbs * x.natAbs : Nat) : Int) = x * x := by rw [← Int.natAbs_mul]; have := sq_nonneg x; omega
  have h3 : (((X + 1) * (X + 1) : Nat) : Int) = (X : Int) * X + 2 * X + 1 := by push_cast; grind
  omega
theorem pow_le8 {x : Int} (h0 : 0 ≤ x) (h : x ≤ 8) (n : Nat) : 0 ≤ x ^ n ∧ x ^ n ≤ 8 ^ n := by
  induction n with
  | zero => simp
  | succ n ih =>
    rw [Int.pow_succ, Int.pow_succ]
    exact ⟨Int.mul_nonneg ih.1 h0, Int.mul_le_mul ih.2 h h0 (by have := ih.1; have := ih.2; omega)⟩
theorem pow8_le {n : Nat} (h : n ≤ 16) : (8 : Int) ^ n ≤ 281474976710656 := by
  have h1 : (8 : Nat) ^ n ≤ 281474976710656 := Nat.le_trans (Nat.pow_le_pow_right (by omega) h) (by decide)
  have h2 : (8 : Int) ^ n = ((8 ^ n : Nat) : Int) := by rw [Int.natCast_pow]; rfl
  rw [h2]; omega
theorem powC_fits {z : Int × Int} (hz : Fits z 2) {n : Nat} (hn : n ≤ 16) : Fits (powC z n) 16777216 := by
  have h1 := pow2_of hz
  have h2 := pow_le8 h1.1 h1.2 n
  have h3 := pow8_le hn
  rw [← pow2_pow] at h2
  unfold pow2C at h2
  have a := sq_nonneg (powC z n).1
  have b := sq_nonneg (powC z n).2
  have e : ((16777216 : Nat) : Int) = 16777216 := rfl
  exact ⟨sq_le (by rw [e]; omega), sq_le (by rw [e]; omega)⟩

/-- a pair of floats lies in block B -/
def Cell2 (w : World) (B p q : Nat) : Prop := w.cell? ⟨B, 0, none⟩ = some (.float .f64 p) ∧ w.cell? ⟨B, 1, none⟩ = some (.float .f64 q) ∧ w.frozen? ⟨B, 0, none⟩ = false ∧ w.frozen? ⟨B, 1, none⟩ = false
theorem Cell2.below {n : Nat} {w w' : World} {B p q : Nat} (h : Cell2 w B p q) (hb : Below n w w') (hB : B < n) : Cell2 w' B p q :=
  ⟨(hb.cell (p := ⟨B, 0, none⟩) hB).trans h.1, (hb.cell (p := ⟨B, 1, none⟩) hB).trans h.2.1, (hb.frozen (p := ⟨B, 0, none⟩) hB).trans h.2.2.1, (hb.frozen (p := ⟨B, 1, none⟩) hB).trans h.2.2.2⟩
theorem Cell2.same {w : World} {B p q : Nat} (r s : Nat) (h : Cell2 w B p q) : Cell2 ((w.setCell ⟨B, 0, none⟩ (.float .f64 r)).setCell ⟨B, 1, none⟩ (.float .f64 s)) B r s := by
  obtain ⟨h1, h2, h3, h4⟩ := h
  refine ⟨?_, ?_, ?_, ?_⟩ <;> simp [h1, h2, h3, h4, go_sem]
theorem Cell2.other {w : World} {B C p q : Nat} (r s : Value) (h : Cell2 w B p q) (hn : B ≠ C) : Cell2 ((w.setCell ⟨C, 0, none⟩ r).setCell ⟨C, 1, none⟩ s) B p q := by
  obtain ⟨h1, h2, h3, h4⟩ := h
  refine ⟨?_, ?_, ?_, ?_⟩ <;> simp [h1, h2, h3, h4, go_sem, Ne.symm hn]
theorem Cell2.new (w : World) (p q : Nat) : Cell2 (w.alloc (.cells #[.float .f64 p, .float .f64 q] 26)) w.heap.size p q := by
  refine ⟨?_, ?_, ?_, ?_⟩ <;> simp [go_sem]

/-- the two variables of PowPair's loop -/
def Boxes (w wx : World) (s5 s6 : Value) (z u : Int × Int) : Prop :=
  ∃ B C p q r s a b, s5 = .pointer (some ⟨B, 0, none⟩) ∧ s6 = .pointer (some ⟨C, 0, none⟩) ∧ w.heap.size + 1 < B ∧ w.heap.size + 1 < C ∧ B ≠ C ∧ B < wx.heap.size ∧ C < wx.heap.size ∧ Cell2 wx B p q ∧ Cell2 wx C r s ∧ Cell2 wx (w.heap.size + 1) a b ∧ IsF p z.1 ∧ IsF q z.2 ∧ IsF r u.1 ∧ IsF s u.2 ∧ Below w.heap.size w wx

/-- at the loop's head: r = z^i, s = z^j, i + j k = n -/
def InLoop (w : World) (B C : Nat) (z : Int × Int) (n k : Nat) (wx : World) : Prop :=
  ∃ i j p q r s a b, i + j * k = n ∧ k ≤ 16 ∧ (0 < k → j ≤ 16) ∧ B < wx.heap.size ∧ C < wx.heap.size ∧ Cell2 wx B p q ∧ Cell2 wx C r s ∧ Cell2 wx (w.heap.size + 1) a b ∧ IsF p (powC z i).1 ∧ IsF q (powC z i).2 ∧ IsF r (powC z j).1 ∧ IsF s (powC z j).2 ∧ Below w.heap.size w wx

set_option maxHeartbeats 1000000 in
theorem pow_calls (z : Int × Int) (n : Nat) (p q : Nat) (w : World) (hz : Fits z 2) (hn : n ≤ 16) (h1 : IsF p z.1) (h2 : IsF q z.2) :
    Calls Try.prog 15 #[.agg #[.float .f64 p, .float .f64 q], .int .i64 n] w (RetC (powC z n) w) := by
  go_enter Try.func15, Try.ntmps15
  go_upto_region 3 with fail
  go_cut [5, 6] (fun s5 s6 wx => Boxes w wx s5 s6 (1, 0) z)
  case first =>
    go_region
    all_goals (go_wp2_with fail; go_meet)
    · exact ⟨w.heap.size + 1 + 1, w.heap.size + 1 + 1 + 1, 4607182418800017408, 0, p, q, 0, 0, rfl, rfl, by omega, by omega, by omega, by simp, by simp, ⟨by simp [go_sem], by simp [go_sem], by simp [go_sem], by simp [go_sem]⟩, ⟨by simp [go_sem], by simp [go_sem], by simp [go_sem], by simp [go_sem]⟩, ⟨by simp [go_sem], by simp [go_sem], by simp [go_sem], by simp [go_sem]⟩, one_int, zero_int, h1, h2, by repeat (first | exact Below.refl _ _ | apply below_alloc | apply below_drew1)⟩
    · exact ⟨w.heap.size + 1 + 1 + 1, w.heap.size + 1 + 1, 4607182418800017408, 0, p, q, 0, 0, rfl, rfl, by omega, by omega, by omega, by simp, by simp, ⟨by simp [go_sem], by simp [go_sem], by simp [go_sem], by simp [go_sem]⟩, ⟨by simp [go_sem], by simp [go_sem], by simp [go_sem], by simp [go_sem]⟩, ⟨by simp [go_sem], by simp [go_sem], by simp [go_sem], by simp [go_sem]⟩, one_int, zero_int, h1, h2, by repeat (first | exact Below.refl _ _ | apply below_alloc | apply below_drew1)⟩
  case rest =>
    obtain ⟨B, C, x, y, r, s, a, b, rfl, rfl, hB, hC, hBC, hB1, hC1, c1, c2, c3, f1, f2, f3, f4, hb⟩ := hcut
    go_wp2_with fail
    go_loopw [1] (fun v wr => ∃ k : Nat, v = .int .i64 k ∧ InLoop w B C z n k wr) (fun v _ => (intOf v).toNat)
    case atStart => exact ⟨n, rfl, 0, 1, x, y, r, s, a, b, by omega, hn, by omega, hB1, hC1, c1, c2, c3, f1, f2, by rw [show powC z 1 = mulC (1, 0) z from rfl, one_mulC]; exact f3, by rw [show powC z 1 = mulC (1, 0) z from rfl, one_mulC]; exact f4, hb⟩
    case round =>
      clear f1 f2 f3 f4 c1 c2 c3 hB1 hC1 hb
      obtain ⟨k, rfl, i, j, x, y, r, s, a, b, hij, hk16, hk, hB1, hC1, c1, c2, c3, f1, f2, f3, f4, hb⟩ := hrel
      by_cases hk0 : k = 0
      · subst hk0
        obtain rfl : i = n := by omega
        obtain ⟨g0, g1, g2, g3⟩ := c1
        obtain ⟨l0, l1, l2, l3⟩ := c3
        go_wp2_with fail
        refine bodyPost_ret (v := .agg #[.float .f64 x, .float .f64 y]) (by simp [results, Try.results15, go_sem, l0, l1]) rfl ⟨_, _, rfl, f1, f2, ?_⟩
        repeat (first | exact hb | (refine Below.setCell ?_ (by first | omega | (simp; done) | (simp; omega)) _))
      · have hj := hk (by omega)
        have hi : i ≤ 16 := by omega
        by_cases hodd : k % 2 = 1
        · have hd : ((k : Int) % 2 == 1) = true := by simp; omega
          have hnext : (i + j) + (j + j) * (k / 2) = n := by
            have : k = 2 * (k / 2) + 1 := by omega
            generalize k / 2 = m at *
            subst this
            rw [← hij]; grind
          have H := Lib.hid hnext
          by_cases hk1 : k ≤ 1
          · have H0 := Lib.hid (show (i + j) + j * (k / 2) = n by rw [← hnext, show k / 2 = 0 by omega, Nat.mul_zero, Nat.mul_zero])
            have hq : decide (0 < (k : Int) / 2) = false := decide_eq_false (by omega)
            have hq2 : decide (0 < k / 2) = false := decide_eq_false (by omega)
            clear hnext hij hk hodd
            obtain ⟨x0, x1, x2, x3⟩ := c1
            have c2w := c2
            obtain ⟨r0, r1, r2, r3⟩ := c2
            go_wp2_with fail
            refine (mul_calls (powC z i) (powC z j) 16777216 16777216 x y r s _ (powC_fits hz hi) (powC_fits hz hj) (by omega) f1 f2 f3 f4).mono ?_
            rintro e w1 ⟨p1, q1, rfl, m1, m2, hb1⟩
            rw [← powC_add] at m1 m2
            have d1 := Cell2.below ⟨x0, x1, x2, x3⟩ hb1 hB1
            have d2 := c2w.below hb1 hC1
            have d3 := c3.below hb1 (by omega)
            obtain ⟨hb, hz1⟩ := bstep hb hb1 hb.size
            clear x0 x1 x2 x3 r0 r1 r2 r3 hb1 c3 f1 f2 c2w
            have d1w := d1
            obtain ⟨x0, x1, x2, x3⟩ := d1w
            go_wp2_with fail
            go_roundw
            case rel => exact ⟨k / 2, by go_num, i + j, j, p1, q1, r, s, a, b, H0.out, by omega, by omega, by first | omega | (simp; done) | (simp; omega), by first | omega | (simp; done) | (simp; omega), d1.same _ _, d2.other _ _ (Ne.symm hBC), d3.other _ _ (by omega), m1, m2, f3, f4, (hb.setCell (by first | omega | (simp; done) | (simp; omega)) _).setCell (by first | omega | (simp; done) | (simp; omega)) _⟩
            case measure => simp [intOf]; omega
          · have hjj : j + j ≤ 16 := by
              have : (j + j) * 1 ≤ (j + j) * (k / 2) := Nat.mul_le_mul_left _ (by omega)
              omega
            have hq : decide (0 < (k : Int) / 2) = true := decide_eq_true (by omega)
            have hq2 : decide (0 < k / 2) = true := decide_eq_true (by omega)
            clear hnext hij hk hodd
            obtain ⟨x0, x1, x2, x3⟩ := c1
            have c2w := c2
            obtain ⟨r0, r1, r2, r3⟩ := c2
            go_wp2_with fail
            refine (mul_calls (powC z i) (powC z j) 16777216 16777216 x y r s _ (powC_fits hz hi) (powC_fits hz hj) (by omega) f1 f2 f3 f4).mono ?_
            rintro e w1 ⟨p1, q1, rfl, m1, m2, hb1⟩
            rw [← powC_add] at m1 m2
            have d1 := Cell2.below ⟨x0, x1, x2, x3⟩ hb1 hB1
            have d2 := c2w.below hb1 hC1
            have d3 := c3.below hb1 (by omega)
            obtain ⟨hb, hz1⟩ := bstep hb hb1 hb.size
            clear x0 x1 x2 x3 r0 r1 r2 r3 hb1 c3 f1 f2 c2w
            have d1w := d1
            obtain ⟨x0, x1, x2, x3⟩ := d1w
            have d2w := d2
            obtain ⟨r0, r1, r2, r3⟩ := d2w
            go_wp2_with fail
            refine (mul_calls (powC z j) (powC z j) 16777216 16777216 r s r s _ (powC_fits hz hj) (powC_fits hz hj) (by omega) f3 f4 f3 f4).mono ?_
            rintro e w2 ⟨p2, q2, rfl, m3, m4, hb2⟩
            rw [← powC_add] at m3 m4
            have e1 := (d1.same p1 q1).below hb2 (by first | omega | (simp; done) | (simp; omega))
            have e2 := (d2.other (.float .f64 p1) (.float .f64 q1) (Ne.symm hBC)).below hb2 (by first | omega | (simp; done) | (simp; omega))
            have e3 := (d3.other (.float .f64 p1) (.float .f64 q1) (by omega)).below hb2 (by first | omega | (simp; done) | (simp; omega))
            obtain ⟨hb, hz2⟩ := bstep ((hb.setCell (p := ⟨B, 0, none⟩) (by first | omega | (simp; done) | (simp; omega)) (.float .f64 p1)).setCell (p := ⟨B, 1, none⟩) (by first | omega | (simp; done) | (simp; omega)) (.float .f64 q1)) hb2 (by first | omega | (simp; done) | (simp; omega))
            simp at hz2
            clear x0 x1 x2 x3 r0 r1 r2 r3 hb2 d1 d2 d3 f3 f4
            have e2w := e2
            obtain ⟨r0, r1, r2, r3⟩ := e2w
            go_wp2_with fail
            go_roundw
            case rel => exact ⟨k / 2, by go_num, i + j, j + j, p1, q1, p2, q2, a, b, H.out, by omega, fun _ => hjj, by first | omega | (simp; done) | (simp; omega), by first | omega | (simp; done) | (simp; omega), e1.other _ _ hBC, e2.same _ _, e3.other _ _ (by omega), m1, m2, m3, m4, (hb.setCell (by first | omega | (simp; done) | (simp; omega)) _).setCell (by first | omega | (simp; done) | (simp; omega)) _⟩
            case measure => simp [intOf]; omega
        · have hd : ((k : Int) % 2 == 1) = false := by simp; omega
          have hnext : i + (j + j) * (k / 2) = n := by
            have : k = 2 * (k / 2) := by omega
            generalize k / 2 = m at *
            subst this
            rw [← hij]; grind
          have H := Lib.hid hnext
          have hjj : j + j ≤ 16 := by
            have : (j + j) * 1 ≤ (j + j) * (k / 2) := Nat.mul_le_mul_left _ (by omega)
            omega
          have hq : decide (0 < (k : Int) / 2) = true := decide_eq_true (by omega)
          have hq2 : decide (0 < k / 2) = true := decide_eq_true (by omega)
          have hk2 : 1 < k := by omega
          clear hnext hij hk hodd
          have c2w := c2
          obtain ⟨r0, r1, r2, r3⟩ := c2w
          go_wp2_with fail
          refine (mul_calls (powC z j) (powC z j) 16777216 16777216 r s r s _ (powC_fits hz hj) (powC_fits hz hj) (by omega) f3 f4 f3 f4).mono ?_
          rintro e w2 ⟨p2, q2, rfl, m3, m4, hb2⟩
          rw [← powC_add] at m3 m4
          have e1 := c1.below hb2 hB1
          have e2 := c2.below hb2 hC1
          have e3 := c3.below hb2 (by omega)
          obtain ⟨hb, hz2⟩ := bstep hb hb2 hb.size
          clear r0 r1 r2 r3 hb2 c1 c2 c3 f3 f4
          have e2w := e2
          obtain ⟨r0, r1, r2, r3⟩ := e2w
          go_wp2_with fail
          go_roundw
          case rel => exact ⟨k / 2, by go_num, i, j + j, x, y, p2, q2, a, b, H.out, by omega, fun _ => hjj, by first | omega | (simp; done) | (simp; omega), by first | omega | (simp; done) | (simp; omega), e1.other _ _ hBC, e2.same _ _, e3.other _ _ (by omega), f1, f2, m3, m4, (hb.setCell (by first | omega | (simp; done) | (simp; omega)) _).setCell (by first | omega | (simp; done) | (simp; omega)) _⟩
          case measure => simp [intOf]; omega
end Go.Proofs.Ytodgognfnpcdgaa.FltD
