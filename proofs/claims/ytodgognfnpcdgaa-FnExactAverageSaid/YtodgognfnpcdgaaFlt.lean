/- Whole numbers as floats of 64 bits: what the operations give on them is exact. My own plain lemmas; no Go in sight. -/
import Derived.Laws.FloatArith
namespace Go.Proofs.Ytodgognfnpcdgaa.Flt
open Ieee

def sg (s : Bool) (m : Nat) : Int := if s then -(m : Int) else m
def pw (k : Nat) : Int := ((2 ^ k : Nat) : Int)

theorem pw_pos (k : Nat) : 0 < pw k := by unfold pw; exact_mod_cast Nat.two_pow_pos k
theorem pw_ne (k : Nat) : pw k ≠ 0 := by have := pw_pos k; omega
theorem pw_add (a b : Nat) : pw (a + b) = pw a * pw b := by unfold pw; rw [Nat.pow_add]; push_cast; rfl
theorem pw_zero : pw 0 = 1 := rfl

theorem signed_eq (s : Bool) (m u : Nat) : signed s m u = sg s m * pw u := by
  unfold signed sg pw
  cases s <;> simp [Nat.shiftLeft_eq, Int.neg_mul]

theorem sg_of (t : Int) (z : Bool) : sg (if t = 0 then z else decide (t < 0)) t.natAbs = t := by
  unfold sg
  by_cases h : t = 0
  · subst h; simp
  · rw [if_neg h]
    by_cases h' : t < 0
    · simp [h']; omega
    · simp [h']; omega

/-- the datum stands for the whole number n -/
def Num (d : Datum) (n : Int) : Prop := ∃ s m e, d = .number s m e ∧ sg s m * pw e.toNat = n * pw (-e).toNat

theorem num_base {x n e B : Int} (h1 : B ≤ e) (h0 : B ≤ 0) : (x * pw (e - B).toNat = n * pw (-B).toNat) ↔ (x * pw e.toNat = n * pw (-e).toNat) := by
  by_cases h : 0 ≤ e
  · rw [show (e - B).toNat = e.toNat + (-B).toNat by omega, show (-e).toNat = 0 by omega, pw_add, pw_zero, Int.mul_one, ← Int.mul_assoc]
    exact Int.mul_eq_mul_right_iff (pw_ne _)
  · rw [show (-B).toNat = (-e).toNat + (e - B).toNat by omega, show e.toNat = 0 by omega, pw_add, pw_zero, Int.mul_one, ← Int.mul_assoc]
    exact Int.mul_eq_mul_right_iff (pw_ne _)

theorem num_sum {x y : Datum} {a b : Int} (hx : Num x a) (hy : Num y b) : ∃ d, x.sum y = some d ∧ Num d (a + b) := by
  obtain ⟨s, m, i, rfl, h1⟩ := hx
  obtain ⟨t, n, j, rfl, h2⟩ := hy
  simp only [Datum.sum]
  refine ⟨_, rfl, _, _, _, rfl, ?_⟩
  rw [sg_of, signed_eq, signed_eq]
  have g1 := (num_base (B := min (min i j) 0) (by omega) (by omega)).2 h1
  have g2 := (num_base (B := min (min i j) 0) (by omega) (by omega)).2 h2
  refine (num_base (B := min (min i j) 0) (by omega) (by omega)).1 ?_
  rw [Int.add_mul, Int.add_mul, ← g1, ← g2, Int.mul_assoc, Int.mul_assoc, ← pw_add, ← pw_add]
  rw [show (i - min i j).toNat + (min i j - min (min i j) 0).toNat = (i - min (min i j) 0).toNat by omega]
  rw [show (j - min i j).toNat + (min i j - min (min i j) 0).toNat = (j - min (min i j) 0).toNat by omega]

theorem sg_mul (s t : Bool) (m n : Nat) : sg (s ^^ t) (m * n) = sg s m * sg t n := by
  unfold sg
  cases s <;> cases t <;> simp [Int.neg_mul, Int.mul_neg]

theorem num_product {x y : Datum} {a b : Int} (hx : Num x a) (hy : Num y b) : ∃ d, x.product y = some d ∧ Num d (a * b) := by
  obtain ⟨s, m, i, rfl, h1⟩ := hx
  obtain ⟨t, n, j, rfl, h2⟩ := hy
  simp only [Datum.product]
  refine ⟨_, rfl, _, _, _, rfl, ?_⟩
  rw [sg_mul]
  have g1 := (num_base (B := min i 0) (by omega) (by omega)).2 h1
  have g2 := (num_base (B := min j 0) (by omega) (by omega)).2 h2
  refine (num_base (B := min i 0 + min j 0) (by omega) (by omega)).1 ?_
  rw [show (i + j - (min i 0 + min j 0)).toNat = (i - min i 0).toNat + (j - min j 0).toNat by omega]
  rw [show (-(min i 0 + min j 0)).toNat = (-(min i 0)).toNat + (-(min j 0)).toNat by omega]
  rw [pw_add, pw_add]
  have e : ∀ p q r t : Int, p * q * (r * t) = (p * r) * (q * t) := by
    intro p q r t
    rw [Int.mul_assoc, Int.mul_assoc, ← Int.mul_assoc q r t, Int.mul_comm q r, Int.mul_assoc r q t]
  rw [e (sg s m), g1, g2, e a]

theorem num_opposite {x : Datum} {a : Int} (hx : Num x a) : Num x.opposite (-a) := by
  obtain ⟨s, m, i, rfl, h1⟩ := hx
  refine ⟨_, _, _, rfl, ?_⟩
  rw [Int.neg_mul, ← h1, ← Int.neg_mul]
  congr 1
  unfold sg
  cases s <;> simp

/-- the word reads as the whole number n, in the one way in which words read -/
def IsF (x : Nat) (n : Int) : Prop :=
  (n = 0 ∧ ∃ s, double.read x = .number s 0 (-1074)) ∨
  (n ≠ 0 ∧ n.natAbs < 9007199254740992 ∧ double.read x = .number (decide (n < 0)) (n.natAbs * 2 ^ (52 - n.natAbs.log2)) ((n.natAbs.log2 : Int) - 52))

theorem log2_le (N : Nat) (h : N < 9007199254740992) : N.log2 ≤ 52 := by
  by_cases h0 : N = 0
  · subst h0; decide
  · have := (Nat.log2_lt (n := N) (k := 53) h0).2 (by simpa using h)
    omega

theorem isF_num {x : Nat} {n : Int} (h : IsF x n) : Num (double.read x) n := by
  rcases h with ⟨rfl, s, h⟩ | ⟨h0, hl, h⟩
  · exact ⟨_, _, _, h, by unfold sg; cases s <;> simp⟩
  · have := log2_le _ hl
    refine ⟨_, _, _, h, ?_⟩
    rw [show ((n.natAbs.log2 : Int) - 52).toNat = 0 by omega, show (-((n.natAbs.log2 : Int) - 52)).toNat = 52 - n.natAbs.log2 by omega, pw_zero, Int.mul_one]
    unfold sg pw
    push_cast
    by_cases hn : n < 0
    · simp only [hn, decide_true, if_true]
      rw [← Int.neg_mul]
      congr 1
      omega
    · simp only [hn, decide_false, if_false, Bool.false_eq_true]
      congr 1
      omega

theorem cut_exact (s : Bool) (n drop K : Nat) (h : n = K * 2 ^ drop) (hd : drop ≤ n.log2 + 2) : Toward.even.cut s n drop = K := by
  unfold Toward.cut
  rw [Nat.min_eq_left hd, Nat.one_shiftLeft]
  have h1 : n / 2 ^ drop = K := by rw [h, Nat.mul_div_cancel _ (Nat.two_pow_pos _)]
  have h2 : n % 2 ^ drop = 0 := by rw [h, Nat.mul_mod_left]
  simp only [h1, h2, Nat.mul_zero]
  have := Nat.two_pow_pos drop
  have e : (2 ^ drop == 0) = false := by
    have : 2 ^ drop ≠ 0 := by omega
    simp
  simp

theorem number_congr {s s' : Bool} {m m' : Nat} {e e' : Int} (h1 : s = s') (h2 : m = m') (h3 : e = e') : Datum.number s m e = Datum.number s' m' e' := by rw [h1, h2, h3]

theorem read_word (s : Bool) (L K : Nat) (hL : L ≤ 52) (h1 : 4503599627370496 ≤ K) (h2 : K < 9007199254740992) :
    double.read (double.word s (min ((L + 1022) * double.binade + K) double.infRung)) = .number s K ((L : Int) - 52) := by
  have eb : double.binade = 4503599627370496 := by decide
  have ei : double.infRung = 9218868437227405312 := by decide
  have es : double.signWeight = 9223372036854775808 := by decide
  have el : double.leastPlace = -1074 := by decide
  rw [Nat.min_eq_left (by rw [eb, ei]; omega)]
  unfold Format.read
  rw [eb, ei, es, el]
  generalize hr : (L + 1022) * 4503599627370496 + K = r
  have hw : double.word s r / 9223372036854775808 % 2 = s.toNat ∧ double.word s r % 9223372036854775808 = r := by
    unfold Format.word
    rw [es]
    cases s <;> simp <;> omega
  rw [hw.1, hw.2]
  simp only
  rw [if_neg (by omega), if_pos (by omega)]
  clear hw eb ei es el
  have q1 : r % 4503599627370496 = K - 4503599627370496 := by omega
  have q2 : r / 4503599627370496 - 1 = L + 1022 := by omega
  rw [q1, q2]
  exact number_congr (by cases s <;> rfl) (Nat.add_sub_cancel' h1) (by omega)

theorem log2_eq {n k : Nat} (h1 : 2 ^ k ≤ n) (h2 : n < 2 ^ (k + 1)) : n.log2 = k := by
  have h0 : n ≠ 0 := by have := Nat.two_pow_pos k; omega
  have a := (Nat.log2_lt h0).2 h2
  have b := (Nat.le_log2 h0).2 h1
  omega

theorem log2_mul (m q : Nat) (h : m ≠ 0) : (m * 2 ^ q).log2 = m.log2 + q := by
  refine log2_eq ?_ ?_
  · rw [Nat.pow_add]; exact Nat.mul_le_mul_right _ (Nat.log2_self_le h)
  · rw [show m.log2 + q + 1 = (m.log2 + 1) + q by omega, Nat.pow_add]
    exact Nat.mul_lt_mul_of_pos_right Nat.lt_log2_self (Nat.two_pow_pos _)

theorem write_isF {d : Datum} {n : Int} (h : Num d n) (hn : n.natAbs < 9007199254740992) : IsF (double.write d) n := by
  obtain ⟨s, m, e, rfl, h⟩ := h
  by_cases hm : m = 0
  · subst hm
    have h0 : n = 0 := by
      have : sg s 0 = 0 := by unfold sg; cases s <;> rfl
      rw [this, Int.zero_mul] at h
      rcases Int.mul_eq_zero.1 h.symm with h | h
      · exact h
      · exact absurd h (pw_ne _)
    refine .inl ⟨h0, s, ?_⟩
    show double.read (double.nearest s 0 e) = _
    unfold Format.nearest
    rw [if_pos rfl]
    cases s <;> decide
  · have hp := pw_pos e.toNat
    have hq := pw_pos (-e).toNat
    have hs : s = decide (n < 0) ∧ n ≠ 0 ∧ (m : Int) * pw e.toNat = (n.natAbs : Int) * pw (-e).toNat := by
      have hm' : 0 < (m : Int) := by omega
      have hmp := Int.mul_pos hm' hp
      cases s
      · simp only [sg, if_false, Bool.false_eq_true] at h
        have : 0 < n := by
          refine Classical.byContradiction fun hc => ?_
          have := Int.mul_nonneg (show 0 ≤ -n by omega) (show 0 ≤ pw (-e).toNat by omega)
          rw [Int.neg_mul] at this
          omega
        refine ⟨by simp; omega, by omega, ?_⟩
        rw [h]; congr 1; omega
      · simp only [sg, if_true] at h
        have : n < 0 := by
          refine Classical.byContradiction fun hc => ?_
          have := Int.mul_nonneg (show 0 ≤ n by omega) (show 0 ≤ pw (-e).toNat by omega)
          rw [Int.neg_mul] at h
          omega
        refine ⟨by simp; omega, by omega, ?_⟩
        rw [show (n.natAbs : Int) = -n by omega, Int.neg_mul, ← h, Int.neg_mul, Int.neg_neg]
    obtain ⟨hs, hn0, hv⟩ := hs
    have hN0 : n.natAbs ≠ 0 := by omega
    generalize hN : n.natAbs = N at *
    have hL := log2_le N hn
    have hvn : m * 2 ^ e.toNat = N * 2 ^ (-e).toNat := by
      unfold pw at hv
      exact_mod_cast hv
    have hlog : (m.log2 : Int) = (N.log2 : Int) - e := by
      have := congrArg Nat.log2 hvn
      rw [log2_mul _ _ hm, log2_mul _ _ hN0] at this
      omega
    refine .inr ⟨hn0, by rw [hN]; exact hn, ?_⟩
    rw [hN, ← hs]
    show double.read (double.nearest s m e) = _
    unfold Format.nearest
    rw [if_neg hm]
    have ef : double.fractionBits = 52 := rfl
    have el : double.leastPlace = -1074 := by decide
    have hlast : max (e + (m.log2 : Int) - (double.fractionBits : Int)) double.leastPlace = (N.log2 : Int) - 52 := by
      rw [ef, el]; omega
    simp only [hlast]
    have hk : m <<< (e - ((N.log2 : Int) - 52)).toNat = (N * 2 ^ (52 - N.log2)) * 2 ^ ((N.log2 : Int) - 52 - e).toNat := by
      rw [Nat.shiftLeft_eq]
      by_cases he : (N.log2 : Int) - 52 ≤ e
      · have g := (num_base (x := (m : Int)) (n := (N : Int)) (e := e) (B := (N.log2 : Int) - 52) he (by omega)).2 hv
        unfold pw at g
        rw [show ((N.log2 : Int) - 52 - e).toNat = 0 by omega, Nat.pow_zero, Nat.mul_one]
        rw [show (-((N.log2 : Int) - 52)).toNat = 52 - N.log2 by omega] at g
        exact_mod_cast g
      · rw [show (e - ((N.log2 : Int) - 52)).toNat = 0 by omega, Nat.pow_zero, Nat.mul_one, Nat.mul_assoc, ← Nat.pow_add]
        rw [show 52 - N.log2 + ((N.log2 : Int) - 52 - e).toNat = (-e).toNat by omega, ← hvn, show e.toNat = 0 by omega, Nat.pow_zero, Nat.mul_one]
    rw [cut_exact s _ _ _ hk (by rw [Nat.shiftLeft_eq, log2_mul _ _ hm]; omega)]
    have hb1 : 4503599627370496 ≤ N * 2 ^ (52 - N.log2) := by
      have := Nat.mul_le_mul_right (2 ^ (52 - N.log2)) (Nat.log2_self_le hN0)
      rw [← Nat.pow_add, show N.log2 + (52 - N.log2) = 52 by omega] at this
      exact this
    have hb2 : N * 2 ^ (52 - N.log2) < 9007199254740992 := by
      have := Nat.mul_lt_mul_of_pos_right (Nat.lt_log2_self (n := N)) (Nat.two_pow_pos (52 - N.log2))
      rw [← Nat.pow_add, show N.log2 + 1 + (52 - N.log2) = 53 by omega] at this
      exact this
    have := read_word s N.log2 _ hL hb1 hb2
    rw [el, show ((N.log2 : Int) - 52 - -1074).toNat = N.log2 + 1022 by omega]
    exact this

theorem add_int {x y : Nat} {a b : Int} (hx : IsF x a) (hy : IsF y b) (h : (a + b).natAbs < 9007199254740992) : ∃ r, floatBits .add .f64 x y = some r ∧ IsF r (a + b) := by
  obtain ⟨d, hd, hv⟩ := num_sum (isF_num hx) (isF_num hy)
  exact ⟨_, by show (((double.read x).sum (double.read y)).map double.write) = _; rw [hd]; rfl, write_isF hv h⟩

theorem sub_int {x y : Nat} {a b : Int} (hx : IsF x a) (hy : IsF y b) (h : (a - b).natAbs < 9007199254740992) : ∃ r, floatBits .sub .f64 x y = some r ∧ IsF r (a - b) := by
  obtain ⟨d, hd, hv⟩ := num_sum (isF_num hx) (num_opposite (isF_num hy))
  rw [← Int.sub_eq_add_neg] at hv
  exact ⟨_, by show (((double.read x).sum (double.read y).opposite).map double.write) = _; rw [hd]; rfl, write_isF hv h⟩

theorem mul_int {x y : Nat} {a b : Int} (hx : IsF x a) (hy : IsF y b) (h : (a * b).natAbs < 9007199254740992) : ∃ r, floatBits .mul .f64 x y = some r ∧ IsF r (a * b) := by
  obtain ⟨d, hd, hv⟩ := num_product (isF_num hx) (isF_num hy)
  exact ⟨_, by show (((double.read x).product (double.read y)).map double.write) = _; rw [hd]; rfl, write_isF hv h⟩

theorem of_int (n : Int) (h : n.natAbs < 9007199254740992) : IsF (floatOfInt .f64 n) n := by
  refine write_isF ⟨_, _, _, rfl, ?_⟩ h
  unfold sg pw
  by_cases hn : n < 0
  · simp [hn]; omega
  · simp [hn]; omega

theorem order_int {x y : Nat} {a b : Int} (hx : IsF x a) (hy : IsF y b) : (FloatKind.f64.format.order x y == some .eq) = decide (a = b) := by
  obtain ⟨s, m, i, h1, g1⟩ := isF_num hx
  obtain ⟨t, n, j, h2, g2⟩ := isF_num hy
  show ((double.read x).order (double.read y) == some .eq) = _
  rw [h1, h2]
  simp only [Datum.order, signed_eq]
  have k1 := (num_base (B := min (min i j) 0) (by omega) (by omega)).2 g1
  have k2 := (num_base (B := min (min i j) 0) (by omega) (by omega)).2 g2
  rw [show (i - min (min i j) 0).toNat = (i - min i j).toNat + (min i j - min (min i j) 0).toNat by omega, pw_add, ← Int.mul_assoc] at k1
  rw [show (j - min (min i j) 0).toNat = (j - min i j).toNat + (min i j - min (min i j) 0).toNat by omega, pw_add, ← Int.mul_assoc] at k2
  generalize sg s m * pw (i - min i j).toNat = X at *
  generalize sg t n * pw (j - min i j).toNat = Y at *
  have key : (X = Y) ↔ (a = b) := by
    constructor
    · intro h
      subst h
      exact (Int.mul_eq_mul_right_iff (pw_ne _)).1 (k1.symm.trans k2)
    · intro h
      subst h
      exact (Int.mul_eq_mul_right_iff (pw_ne _)).1 (k1.trans k2.symm)
  rw [Bool.eq_iff_iff]
  simp only [beq_iff_eq, Option.some.injEq, decide_eq_true_eq]
  rw [← key]
  exact Std.LawfulEqOrd.compare_eq_iff_eq

theorem div_int {x y : Nat} {a d : Int} (hx : IsF x (a * d)) (hy : IsF y d) (hd : d ≠ 0) (h : a.natAbs < 9007199254740992) : ∃ r, floatBits .quo .f64 x y = some r ∧ IsF r a := by
  rcases hy with ⟨h0, _⟩ | ⟨_, hdl, hy⟩
  · exact absurd h0 hd
  have hl := log2_le _ hdl
  have hdn : d.natAbs ≠ 0 := by omega
  have hn0 : d.natAbs * 2 ^ (52 - d.natAbs.log2) ≠ 0 := Nat.mul_ne_zero hdn (by have := Nat.two_pow_pos (52 - d.natAbs.log2); omega)
  rcases hx with ⟨h0, s, hx⟩ | ⟨h0, hxl, hx⟩
  · have ha : a = 0 := by rcases Int.mul_eq_zero.1 h0 with h | h; exact h; exact absurd h hd
    subst ha
    have e : floatBits .quo .f64 x y = (((double.read x).quotient 54 (double.read y)).map double.write) := rfl
    rw [e, hx, hy]
    simp only [Datum.quotient]
    rw [if_neg hn0]
    simp only [Nat.zero_shiftLeft, Nat.zero_div, Nat.zero_mod, bne_self_eq_false, Bool.toNat_false, Nat.mul_zero, Nat.add_zero, Option.map_some]
    exact ⟨_, rfl, write_isF ⟨_, _, _, rfl, by unfold sg; split <;> simp⟩ h⟩
  · have hm0 : (a * d).natAbs ≠ 0 := by omega
    have hL := log2_le _ hxl
    have han : a.natAbs ≠ 0 := by
      intro h'
      have : a = 0 := by omega
      exact h0 (by rw [this, Int.zero_mul])
    have hab : (a * d).natAbs = a.natAbs * d.natAbs := Int.natAbs_mul a d
    have hge : d.natAbs.log2 ≤ (a * d).natAbs.log2 := by
      refine (Nat.le_log2 hm0).2 (Nat.le_trans (Nat.log2_self_le hdn) ?_)
      rw [hab]; exact Nat.le_mul_of_pos_left _ (by omega)
    have e : floatBits .quo .f64 x y = (((double.read x).quotient 54 (double.read y)).map double.write) := rfl
    rw [e, hx, hy]
    simp only [Datum.quotient]
    rw [if_neg hn0]
    rw [log2_mul _ _ hdn, log2_mul _ _ hm0]
    generalize hLL : (a * d).natAbs.log2 = L at *
    generalize hll : d.natAbs.log2 = l at *
    rw [show 54 + (l + (52 - l)) - (L + (52 - L)) = 54 by omega]
    have hdiv : (a * d).natAbs * 2 ^ (52 - L) * 2 ^ 54 = (a.natAbs * 2 ^ (54 - (L - l))) * (d.natAbs * 2 ^ (52 - l)) := by
      rw [hab]
      have e1 : 2 ^ (54 - (L - l)) * 2 ^ (52 - l) = 2 ^ (52 - L) * 2 ^ 54 := by
        rw [← Nat.pow_add, ← Nat.pow_add]; congr 1; omega
      calc a.natAbs * d.natAbs * 2 ^ (52 - L) * 2 ^ 54 = (a.natAbs * d.natAbs) * (2 ^ (52 - L) * 2 ^ 54) := by rw [Nat.mul_assoc]
        _ = (a.natAbs * d.natAbs) * (2 ^ (54 - (L - l)) * 2 ^ (52 - l)) := by rw [e1]
        _ = _ := by simp only [Nat.mul_assoc, Nat.mul_left_comm]
    rw [Nat.shiftLeft_eq, hdiv, Nat.mul_div_cancel _ (by omega), Nat.mul_mod_left]
    simp only [bne_self_eq_false, Bool.toNat_false, Nat.add_zero, Option.map_some]
    refine ⟨_, rfl, write_isF ⟨_, _, _, rfl, ?_⟩ h⟩
    refine (num_base (B := (L : Int) - 52 - ((l : Int) - 52) - (54 : Nat) - 1) (by omega) (by omega)).1 ?_
    rw [Int.sub_self]
    rw [show (-((L : Int) - 52 - ((l : Int) - 52) - (54 : Nat) - 1)).toNat = (54 - (L - l)) + 1 by omega]
    rw [show (0 : Int).toNat = 0 from rfl, pw_zero, Int.mul_one, pw_add]
    have hs : (decide (a * d < 0) ^^ decide (d < 0)) = decide (a < 0) := by
      have ha0 : a ≠ 0 := by omega
      rcases Int.lt_or_gt_of_ne ha0 with h1 | h1 <;> rcases Int.lt_or_gt_of_ne hd with h2 | h2
      · have h3 := Int.mul_pos_of_neg_of_neg h1 h2
        rw [decide_eq_false (by omega : ¬ a * d < 0), decide_eq_true h2, decide_eq_true h1]; rfl
      · have h3 := Int.mul_neg_of_neg_of_pos h1 h2
        rw [decide_eq_true h3, decide_eq_false (by omega : ¬ d < 0), decide_eq_true h1]; rfl
      · have h3 := Int.mul_neg_of_pos_of_neg h1 h2
        rw [decide_eq_true h3, decide_eq_true h2, decide_eq_false (by omega : ¬ a < 0)]; rfl
      · have h3 := Int.mul_pos h1 h2
        rw [decide_eq_false (by omega : ¬ a * d < 0), decide_eq_false (by omega : ¬ d < 0), decide_eq_false (by omega : ¬ a < 0)]; rfl
    rw [hs]
    have e2 : ∀ q : Nat, sg (decide (a < 0)) (2 * (a.natAbs * q)) = a * (q * 2 : Int) := by
      intro q
      unfold sg
      by_cases hn : a < 0
      · rw [decide_eq_true hn, if_pos rfl]
        push_cast
        rw [show ((a.natAbs : Int)) = -a by omega, Int.neg_mul, Int.mul_neg, Int.neg_neg, Int.mul_left_comm, Int.mul_comm 2]
      · rw [decide_eq_false hn, if_neg (by decide)]
        push_cast
        rw [show ((a.natAbs : Int)) = a by omega, Int.mul_left_comm, Int.mul_comm 2]
    rw [e2]
    rfl

theorem read_neg (x : Nat) {s : Bool} {m : Nat} {e : Int} (h : double.read x = .number s m e) : double.read (Op.negFloat .f64 x) = .number (!s) m e := by
  have h1 : (x ^^^ 2 ^ 63) % 2 ^ 63 = x % 2 ^ 63 := by rw [Nat.xor_mod_two_pow, Nat.mod_self, Nat.xor_zero]
  have h2 : (x ^^^ 2 ^ 63) / 2 ^ 63 % 2 = 1 - x / 2 ^ 63 % 2 := by
    rw [← Nat.shiftRight_eq_div_pow, Nat.shiftRight_xor_distrib, Nat.shiftRight_eq_div_pow, Nat.shiftRight_eq_div_pow, Nat.div_self (Nat.two_pow_pos 63)]
    have := Nat.xor_mod_two_pow (a := x / 2 ^ 63) (b := 1) (n := 1)
    rw [Nat.pow_one] at this
    rw [this]
    rcases Nat.mod_two_eq_zero_or_one (x / 2 ^ 63) with h | h <;> rw [h] <;> rfl
  have es : double.signWeight = 2 ^ 63 := by decide
  have en : Op.negFloat .f64 x = x ^^^ 2 ^ 63 := rfl
  rw [en]
  unfold Format.read at h ⊢
  rw [es] at h ⊢
  rw [h1, h2]
  simp only at h ⊢
  have hb : (1 - x / 2 ^ 63 % 2 == 1) = !(x / 2 ^ 63 % 2 == 1) := by
    rcases Nat.mod_two_eq_zero_or_one (x / 2 ^ 63) with h | h <;> rw [h] <;> rfl
  rw [hb]
  generalize (x / 2 ^ 63 % 2 == 1) = z at *
  split at h
  · rename_i c; rw [if_pos c]
    injection h with a b c; subst a; subst b; subst c; rfl
  · rename_i c; rw [if_neg c]
    split at h
    · rename_i c; rw [if_pos c]
      injection h with a b c; subst a; subst b; subst c; rfl
    · split at h <;> cases h

theorem neg_int {x : Nat} {n : Int} (h : IsF x n) : IsF (Op.negFloat .f64 x) (-n) := by
  rcases h with ⟨rfl, s, h⟩ | ⟨h0, hl, h⟩
  · exact .inl ⟨rfl, _, read_neg x h⟩
  · refine .inr ⟨by omega, by omega, ?_⟩
    rw [read_neg x h, Int.natAbs_neg]
    congr 1
    by_cases hn : n < 0
    · rw [decide_eq_true hn, decide_eq_false (by omega)]; rfl
    · rw [decide_eq_false hn, decide_eq_true (by omega)]; rfl

theorem one_int : IsF 4607182418800017408 1 := .inr ⟨by decide, by decide, by decide⟩
theorem two_int : IsF 4611686018427387904 2 := .inr ⟨by decide, by decide, by decide⟩
theorem four_int : IsF 4616189618054758400 4 := .inr ⟨by decide, by decide, by decide⟩
theorem eight_int : IsF 4620693217682128896 8 := .inr ⟨by decide, by decide, by decide⟩
theorem zero_int : IsF 0 0 := .inl ⟨rfl, false, by decide⟩
theorem minus_int : IsF 13830554455654793216 (-1) := .inr ⟨by decide, by decide, by decide⟩
end Go.Proofs.Ytodgognfnpcdgaa.Flt
