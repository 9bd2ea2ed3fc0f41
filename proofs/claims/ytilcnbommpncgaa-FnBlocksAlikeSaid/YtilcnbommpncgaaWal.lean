/- The signs of the Walsh transform, and that two transforms give n times the row. No program in sight. -/
import Derived.Test.YtilcnbommpncgaaBase
namespace Go.Proofs.Ytilcnbommpncgaa.Wal
open Go.RowKit Go.Proofs.YtilcnbommpncgaaW.PrintWords Go.Proofs.Ytilcnbommpncgaa.Base
set_option linter.unusedVariables false
set_option linter.unusedSimpArgs false
def sumI (f : Nat → Int) : Nat → Int
  | 0 => 0
  | n + 1 => sumI f n + f n
theorem sumI_succ (f : Nat → Int) (n : Nat) : sumI f (n + 1) = sumI f n + f n := rfl
theorem sumI_congr {f g : Nat → Int} {n : Nat} (h : ∀ i, i < n → f i = g i) : sumI f n = sumI g n := by
  induction n with
  | zero => rfl
  | succ n ih => rw [sumI_succ, sumI_succ, ih fun i hi => h i (by omega), h n (by omega)]
theorem sumI_mul (c : Int) (f : Nat → Int) (n : Nat) : c * sumI f n = sumI (fun i => c * f i) n := by
  induction n with
  | zero => simp [sumI]
  | succ n ih => rw [sumI_succ, sumI_succ, Int.mul_add, ih]
theorem sumI_add (f g : Nat → Int) (n : Nat) : sumI f n + sumI g n = sumI (fun i => f i + g i) n := by
  induction n with
  | zero => rfl
  | succ n ih => simp only [sumI_succ]; rw [← ih]; omega
theorem sumI_zero (n : Nat) : sumI (fun _ => 0) n = 0 := by
  induction n with
  | zero => rfl
  | succ n ih => rw [sumI_succ, ih]; rfl
theorem sumI_swap (f : Nat → Nat → Int) (m n : Nat) : sumI (fun k => sumI (fun i => f i k) n) m = sumI (fun i => sumI (fun k => f i k) m) n := by
  induction n with
  | zero => simp only [sumI]; exact sumI_zero m
  | succ n ih => simp only [sumI_succ]; rw [← ih, sumI_add]
theorem sumI_single {n j : Nat} (a : Nat → Int) (hj : j < n) : sumI (fun i => if i = j then a i else 0) n = a j := by
  induction n with
  | zero => omega
  | succ n ih =>
    rw [sumI_succ]
    by_cases c : j = n
    · subst c
      have z : sumI (fun i => if i = j then a i else 0) j = sumI (fun _ => 0) j := sumI_congr fun i hi => if_neg (by omega)
      rw [z, sumI_zero, if_pos rfl, Int.zero_add]
    · rw [ih (by omega), if_neg (by omega), Int.add_zero]
theorem sumI_double (f : Nat → Int) (n : Nat) : sumI f (2 * n) = sumI (fun k => f (2 * k) + f (2 * k + 1)) n := by
  induction n with
  | zero => rfl
  | succ n ih =>
    rw [show 2 * (n + 1) = 2 * n + 1 + 1 by omega, sumI_succ, sumI_succ, ih, sumI_succ, Int.add_assoc]
theorem sumI_bound {f : Nat → Int} {n : Nat} {M : Int} (h : ∀ i, i < n → -M ≤ f i ∧ f i ≤ M) : -((n : Int) * M) ≤ sumI f n ∧ sumI f n ≤ (n : Int) * M := by
  induction n with
  | zero => simp [sumI]
  | succ n ih =>
    have a := ih fun i hi => h i (by omega)
    have b := h n (by omega)
    rw [sumI_succ]
    have e : ((n + 1 : Nat) : Int) * M = (n : Int) * M + M := by rw [Int.natCast_add, Int.add_mul]; simp
    rw [e]
    generalize (n : Int) * M = z at *
    omega
def par : Nat → Nat → Nat
  | 0, _ => 0
  | f + 1, n => (n % 2 + par f (n / 2)) % 2
theorem par_two (f n : Nat) : par f n = 0 ∨ par f n = 1 := by
  cases f with
  | zero => exact .inl rfl
  | succ f => simp only [par]; omega
def sgn (n : Nat) : Int := if par 9 n = 1 then -1 else 1
def chi : Nat → Nat → Nat → Int
  | 0, _, _ => 1
  | f + 1, i, k => (if i % 2 = 1 ∧ k % 2 = 1 then -1 else 1) * chi f (i / 2) (k / 2)
theorem par_chi : ∀ f i k, (if par f (i &&& k) = 1 then (-1 : Int) else 1) = chi f i k := by
  intro f
  induction f with
  | zero => intro i k; rfl
  | succ f ih =>
    intro i k
    simp only [chi]
    rw [← ih (i / 2) (k / 2), ← Nat.and_div_two]
    have e : (i &&& k) % 2 = if i % 2 = 1 ∧ k % 2 = 1 then 1 else 0 := by
      have := Nat.and_mod_two_pow (a := i) (b := k) (n := 1)
      rw [show (2 : Nat) ^ 1 = 2 from rfl] at this
      rw [this]
      rcases Nat.mod_two_eq_zero_or_one i with a | a <;> rcases Nat.mod_two_eq_zero_or_one k with b | b <;> rw [a, b] <;> rfl
    have e2 : par (f + 1) (i &&& k) = ((if i % 2 = 1 ∧ k % 2 = 1 then 1 else 0) + par f ((i &&& k) / 2)) % 2 := by rw [← e]; rfl
    rw [e2]
    rcases par_two f ((i &&& k) / 2) with h | h <;> by_cases c : i % 2 = 1 ∧ k % 2 = 1 <;> simp [h, c]
theorem sgn_chi (i k : Nat) : sgn (i &&& k) = chi 9 i k := par_chi 9 i k
theorem chi_zero : ∀ f k, chi f 0 k = 1 := by
  intro f
  induction f with
  | zero => intro k; rfl
  | succ f ih => intro k; simp [chi, ih]
theorem chi_up : ∀ f i k, i < 2 ^ f → chi (f + 1) i k = chi f i k := by
  intro f
  induction f with
  | zero =>
    intro i k h
    have : i = 0 := by omega
    subst this
    rw [chi_zero, chi_zero]
  | succ f ih =>
    intro i k h
    rw [Nat.pow_succ] at h
    have a : chi (f + 1 + 1) i k = (if i % 2 = 1 ∧ k % 2 = 1 then -1 else 1) * chi (f + 1) (i / 2) (k / 2) := rfl
    have b : chi (f + 1) i k = (if i % 2 = 1 ∧ k % 2 = 1 then -1 else 1) * chi f (i / 2) (k / 2) := rfl
    rw [a, b, ih _ _ (by omega)]
theorem chi_at {m i : Nat} (hm : m ≤ 9) (k : Nat) (h : i < 2 ^ m) : chi 9 i k = chi m i k := by
  have g : ∀ r, m + r ≤ 9 → chi (m + r) i k = chi m i k := by
    intro r
    induction r with
    | zero => intro _; rfl
    | succ r ih =>
      intro hr
      have : 2 ^ m ≤ 2 ^ (m + r) := Nat.pow_le_pow_right (by omega) (by omega)
      rw [← Nat.add_assoc, chi_up _ _ _ (by omega), ih (by omega)]
  have := g (9 - m) (by omega)
  rw [show m + (9 - m) = 9 by omega] at this
  exact this
theorem orth : ∀ m i j, i < 2 ^ m → j < 2 ^ m → sumI (fun k => chi m i k * chi m j k) (2 ^ m) = if i = j then ((2 ^ m : Nat) : Int) else 0 := by
  intro m
  induction m with
  | zero =>
    intro i j hi hj
    have : i = j := by omega
    rw [if_pos this]
    rfl
  | succ m ih =>
    intro i j hi hj
    rw [Nat.pow_succ] at hi hj
    rw [show 2 ^ (m + 1) = 2 * 2 ^ m by rw [Nat.pow_succ, Nat.mul_comm], sumI_double]
    have e : sumI (fun k => chi (m + 1) i (2 * k) * chi (m + 1) j (2 * k) + chi (m + 1) i (2 * k + 1) * chi (m + 1) j (2 * k + 1)) (2 ^ m) = sumI (fun k => (if i % 2 = j % 2 then (2 : Int) else 0) * (chi m (i / 2) k * chi m (j / 2) k)) (2 ^ m) := by
      refine sumI_congr fun k _ => ?_
      simp only [chi]
      rw [show 2 * k % 2 = 0 by omega, show 2 * k / 2 = k by omega, show (2 * k + 1) % 2 = 1 by omega, show (2 * k + 1) / 2 = k by omega]
      generalize chi m (i / 2) k = a
      generalize chi m (j / 2) k = b
      rcases Nat.mod_two_eq_zero_or_one i with x | x <;> rcases Nat.mod_two_eq_zero_or_one j with y | y <;> simp [x, y, Int.two_mul, Int.mul_neg, Int.neg_mul, Int.add_right_neg]
    rw [e, ← sumI_mul, ih (i / 2) (j / 2) (by omega) (by omega)]
    by_cases c : i = j
    · subst c
      rw [if_pos rfl, if_pos rfl, if_pos rfl]
      generalize 2 ^ m = z
      omega
    · rw [if_neg c]
      by_cases d : i % 2 = j % 2
      · rw [if_neg (by omega : ¬ i / 2 = j / 2), Int.mul_zero]
      · rw [if_neg d, Int.zero_mul]
def walN (l : List Int) (k : Nat) : Int := sumI (fun i => sgn (i &&& k) * rd l (i : Int)) l.length
def walV (l : List Int) : List Int := tab l.length fun k => walN l k
theorem walV_length (l : List Int) : (walV l).length = l.length := by simp [walV]
theorem walV_le (l : List Int) (h : l.length ≤ 2000000) : (walV l).length ≤ 2000000 := by rw [walV_length]; exact h
noncomputable def walR (l : List Int) (w : Prop) [Decidable w] : List Int × Bool := if sigB l = true ∧ w then (walV l, true) else ([], false)
theorem walR_length (l : List Int) (w : Prop) [Decidable w] (h : l.length ≤ 2000000) : (walR l w).1.length ≤ 2000000 := by
  unfold walR
  split
  · exact walV_le l h
  · simp
theorem sgn_abs (n : Nat) (x M : Int) (h0 : -M ≤ x) (h1 : x ≤ M) : -M ≤ sgn n * x ∧ sgn n * x ≤ M := by
  unfold sgn
  split <;> omega
theorem part_bound (l : List Int) (hs : sigB l = true) (k m : Nat) (hm : m ≤ l.length) : -512000000000 ≤ sumI (fun i => sgn (i &&& k) * rd l (i : Int)) m ∧ sumI (fun i => sgn (i &&& k) * rd l (i : Int)) m ≤ 512000000000 := by
  obtain ⟨h1, h2⟩ := sigB_iff.1 hs
  have b := sumI_bound (f := fun i => sgn (i &&& k) * rd l (i : Int)) (n := m) (M := 1000000000) fun i hi => by
    have := inB_rd h2 (by omega) (i : Int)
    exact sgn_abs _ _ _ this.1 this.2
  omega
theorem step_bound (l : List Int) (hs : sigB l = true) (k i : Nat) : -1000000000 ≤ sgn (i &&& k) * rd l (i : Int) ∧ sgn (i &&& k) * rd l (i : Int) ≤ 1000000000 := by
  obtain ⟨h1, h2⟩ := sigB_iff.1 hs
  have := inB_rd h2 (by omega) (i : Int)
  exact sgn_abs _ _ _ this.1 this.2
theorem wal_twice (l : List Int) (m : Nat) (hm : m ≤ 8) (hl : l.length = 2 ^ m) (j : Nat) (hj : j < l.length) : walN (walV l) j = (l.length : Int) * rd l (j : Int) := by
  have hlen : (walV l).length = l.length := by simp [walV]
  have e1 : walN (walV l) j = sumI (fun k => sumI (fun i => chi m i k * chi m j k * rd l (i : Int)) l.length) l.length := by
    unfold walN
    rw [hlen]
    refine sumI_congr fun k hk => ?_
    unfold walV
    rw [rd_tab' hk]
    unfold walN
    rw [sumI_mul]
    refine sumI_congr fun i hi => ?_
    rw [Nat.and_comm k j, sgn_chi, sgn_chi, chi_at (by omega) k (by omega : j < 2 ^ m), chi_at (by omega) k (by omega : i < 2 ^ m)]
    rw [← Int.mul_assoc, Int.mul_comm (chi m j k)]
  rw [e1, sumI_swap]
  have e2 : sumI (fun i => sumI (fun k => chi m i k * chi m j k * rd l (i : Int)) l.length) l.length = sumI (fun i => if i = j then (l.length : Int) * rd l (i : Int) else 0) l.length := by
    refine sumI_congr fun i hi => ?_
    have o := orth m i j (by omega) (by omega)
    rw [← hl] at o
    have q : sumI (fun k => chi m i k * chi m j k * rd l (i : Int)) l.length = rd l (i : Int) * sumI (fun k => chi m i k * chi m j k) l.length := by
      rw [sumI_mul]
      exact sumI_congr fun k _ => Int.mul_comm _ _
    rw [q, o]
    by_cases c : i = j
    · rw [if_pos c, if_pos c, Int.mul_comm]
    · rw [if_neg c, if_neg c, Int.mul_zero]
  rw [e2, sumI_single _ hj]
end Go.Proofs.Ytilcnbommpncgaa.Wal
