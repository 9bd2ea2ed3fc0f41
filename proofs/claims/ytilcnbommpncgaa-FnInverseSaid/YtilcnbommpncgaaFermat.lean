/- Fermat's little theorem for the three primes of the program. No conditions. -/
import Derived.Test.YtilcnbommpncgaaMod
namespace Go.Proofs.Ytilcnbommpncgaa.Fermat
open Go.RowKit Go.Proofs.Ytilcnbommpncgaa.Base Go.Proofs.Ytilcnbommpncgaa.Mod
def noDivs (p f : Nat) : Bool := Nat.rec true (fun n ih => and (not (Nat.beq (p % (n + 2)) 0)) ih) f
theorem noDivs_iff (p : Nat) : ∀ f, noDivs p f = true → ∀ d, 2 ≤ d → d < f + 2 → p % d ≠ 0 := by
  intro f
  induction f with
  | zero => intro _ d h0 h1; omega
  | succ f ih =>
    intro h d h0 h1
    have h' : (and (not (Nat.beq (p % (f + 2)) 0)) (noDivs p f)) = true := h
    rw [Bool.and_eq_true] at h'
    by_cases e : d = f + 2
    · subst e
      intro hz
      have := h'.1
      rw [hz] at this
      exact absurd this (by decide)
    · exact ih h'.2 d h0 (by omega)
def PrimeN (p : Nat) : Prop := 1 < p ∧ ∀ d, d ∣ p → d = 1 ∨ d = p
theorem prime_of (p f : Nat) (h1 : 1 < p) (h2 : p < (f + 2) * (f + 2)) (h : noDivs p f = true) : PrimeN p := by
  refine ⟨h1, ?_⟩
  intro d ⟨e, he⟩
  have hn := noDivs_iff p f h
  by_cases a : d = 1
  · exact .inl a
  · refine .inr ?_
    by_cases b : e = 1
    · subst b; omega
    · exfalso
      have hd : d ≠ 0 := by intro z; subst z; omega
      have hee : e ≠ 0 := by intro z; subst z; omega
      by_cases c : d < f + 2
      · exact hn d (by omega) c (by rw [he]; exact Nat.mul_mod_right d e)
      · by_cases c2 : e < f + 2
        · exact hn e (by omega) c2 (by rw [he]; exact Nat.mul_mod_left d e)
        · have : (f + 2) * (f + 2) ≤ d * e := Nat.mul_le_mul (by omega) (by omega)
          omega
theorem primeA : PrimeN 998244353 := prime_of _ 31600 (by decide) (by decide) (by decide +kernel)
theorem primeB : PrimeN 167772161 := prime_of _ 13000 (by decide) (by decide) (by decide +kernel)
theorem primeC : PrimeN 469762049 := prime_of _ 21700 (by decide) (by decide) (by decide +kernel)
theorem prime_good {p : Int} (h : IsP p) : ∃ q : Nat, p = (q : Int) ∧ GoodP q ∧ PrimeN q := by
  rcases h with h | h | h
  · exact ⟨998244353, h, goodA, primeA⟩
  · exact ⟨167772161, h, goodB, primeB⟩
  · exact ⟨469762049, h, goodC, primeC⟩
theorem euclid {p a b : Nat} (hp : PrimeN p) (ha : ¬ p ∣ a) (h : p ∣ a * b) : p ∣ b := by
  have hc : Nat.Coprime p a := by
    rcases hp.2 (Nat.gcd p a) (Nat.gcd_dvd_left p a) with e | e
    · exact e
    · exact absurd (e ▸ Nat.gcd_dvd_right p a) ha
  exact hc.dvd_of_dvd_mul_left h
/-! ### Pascal's numbers -/
def ch : Nat → Nat → Nat
  | _, 0 => 1
  | 0, _ + 1 => 0
  | n + 1, k + 1 => ch n k + ch n (k + 1)
theorem ch_zero (n : Nat) : ch n 0 = 1 := by cases n <;> rfl
theorem ch_ss (n k : Nat) : ch (n + 1) (k + 1) = ch n k + ch n (k + 1) := rfl
theorem ch_out : ∀ n k, n < k → ch n k = 0 := by
  intro n
  induction n with
  | zero => intro k h; cases k with | zero => omega | succ k => rfl
  | succ n ih => intro k h; cases k with | zero => omega | succ k => rw [ch_ss, ih k (by omega), ih (k + 1) (by omega)]
theorem ch_self : ∀ n, ch n n = 1 := by
  intro n
  induction n with
  | zero => rfl
  | succ n ih => rw [ch_ss, ih, ch_out n (n + 1) (by omega)]
theorem ch_mul : ∀ n k, (k + 1) * ch (n + 1) (k + 1) = (n + 1) * ch n k := by
  intro n
  induction n with
  | zero =>
    intro k
    cases k with
    | zero => rfl
    | succ k => rw [ch_ss, ch_out 0 (k + 1) (by omega), ch_out 0 (k + 1 + 1) (by omega)]; simp
  | succ n ih =>
    intro k
    cases k with
    | zero =>
      have := ih 0
      rw [ch_ss n 0, ch_zero] at this
      rw [ch_ss (n + 1) 0, ch_ss n 0, ch_zero, ch_zero]
      omega
    | succ k =>
      have a := ih k
      have b := ih (k + 1)
      rw [ch_ss (n + 1) (k + 1), Nat.mul_add, b, show k + 1 + 1 = (k + 1) + 1 from rfl, Nat.add_mul (k + 1) 1, a, ch_ss n k]
      rw [Nat.mul_add (n + 1 + 1), Nat.add_mul (n + 1) 1, Nat.add_mul (n + 1) 1]
      omega
theorem ch_prime {p : Nat} (hp : PrimeN p) (k : Nat) (h0 : 0 < k) (h1 : k < p) : p ∣ ch p k := by
  obtain ⟨j, rfl⟩ : ∃ j, k = j + 1 := ⟨k - 1, by omega⟩
  obtain ⟨q, rfl⟩ : ∃ q, p = q + 1 := ⟨p - 1, by omega⟩
  refine euclid hp (a := j + 1) ?_ ?_
  · intro h
    exact absurd (Nat.le_of_dvd (by omega) h) (by omega)
  · rw [ch_mul]
    exact Nat.dvd_mul_right _ _
theorem binom (a : Nat) : ∀ n, (a + 1) ^ n = sumN (fun k => ch n k * a ^ k) (n + 1) := by
  intro n
  induction n with
  | zero => rfl
  | succ n ih =>
    rw [Nat.pow_succ, ih]
    have e0 : sumN (fun k => ch (n + 1) k * a ^ k) (n + 1 + 1) = sumN (fun k => ch (n + 1) (k) * a ^ (k)) (1 + (n + 1)) := by rw [Nat.add_comm 1 (n + 1)]
    rw [e0, sum_split _ 1 (n + 1)]
    have e1 : sumN (fun i => ch (n + 1) (1 + i) * a ^ (1 + i)) (n + 1) = sumN (fun i => ch n i * a ^ i * a + ch n (i + 1) * a ^ (i + 1)) (n + 1) := by
      refine sumN_congr fun i _ => ?_
      rw [Nat.add_comm 1 i, ch_ss, Nat.add_mul, Nat.pow_succ, Nat.mul_assoc]
    rw [e1, ← sum_add, ← sum_mul]
    have e2 : sumN (fun i => ch n (i + 1) * a ^ (i + 1)) (n + 1) + 1 = sumN (fun k => ch n k * a ^ k) (n + 1) := by
      have s1 : sumN (fun k => ch n k * a ^ k) (1 + (n + 1)) = sumN (fun k => ch n k * a ^ k) (n + 1) := by
        rw [Nat.add_comm 1 (n + 1), sumN_succ, ch_out n (n + 1) (by omega), Nat.zero_mul, Nat.add_zero]
      rw [sum_split _ 1 (n + 1)] at s1
      have s2 : sumN (fun i => ch n (1 + i) * a ^ (1 + i)) (n + 1) = sumN (fun i => ch n (i + 1) * a ^ (i + 1)) (n + 1) := sumN_congr fun i _ => by rw [Nat.add_comm 1 i]
      have s3 : sumN (fun k => ch n k * a ^ k) 1 = 1 := by simp [sumN, ch_zero]
      omega
    have e3 : sumN (fun k => ch (n + 1) k * a ^ k) 1 = 1 := by simp [sumN, ch_zero]
    rw [e3, Nat.mul_add]
    omega
theorem add_pow_mod {p : Nat} (hp : PrimeN p) (a : Nat) : Cg p ((a + 1) ^ p) (a ^ p + 1) := by
  have h1 := hp.1
  rw [binom, sumN_succ, ch_self, Nat.one_mul]
  obtain ⟨q, hq⟩ : ∃ q, p = 1 + q := ⟨p - 1, by omega⟩
  have s3 : sumN (fun k => ch p k * a ^ k) 1 = 1 := by simp [sumN, ch_zero]
  have e : Cg p (sumN (fun k => ch p k * a ^ k) p) 1 := by
    have : sumN (fun k => ch p k * a ^ k) p = sumN (fun k => ch p k * a ^ k) 1 + sumN (fun i => ch p (1 + i) * a ^ (1 + i)) q := by
      have := sum_split (fun k => ch p k * a ^ k) 1 q
      rw [← hq] at this
      exact this
    rw [this, s3]
    have z : Cg p (sumN (fun i => ch p (1 + i) * a ^ (1 + i)) q) (sumN (fun _ => 0) q) := by
      refine Cg.sum fun i hi => ?_
      obtain ⟨m, hm⟩ := ch_prime hp (1 + i) (by omega) (by omega)
      unfold Cg
      rw [hm, Nat.mul_assoc, Nat.mul_mod_right, Nat.zero_mod]
    rw [sum_zero] at z
    exact Cg.add (Cg.refl p 1) z
  have := Cg.add e (Cg.refl p (a ^ p))
  rw [Nat.add_comm 1] at this
  exact this
theorem fermat {p : Nat} (hp : PrimeN p) : ∀ a, Cg p (a ^ p) a := by
  intro a
  induction a with
  | zero =>
    have := hp.1
    rw [Nat.zero_pow (by omega)]
    exact Cg.refl _ _
  | succ a ih => exact (add_pow_mod hp a).trans (Cg.add ih (Cg.refl p 1))
theorem fermat1 {p a : Nat} (hp : PrimeN p) (h0 : 0 < a) (h1 : a < p) : a ^ (p - 1) % p = 1 := by
  have hp1 := hp.1
  have f := fermat hp a
  have e : a ^ p = a * a ^ (p - 1) := by
    have : a ^ (p - 1 + 1) = a ^ (p - 1) * a := Nat.pow_succ _ _
    rw [show p - 1 + 1 = p by omega] at this
    rw [this, Nat.mul_comm]
  have hpos : 0 < a ^ (p - 1) := Nat.pow_pos h0
  generalize a ^ (p - 1) = z at *
  have d : p ∣ a * (z - 1) := by
    have k : a ≤ a * z := Nat.le_mul_of_pos_right a hpos
    have q : (a * z - a) % p = 0 := Nat.sub_mod_eq_zero_of_mod_eq (by rw [← e]; exact f)
    rw [Nat.mul_sub, Nat.mul_one]
    exact Nat.dvd_of_mod_eq_zero q
  have d2 : p ∣ z - 1 := euclid hp (fun h => absurd (Nat.le_of_dvd h0 h) (by omega)) d
  obtain ⟨m, hm⟩ := d2
  have : z = 1 + p * m := by omega
  rw [this, Nat.add_mul_mod_self_left]
  exact Nat.mod_eq_of_lt hp1
theorem inv_mul {p a : Nat} (hp : PrimeN p) (h0 : 0 < a) (h1 : a < p) : invN a p * a % p = 1 := by
  have hp1 := hp.1
  unfold invN
  rw [Nat.mod_mul_mod, ← Nat.pow_succ, show (p - 2).succ = p - 1 by omega]
  exact fermat1 hp h0 h1
end Go.Proofs.Ytilcnbommpncgaa.Fermat
