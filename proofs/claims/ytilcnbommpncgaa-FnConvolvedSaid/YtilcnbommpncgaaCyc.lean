/- A transform of a cyclic convolution is the product of the transforms. No program in sight. -/
import Derived.Test.YtilcnbommpncgaaMod
import Derived.Test.YtilcnbommpncgaaWal
namespace Go.Proofs.Ytilcnbommpncgaa.Cyc
open Go.RowKit Go.Proofs.YtilcnbommpncgaaW.PrintWords Go.Proofs.Ytilcnbommpncgaa.Base Go.Proofs.Ytilcnbommpncgaa.Mod Go.Proofs.Ytilcnbommpncgaa.Wal
set_option linter.unusedVariables false
set_option linter.unusedSimpArgs false
def CgI (p a b : Int) : Prop := p ∣ a - b
theorem CgI.refl (p a : Int) : CgI p a a := by unfold CgI; rw [Int.sub_self]; exact Int.dvd_zero p
theorem CgI.symm {p a b : Int} (h : CgI p a b) : CgI p b a := by
  obtain ⟨c, hc⟩ := h
  exact ⟨-c, by rw [Int.mul_neg]; omega⟩
theorem CgI.trans {p a b c : Int} (h : CgI p a b) (k : CgI p b c) : CgI p a c := by
  obtain ⟨x, hx⟩ := h
  obtain ⟨y, hy⟩ := k
  exact ⟨x + y, by rw [Int.mul_add]; omega⟩
theorem CgI.add {p a b c d : Int} (h : CgI p a b) (k : CgI p c d) : CgI p (a + c) (b + d) := by
  obtain ⟨x, hx⟩ := h
  obtain ⟨y, hy⟩ := k
  exact ⟨x + y, by rw [Int.mul_add]; omega⟩
theorem CgI.mul_left {p a b : Int} (h : CgI p a b) (c : Int) : CgI p (c * a) (c * b) := by
  obtain ⟨x, hx⟩ := h
  exact ⟨c * x, by rw [← Int.mul_sub, hx, Int.mul_left_comm]⟩
theorem CgI.mul_right {p a b : Int} (h : CgI p a b) (c : Int) : CgI p (a * c) (b * c) := by
  rw [Int.mul_comm a, Int.mul_comm b]
  exact h.mul_left c
theorem CgI.sum {p : Int} {f g : Nat → Int} {n : Nat} (h : ∀ i, i < n → CgI p (f i) (g i)) : CgI p (sumI f n) (sumI g n) := by
  induction n with
  | zero => exact CgI.refl _ _
  | succ n ih => exact CgI.add (ih fun i hi => h i (by omega)) (h n (by omega))
theorem CgI.of_nat {p a b : Nat} (h : a % p = b % p) : CgI (p : Int) (a : Int) (b : Int) := by
  have ha := Nat.div_add_mod a p
  have hb := Nat.div_add_mod b p
  refine ⟨((a / p : Nat) : Int) - ((b / p : Nat) : Int), ?_⟩
  rw [Int.mul_sub, ← Int.natCast_mul, ← Int.natCast_mul]
  omega
theorem CgI.to_nat {p a b : Nat} (h : CgI (p : Int) (a : Int) (b : Int)) : a % p = b % p := by
  have e : (a : Int) % (p : Int) = (b : Int) % (p : Int) := Int.emod_eq_emod_iff_emod_sub_eq_zero.2 (Int.emod_eq_zero_of_dvd h)
  rw [← Int.natCast_emod, ← Int.natCast_emod] at e
  exact Int.ofNat_inj.1 e
theorem CgI.emod (p a : Int) : CgI p (a % p) a := ⟨-(a / p), by have := Int.mul_ediv_add_emod a p; rw [Int.mul_neg]; omega⟩
theorem sum_cast (f : Nat → Nat) (n : Nat) : ((sumN f n : Nat) : Int) = sumI (fun i => (f i : Int)) n := by
  induction n with
  | zero => rfl
  | succ n ih => rw [sumN_succ, sumI_succ, ← ih]; omega
def evI (z : Int) (s : List Int) : Int := sumI (fun m => rd s (m : Int) * z ^ m) s.length
theorem evI_set (z x : Int) (s : List Int) (q : Nat) (hq : q < s.length) : evI z (s.set q (rd s (q : Int) + x)) = evI z s + x * z ^ q := by
  unfold evI
  rw [List.length_set]
  have e : sumI (fun m => rd (s.set q (rd s (q : Int) + x)) (m : Int) * z ^ m) s.length = sumI (fun m => rd s (m : Int) * z ^ m + if m = q then x * z ^ m else 0) s.length := by
    refine sumI_congr fun m hm => ?_
    have := rd_set (l := s) (i := (m : Int)) (j := (q : Int)) (v := rd s (q : Int) + x) (by omega) (by omega) (by omega)
    rw [Int.toNat_natCast] at this
    rw [this]
    by_cases c : m = q
    · subst c
      rw [if_pos rfl, if_pos rfl, Int.add_mul]
    · rw [if_neg (by omega), if_neg c, Int.add_zero]
  rw [e, ← sumI_add, sumI_single _ hq]
theorem evI_zero (z : Int) (n : Nat) : evI z (List.replicate n 0) = 0 := by
  unfold evI
  have : sumI (fun m => rd (List.replicate n 0) (m : Int) * z ^ m) (List.replicate n (0 : Int)).length = sumI (fun _ => 0) (List.replicate n (0 : Int)).length := sumI_congr fun m _ => by rw [rd_replicate, Int.zero_mul]
  rw [this, sumI_zero]
theorem mul_abs {x y M N : Int} (hx : -M ≤ x ∧ x ≤ M) (hy : -N ≤ y ∧ y ≤ N) : -(M * N) ≤ x * y ∧ x * y ≤ M * N := by
  have a : x.natAbs ≤ M.toNat := by omega
  have b : y.natAbs ≤ N.toNat := by omega
  have c := Nat.mul_le_mul a b
  rw [← Int.natAbs_mul] at c
  have d : ((M.toNat * N.toNat : Nat) : Int) = M * N := by rw [Int.natCast_mul, Int.toNat_of_nonneg (by omega), Int.toNat_of_nonneg (by omega)]
  omega
def cycStep (a b : List Int) (i j : Nat) (s : List Int) : List Int := s.set ((i + j) % a.length) (wrap64 (rd s (((i + j) % a.length : Nat) : Int) + wrap64 (rd a (i : Int) * rd b (j : Int))))
def cycV (a b : List Int) : List Int := iter (fun i s => iter (fun j s => cycStep a b i j s) b.length s) a.length (List.replicate a.length 0)
theorem cyc_ok (a b : List Int) (p z : Nat) (ha : inB 1000000 a = true) (hb : inB 1000000 b = true) (hn : a.length ≤ 256) (hab : b.length = a.length) (h0 : 0 < a.length) (hz : z ^ a.length % p = 1 % p) :
    (cycV a b).length = a.length ∧ (∀ m : Nat, -65536000000000000 ≤ rd (cycV a b) (m : Int) ∧ rd (cycV a b) (m : Int) ≤ 65536000000000000) ∧ CgI (p : Int) (evI (z : Int) (cycV a b)) (evI (z : Int) a * evI (z : Int) b) := by
  have main : (cycV a b).length = a.length ∧ (∀ m : Nat, -((a.length * a.length : Nat) * 1000000000000 : Int) ≤ rd (cycV a b) (m : Int) ∧ rd (cycV a b) (m : Int) ≤ ((a.length * a.length : Nat) * 1000000000000 : Int)) ∧ CgI (p : Int) (evI (z : Int) (cycV a b)) (sumI (fun i => rd a (i : Int) * (z : Int) ^ i) a.length * evI (z : Int) b) := by
    refine iter_inv (fun i s => s.length = a.length ∧ (∀ m : Nat, -((i * a.length : Nat) * 1000000000000 : Int) ≤ rd s (m : Int) ∧ rd s (m : Int) ≤ ((i * a.length : Nat) * 1000000000000 : Int)) ∧ CgI (p : Int) (evI (z : Int) s) (sumI (fun i => rd a (i : Int) * (z : Int) ^ i) i * evI (z : Int) b)) a.length _ ?_ ?_
    · refine ⟨by simp, fun m => by rw [rd_replicate]; simp, ?_⟩
      rw [evI_zero]
      simp only [sumI, Int.zero_mul]
      exact CgI.refl _ _
    · intro i s hi ⟨hs, hbd, hc⟩
      have hii : i * a.length ≤ 256 * 256 := Nat.mul_le_mul (by omega) hn
      have inner : (iter (fun j s => cycStep a b i j s) b.length s).length = a.length ∧ (∀ m : Nat, -((i * a.length + b.length : Nat) * 1000000000000 : Int) ≤ rd (iter (fun j s => cycStep a b i j s) b.length s) (m : Int) ∧ rd (iter (fun j s => cycStep a b i j s) b.length s) (m : Int) ≤ ((i * a.length + b.length : Nat) * 1000000000000 : Int)) ∧ CgI (p : Int) (evI (z : Int) (iter (fun j s => cycStep a b i j s) b.length s)) (evI (z : Int) s + rd a (i : Int) * (z : Int) ^ i * sumI (fun j => rd b (j : Int) * (z : Int) ^ j) b.length) := by
        refine iter_inv (fun j t => t.length = a.length ∧ (∀ m : Nat, -((i * a.length + j : Nat) * 1000000000000 : Int) ≤ rd t (m : Int) ∧ rd t (m : Int) ≤ ((i * a.length + j : Nat) * 1000000000000 : Int)) ∧ CgI (p : Int) (evI (z : Int) t) (evI (z : Int) s + rd a (i : Int) * (z : Int) ^ i * sumI (fun j => rd b (j : Int) * (z : Int) ^ j) j)) b.length s ?_ ?_
        · refine ⟨hs, hbd, ?_⟩
          simp only [sumI, Int.mul_zero, Int.add_zero]
          exact CgI.refl _ _
        · intro j t hj ⟨ht, htb, htc⟩
          have hq := Nat.mod_lt (i + j) h0
          have hxa := inB_rd ha (by omega) (i : Int)
          have hxb := inB_rd hb (by omega) (j : Int)
          have hxy := mul_abs hxa hxb
          have hq2 := htb ((i + j) % a.length)
          have pc := CgI.of_nat (pow_period hz (i + j)).symm
          have ew : cycStep a b i j t = t.set ((i + j) % a.length) (rd t (((i + j) % a.length : Nat) : Int) + rd a (i : Int) * rd b (j : Int)) := by
            unfold cycStep
            rw [w64 (n := rd a (i : Int) * rd b (j : Int)) (by omega) (by omega), w64 (by omega) (by omega)]
          generalize (i + j) % a.length = q at *
          rw [ew]
          refine ⟨by simpa using ht, ?_, ?_⟩
          · intro m
            have := rd_set (l := t) (i := (m : Int)) (j := (q : Int)) (v := rd t (q : Int) + rd a (i : Int) * rd b (j : Int)) (by omega) (by omega) (by omega)
            rw [Int.toNat_natCast] at this
            rw [this]
            have hm := htb m
            split <;> omega
          · rw [evI_set _ _ _ _ (by omega), sumI_succ, Int.mul_add, ← Int.add_assoc]
            refine CgI.add htc ?_
            rw [Int.natCast_pow, Int.natCast_pow] at pc
            have := pc.mul_left (rd a (i : Int) * rd b (j : Int))
            have e : rd a (i : Int) * rd b (j : Int) * (z : Int) ^ (i + j) = rd a (i : Int) * (z : Int) ^ i * (rd b (j : Int) * (z : Int) ^ j) := by
              rw [Int.pow_add, Int.mul_assoc, Int.mul_assoc, Int.mul_left_comm (rd b (j : Int))]
            rw [e] at this
            exact this
      obtain ⟨i1, i2, i3⟩ := inner
      refine ⟨i1, ?_, ?_⟩
      · intro m
        have := i2 m
        rw [Nat.add_mul, Nat.one_mul]
        rw [hab] at this
        rw [hab]
        exact this
      · rw [sumI_succ, Int.add_mul]
        exact i3.trans (CgI.add hc (CgI.refl _ _))
  obtain ⟨m1, m2, m3⟩ := main
  refine ⟨m1, ?_, m3⟩
  intro m
  have := m2 m
  have h : a.length * a.length ≤ 256 * 256 := Nat.mul_le_mul hn hn
  omega
def resV (l : List Int) : List Int := tab l.length fun i => rd l (i : Int) % 998244353
theorem resV_length (l : List Int) : (resV l).length = l.length := by simp [resV]
theorem resV_row (l : List Int) : RowOk 998244353 (resV l) := by
  intro i hi
  rw [resV_length] at hi
  unfold resV
  rw [rd_tab' hi]
  omega
theorem dft_ev (l : List Int) (p w k : Nat) (hp : p = 998244353) : CgI (p : Int) ((dftN (resV l) p w 1 k : Nat) : Int) (evI ((w ^ k : Nat) : Int) l) := by
  unfold dftN
  rw [Nat.mul_one, resV_length]
  refine (CgI.of_nat (Nat.mod_mod _ _)).trans ?_
  rw [sum_cast]
  unfold evI
  refine CgI.sum fun i hi => ?_
  have hr : rd (resV l) (i : Int) = rd l (i : Int) % 998244353 := by
    unfold resV
    rw [rd_tab' hi]
  rw [hr, Int.natCast_mul, Int.toNat_of_nonneg (by omega), Nat.mul_comm i k, Nat.pow_mul, Int.natCast_pow _ i]
  refine CgI.mul_right ?_ _
  subst hp
  exact CgI.emod _ _
theorem conv_thm (a b : List Int) (p w k : Nat) (hp : p = 998244353) (ha : inB 1000000 a = true) (hb : inB 1000000 b = true) (hn : a.length ≤ 256) (hab : b.length = a.length) (h0 : 0 < a.length) (hw : w ^ a.length % p = 1 % p) :
    dftN (resV (cycV a b)) p w 1 k = dftN (resV a) p w 1 k * dftN (resV b) p w 1 k % p := by
  have hz : (w ^ k) ^ a.length % p = 1 % p := by
    rw [← Nat.pow_mul, Nat.mul_comm, Nat.pow_mul, Nat.pow_mod, hw, ← Nat.pow_mod, Nat.one_pow]
  obtain ⟨_, _, h⟩ := cyc_ok a b p (w ^ k) ha hb hn hab h0 hz
  have c1 := dft_ev (cycV a b) p w k hp
  have c2 := dft_ev a p w k hp
  have c3 := dft_ev b p w k hp
  have lt : dftN (resV (cycV a b)) p w 1 k < p := Nat.mod_lt _ (by omega)
  have e := (c1.trans h).trans ((c2.symm.mul_right _).trans (c3.symm.mul_left _))
  rw [← Int.natCast_mul] at e
  have := e.to_nat
  rw [Nat.mod_eq_of_lt lt] at this
  exact this
end Go.Proofs.Ytilcnbommpncgaa.Cyc
