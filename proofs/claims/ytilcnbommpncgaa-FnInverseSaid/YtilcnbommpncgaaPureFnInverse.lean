/- The pure part of FnInverse: the inverse of a residue, sums of exponents, the two roots of one. No conditions. -/
import Derived.Test.YtilcnbommpncgaaQFnInversex3
import Derived.Test.YtilcnbommpncgaaBase
import Derived.Test.YtilcnbommpncgaaMod
import Derived.Test.YtilcnbommpncgaaFermat
namespace Go.Proofs.Ytilcnbommpncgaa.Pure
open Go.RowKit Go.Proofs.Ytilcnbommpncgaa.QFnInverse Go.Proofs.YtilcnbommpncgaaW.PrintWords Go.Proofs.YtilcnbommpncgaaW.PrintLast
open Go.Proofs.Ytilcnbommpncgaa.Base Go.Proofs.Ytilcnbommpncgaa.Mod Go.Proofs.Ytilcnbommpncgaa.Fermat
set_option linter.unusedVariables false
set_option linter.unusedSimpArgs false
/-! ### the cursor of a draw -/
def CurOk (b : List Int) (i : Int) : Prop := 0 ≤ i ∧ i ≤ (b.length : Int) ∧ b.length ≤ 2000000
theorem l1New_ev (b : List Int) (hb : b.length ≤ 2000000) : ∃ h, Ev (fun k => spec_l1New.f k b) (b, 0, h) := by
  unfold spec_l1New.f
  refine ⟨iter (fun i h => Go.bits .and .i64 (wrap64 ((wrap64 ((wrap64 (h * 131)) + (wrap64 (rd b (i : Int))))) + 7)) 1073741823) (min b.length 4000) (wrap64 (71933 + (b.length : Int))), ?_⟩
  rw [(for_iff (fun k h i => spec_l1New.l0 k b h i) (fun i h => Go.bits .and .i64 (wrap64 ((wrap64 ((wrap64 (h * 131)) + (wrap64 (rd b (i : Int))))) + 7)) 1073741823) (fun _ _ => True) (min b.length 4000) _ ?_ _ trivial).2]
  · rw [ev_shift]
    simp only [spec_l1New.l0]
    by_cases h : ((min b.length 4000 : Nat) : Int) < (b.length : Int)
    · rw [ev_pos h, ev_neg (by omega)]
      exact Ev.now _
    · rw [ev_neg h]
      exact Ev.now _
  · intro i s hi _
    refine ⟨trivial, ?_⟩
    rw [ev_shift]
    simp only [spec_l1New.l0]
    rw [ev_pos (by omega), ev_pos (by omega), ev_pos (by omega), w64 (n := (i : Int) + 1) (by omega) (by omega)]
theorem l1Byte_ok (b : List Int) (i h : Int) (hc : CurOk b i) : ∃ x i' h', spec_l1Byte.f b i h = some (x, i', h') ∧ CurOk b i' ∧ 0 ≤ x ∧ x ≤ 255 := by
  obtain ⟨h0, h1, h2⟩ := hc
  unfold spec_l1Byte.f
  by_cases c : i < (b.length : Int)
  · rw [if_pos c, if_pos h0]
    have := band_range
    refine ⟨_, _, _, rfl, ⟨?_, ?_, h2⟩, (band_range _ 255 (by omega) (by omega)).1, (band_range _ 255 (by omega) (by omega)).2⟩
    · rw [w64 (by omega) (by omega)]; omega
    · rw [w64 (by omega) (by omega)]; omega
  · rw [if_neg c]
    exact ⟨_, _, _, rfl, ⟨h0, h1, h2⟩, (band_range _ 255 (by omega) (by omega)).1, (band_range _ 255 (by omega) (by omega)).2⟩
theorem l1Below_ok (b : List Int) (i h n : Int) (hc : CurOk b i) : ∃ x i' h', spec_l1Below.f b i h n = some (x, i', h') ∧ CurOk b i' ∧ 0 ≤ x ∧ (0 < n → x < n) ∧ (n ≤ 0 → x = 0) := by
  unfold spec_l1Below.f
  by_cases c : n ≤ 0
  · rw [if_pos c]
    exact ⟨_, _, _, rfl, hc, by omega, by omega, fun _ => rfl⟩
  · rw [if_neg c]
    by_cases d : n ≤ 256
    · rw [if_pos d]
      obtain ⟨x, i1, h1, e, hc1, hx0, hx1⟩ := l1Byte_ok b i h hc
      rw [e]
      simp only [Option.bind_some]
      rw [if_neg (by omega)]
      refine ⟨_, _, _, rfl, hc1, ?_, fun _ => ?_, fun h => absurd h c⟩
      · exact Int.tmod_nonneg _ hx0
      · exact Int.tmod_lt_of_pos _ (by omega)
    · rw [if_neg d]
      obtain ⟨x, i1, h1, e, hc1, hx0, hx1⟩ := l1Byte_ok b i h hc
      rw [e]
      simp only [Option.bind_some]
      obtain ⟨y, i2, h2, e, hc2, hy0, hy1⟩ := l1Byte_ok b i1 h1 hc1
      rw [e]
      simp only [Option.bind_some]
      obtain ⟨z, i3, h3, e, hc3, hz0, hz1⟩ := l1Byte_ok b i2 h2 hc2
      rw [e]
      simp only [Option.bind_some]
      obtain ⟨w, i4, h4, e, hc4, hw0, hw1⟩ := l1Byte_ok b i3 h3 hc3
      rw [e]
      simp only [Option.bind_some]
      rw [if_neg (by omega)]
      refine ⟨_, _, _, rfl, hc4, ?_, fun _ => ?_, fun h => absurd h c⟩
      · refine Int.tmod_nonneg _ ?_
        rw [w64 (n := x * 16777216) (by omega) (by omega), w64 (n := y * 65536) (by omega) (by omega), w64 (n := z * 256) (by omega) (by omega), w64 (n := x * 16777216 + y * 65536) (by omega) (by omega), w64 (n := x * 16777216 + y * 65536 + z * 256) (by omega) (by omega), w64 (by omega) (by omega)]
        omega
      · exact Int.tmod_lt_of_pos _ (by omega)
theorem l1Once_ok (b : List Int) (i h n : Int) (hc : CurOk b i) : ∃ t i' h', spec_l1Once.f b i h n = some (t, i', h') ∧ CurOk b i' := by
  unfold spec_l1Once.f
  obtain ⟨x, i1, h1, e, hc1, _⟩ := l1Below_ok b i h n hc
  rw [e]
  exact ⟨_, _, _, rfl, hc1⟩

theorem l1PickInt_ok (b : List Int) (i h : Int) (l : List Int) (hl : 0 < l.length) (hc : CurOk b i) : ∃ x i' h', spec_l1PickInt.f b i h l = some (x, i', h') ∧ CurOk b i' ∧ x ∈ l := by
  unfold spec_l1PickInt.f
  obtain ⟨x, i1, h1, e, hc1, h0, hx, _⟩ := l1Below_ok b i h (l.length : Int) hc
  rw [e]
  simp only [Option.bind_some]
  have := hx (by omega)
  rw [if_pos h0, if_pos this]
  exact ⟨_, _, _, rfl, hc1, rd_mem h0 this⟩

theorem drawBig0_ok (b : List Int) : ∀ (n : Nat) (v i h : Int), n ≤ 100 → CurOk b i → ∃ r i' h', Ev (fun k => spec_l5DrawBig.l0 k v (n : Int) b i h) (r, i', h') ∧ CurOk b i' := by
  intro n
  induction n with
  | zero =>
    intro v i h _ hc
    obtain ⟨t, i1, h1, e1, hc1⟩ := l1Once_ok b i h 2 hc
    have fin : ∀ w : Int, ∃ r i' h', Ev (fun k => spec_l5DrawBig.j1 k w b i1 h1) (r, i', h') ∧ CurOk b i' := by
      intro w
      obtain ⟨u, i2, h2, e2, hc2⟩ := l1Once_ok b i1 h1 15 hc1
      by_cases c : u = true
      · obtain ⟨x, i3, h3, e3, hc3, _⟩ := l1PickInt_ok b i2 h2 [4000000000000000000, 4000000000000000001, (-4000000000000000000), (-4000000000000000001), 9223372036854775807, (-9223372036854775808)] (by simp) hc2
        refine ⟨x, i3, h3, ?_, hc3⟩
        rw [ev_shift]
        simp only [spec_l5DrawBig.j1]
        rw [e2, ev_sbind, ev_pos c]
        dsimp only
        rw [e3, ev_sbind]
        exact Ev.now _
      · refine ⟨w, i2, h2, ?_, hc2⟩
        rw [ev_shift]
        simp only [spec_l5DrawBig.j1]
        rw [e2, ev_sbind, ev_neg c]
        exact Ev.now _
    by_cases c : t = true
    · obtain ⟨r, i', h', e, k⟩ := fin (wrap64 (-v))
      refine ⟨r, i', h', ?_, k⟩
      rw [ev_shift]
      simp only [spec_l5DrawBig.l0]
      rw [ev_neg (by omega), e1, ev_sbind, ev_pos c]
      exact e
    · obtain ⟨r, i', h', e, k⟩ := fin v
      refine ⟨r, i', h', ?_, k⟩
      rw [ev_shift]
      simp only [spec_l5DrawBig.l0]
      rw [ev_neg (by omega), e1, ev_sbind, ev_neg c]
      exact e
  | succ n ih =>
    intro v i h hn hc
    obtain ⟨x, i1, h1, e1, hc1, _⟩ := l1Byte_ok b i h hc
    obtain ⟨r, i', h', e, k⟩ := ih (wrap64 ((wrap64 (v * 200)) + x)) i1 h1 (by omega) hc1
    refine ⟨r, i', h', ?_, k⟩
    rw [ev_shift]
    simp only [spec_l5DrawBig.l0]
    rw [ev_pos (by omega), e1, ev_sbind]
    dsimp only
    rw [w64 (n := ((n + 1 : Nat) : Int) - 1) (by omega) (by omega), show ((n + 1 : Nat) : Int) - 1 = (n : Int) by omega]
    exact e
theorem drawBig_ok (b : List Int) (i h : Int) (hc : CurOk b i) : ∃ r i' h', Ev (fun k => spec_l5DrawBig.f k b i h) (r, i', h') ∧ CurOk b i' := by
  unfold spec_l5DrawBig.f
  obtain ⟨n, i1, h1, e1, hc1, h0, hx, _⟩ := l1Below_ok b i h 8 hc
  have := hx (by omega)
  obtain ⟨q, rfl⟩ : ∃ q : Nat, n = (q : Int) := ⟨n.toNat, by omega⟩
  obtain ⟨r, i', h', e, k⟩ := drawBig0_ok b q 0 i1 h1 (by omega) hc1
  refine ⟨r, i', h', ?_, k⟩
  rw [e1, ev_sbind]
  exact e


theorem drawPrime_ok (b : List Int) (i h : Int) (hc : CurOk b i) : ∃ x i' h', spec_l6DrawPrime.f b i h = some (x, i', h') ∧ CurOk b i' ∧ -1 ≤ x ∧ x ≤ 998244354 := by
  unfold spec_l6DrawPrime.f
  obtain ⟨t, i1, h1, e, hc1⟩ := l1Once_ok b i h 25 hc
  rw [e]
  simp only [Option.bind_some]
  by_cases ht : t = true
  · rw [if_pos ht]
    obtain ⟨x, i2, h2, e2, hc2, hx⟩ := l1PickInt_ok b i1 h1 [0, 7, (-1), 998244354] (by simp) hc1
    rw [e2]
    simp only [List.mem_cons, List.not_mem_nil, or_false] at hx
    exact ⟨x, i2, h2, rfl, hc2, by omega, by omega⟩
  · rw [if_neg ht]
    obtain ⟨x, i2, h2, e2, hc2, hx⟩ := l1PickInt_ok b i1 h1 [998244353, 167772161, 469762049] (by simp) hc1
    rw [e2]
    simp only [List.mem_cons, List.not_mem_nil, or_false] at hx
    exact ⟨x, i2, h2, rfl, hc2, by omega, by omega⟩
theorem drawResidue_ok (b : List Int) (i h p : Int) (hc : CurOk b i) (h0 : -1 ≤ p) (h1 : p ≤ 998244354) : ∃ x i' h', spec_l6DrawResidue.f b i h p = some (x, i', h') ∧ CurOk b i' ∧ -5 ≤ x ∧ x ≤ 998244354 := by
  unfold spec_l6DrawResidue.f
  obtain ⟨t, i1, h1', e, hc1, _⟩ := l1Below_ok b i h 5 hc
  rw [e]
  simp only [Option.bind_some]
  by_cases c : t = 0
  · rw [if_pos c]
    obtain ⟨x, i2, h2, e2, hc2, hx0, hx, _⟩ := l1Below_ok b i1 h1' 5 hc1
    have := hx (by omega)
    rw [e2]
    exact ⟨x, i2, h2, rfl, hc2, by omega, by omega⟩
  · rw [if_neg c]
    by_cases d : t = 1
    · rw [if_pos d]
      obtain ⟨x, i2, h2, e2, hc2, hx0, hx, _⟩ := l1Below_ok b i1 h1' 3 hc1
      have := hx (by omega)
      rw [e2]
      simp only [Option.bind_some]
      rw [w64 (n := p - 1) (by omega) (by omega), w64 (by omega) (by omega)]
      exact ⟨_, i2, h2, rfl, hc2, by omega, by omega⟩
    · rw [if_neg d]
      obtain ⟨x, i2, h2, e2, hc2, hx0, hx, hz⟩ := l1Below_ok b i1 h1' p hc1
      rw [e2]
      refine ⟨x, i2, h2, rfl, hc2, by omega, ?_⟩
      by_cases q : 0 < p
      · have := hx q
        omega
      · have := hz (by omega)
        omega

theorem byte_of {x : Int} (h : (Lit.int .u8 x).wf = true) : 0 ≤ x ∧ x ≤ 255 := by
  have h1 : IntKind.u8.min ≤ x ∧ x ≤ IntKind.u8.max := by simpa [Lit.wf] using h
  have e1 : IntKind.u8.min = 0 := by decide
  have e2 : IntKind.u8.max = 255 := by decide
  omega
theorem at_ok (b : List Int) (i : Int) (hb : b.length ≤ 2000000) (hw : ∀ x ∈ b, (Lit.int .u8 x).wf = true) (h0 : 0 ≤ i) (h1 : i ≤ 1000000) : ∃ v, laws_at.f b i = some v ∧ 0 ≤ v ∧ v ≤ 255 := by
  unfold laws_at.f
  by_cases h : i < (b.length : Int)
  · have := byte_of (hw _ (rd_mem h0 h))
    rw [if_pos h, if_pos h0, w64 (by omega) (by omega)]
    exact ⟨_, rfl, this.1, this.2⟩
  · rw [if_neg h, w64 (n := i * 7) (by omega) (by omega), w64 (by omega) (by omega)]
    exact ⟨_, rfl, Int.tmod_nonneg _ (by omega), by have := Int.tmod_lt_of_pos (i * 7 + (b.length : Int)) (by omega : (0 : Int) < 256); omega⟩

theorem big_eq (l : List Int) : laws_big.f l = some (decide ((l.length : Int) > 1048576)) := rfl

theorem isPrime_eq (p : Int) : impl_isPrime.f p = some (decide (IsP p)) := by
  unfold impl_isPrime.f
  by_cases h1 : p = 998244353
  · rw [if_pos h1, decide_eq_true (.inl h1)]
  · rw [if_neg h1]
    by_cases h2 : p = 167772161
    · rw [if_pos h2, decide_eq_true (.inr (.inl h2))]
    · rw [if_neg h2]
      by_cases h3 : p = 469762049
      · rw [decide_eq_true (.inr (.inr h3))]
        simp [h3]
      · have : ¬ IsP p := fun h => by unfold IsP at h; omega
        rw [decide_eq_false this]
        simp [h3]
theorem residue_eq (a p : Int) : impl_residue.f a p = some (decide (0 ≤ a ∧ a < p)) := by
  unfold impl_residue.f
  by_cases h : a ≥ 0
  · rw [if_pos h]
    congr 1
    rw [decide_eq_decide]
    omega
  · rw [if_neg h]
    congr 1
    symm
    rw [decide_eq_false_iff_not]
    omega
theorem implPow0_ev (p : Nat) (hp : GoodP p) : ∀ (f n a r : Nat), n < 2 ^ f → n < 9223372036854775808 → a < p → r < p → Ev (fun k => impl_power.l0 k (a : Int) (n : Int) (p : Int) (r : Int)) ((r * a ^ n % p : Nat) : Int) := by
  have hp0 := hp.gt
  have hp1 := hp.lt
  intro f
  induction f with
  | zero =>
    intro n a r hf _ ha hr
    have : n = 0 := by omega
    subst this
    rw [ev_shift]
    simp only [impl_power.l0]
    rw [ev_neg (by omega), Nat.pow_zero, Nat.mul_one, Nat.mod_eq_of_lt hr]
    exact Ev.now _
  | succ f ih =>
    intro n a r hf hn ha hr
    rw [ev_shift]
    simp only [impl_power.l0]
    by_cases c : n = 0
    · subst c
      rw [ev_neg (by omega), Nat.pow_zero, Nat.mul_one, Nat.mod_eq_of_lt hr]
      exact Ev.now _
    · have hm1 := Nat.mod_lt (a * a) (by omega : 0 < p)
      have hm2 := Nat.mod_lt (r * a) (by omega : 0 < p)
      have e2 : (n : Int) / 2 = ((n / 2 : Nat) : Int) := by omega
      have hs := pow_step r a n p
      have hf2 : n / 2 < 2 ^ f := by rw [Nat.pow_succ] at hf; omega
      rw [ev_pos (by omega), band_one n hn, mulmod (by omega) (by omega), mulmod (by omega) (by omega), e2]
      by_cases d : n % 2 = 1
      · rw [if_pos d] at hs
        have g := ih (n / 2) (a * a % p) (r * a % p) hf2 (by omega) hm1 hm2
        rw [hs] at g
        rw [ev_pos (by omega), ev_neg (by omega)]
        exact g
      · rw [if_neg d] at hs
        have g := ih (n / 2) (a * a % p) r hf2 (by omega) hm1 hr
        rw [hs] at g
        rw [ev_neg (by omega), ev_neg (by omega)]
        exact g
theorem implPow_ev (p n a : Nat) (hp : GoodP p) (hn : n < 9223372036854775808) (ha : a < p) : Ev (fun k => impl_power.f k (a : Int) (n : Int) (p : Int)) ((a ^ n % p : Nat) : Int) := by
  unfold impl_power.f
  have g := implPow0_ev p hp 63 n a 1 (by omega) hn ha hp.gt
  rw [Nat.one_mul] at g
  exact g

theorem implInv_ev (a p : Nat) (hi : IsP (p : Int)) (hp : GoodP p) (h0 : 0 < a) (h1 : a < p) : Ev (fun k => impl_InvMod.f k (a : Int) (p : Int)) ((invN a p : Nat) : Int) := by
  have hp0 := hp.gt
  have hp1 := hp.lt
  unfold impl_InvMod.f
  rw [isPrime_eq, decide_eq_true hi, ev_sbind, ev_pos rfl, residue_eq, decide_eq_true (by omega), ev_sbind, ev_pos rfl, ev_neg (by omega), w64 (by omega) (by omega)]
  have e : (p : Int) - 2 = ((p - 2 : Nat) : Int) := by omega
  rw [e, ev_bind (implPow_ev p (p - 2) a hp (by omega) h1)]
  exact Ev.now _

theorem l1In_eq (a b c : Int) : spec_l1In.f a b c = some (decide (b ≤ a ∧ a ≤ c)) := by
  unfold spec_l1In.f
  by_cases h : a ≥ b
  · rw [if_pos h]
    congr 1
    rw [decide_eq_decide]
    omega
  · rw [if_neg h]
    congr 1
    symm
    rw [decide_eq_false_iff_not]
    omega

theorem l6Prime_eq (p : Int) : spec_l6Prime.f p = some (decide (IsP p)) := by
  unfold spec_l6Prime.f
  by_cases h1 : p = 998244353
  · rw [if_pos h1, decide_eq_true (.inl h1)]
  · rw [if_neg h1]
    by_cases h2 : p = 167772161
    · rw [if_pos h2, decide_eq_true (.inr (.inl h2))]
    · rw [if_neg h2]
      by_cases h3 : p = 469762049
      · rw [decide_eq_true (.inr (.inr h3))]
        simp [h3]
      · have : ¬ IsP p := fun h => by unfold IsP at h; omega
        rw [decide_eq_false this]
        simp [h3]
theorem specPow0_ev (p : Nat) (hp : GoodP p) : ∀ (f n a r : Nat), n < 2 ^ f → n < 9223372036854775808 → a < p → r < p → Ev (fun k => spec_PowMod.l0 k (a : Int) (n : Int) (p : Int) (r : Int)) ((r * a ^ n % p : Nat) : Int) := by
  have hp0 := hp.gt
  have hp1 := hp.lt
  intro f
  induction f with
  | zero =>
    intro n a r hf _ ha hr
    have : n = 0 := by omega
    subst this
    rw [ev_shift]
    simp only [spec_PowMod.l0]
    rw [ev_neg (by omega), Nat.pow_zero, Nat.mul_one, Nat.mod_eq_of_lt hr]
    exact Ev.now _
  | succ f ih =>
    intro n a r hf hn ha hr
    rw [ev_shift]
    simp only [spec_PowMod.l0]
    by_cases c : n = 0
    · subst c
      rw [ev_neg (by omega), Nat.pow_zero, Nat.mul_one, Nat.mod_eq_of_lt hr]
      exact Ev.now _
    · have hm1 := Nat.mod_lt (a * a) (by omega : 0 < p)
      have hm2 := Nat.mod_lt (r * a) (by omega : 0 < p)
      have e2 : Int.tdiv (n : Int) 2 = ((n / 2 : Nat) : Int) := (Int.ofNat_tdiv n 2).symm
      have e3 : Int.tmod (n : Int) 2 = ((n % 2 : Nat) : Int) := (Int.ofNat_tmod n 2).symm
      have hs := pow_step r a n p
      have hf2 : n / 2 < 2 ^ f := by rw [Nat.pow_succ] at hf; omega
      rw [ev_pos (by omega), e3, mulmod (by omega) (by omega), mulmod (by omega) (by omega), e2, w64 (n := ((n / 2 : Nat) : Int)) (by omega) (by omega)]
      by_cases d : n % 2 = 1
      · rw [if_pos d] at hs
        have g := ih (n / 2) (a * a % p) (r * a % p) hf2 (by omega) hm1 hm2
        rw [hs] at g
        rw [ev_pos (by omega), ev_neg (by omega)]
        exact g
      · rw [if_neg d] at hs
        have g := ih (n / 2) (a * a % p) r hf2 (by omega) hm1 hr
        rw [hs] at g
        rw [ev_neg (by omega), ev_neg (by omega)]
        exact g
theorem specPow_ev (p n a : Nat) (hi : IsP (p : Int)) (hp : GoodP p) (hn : n ≤ 4000000000000000000) (ha : a < p) : Ev (fun k => spec_PowMod.f k (a : Int) (n : Int) (p : Int)) ((a ^ n % p : Nat) : Int) := by
  have hp0 := hp.gt
  have hp1 := hp.lt
  unfold spec_PowMod.f
  rw [l6Prime_eq, decide_eq_true hi, ev_sbind, ev_pos rfl, w64 (by omega) (by omega), l1In_eq, decide_eq_true (by omega), ev_sbind, ev_pos rfl, l1In_eq, decide_eq_true (by omega), ev_sbind, ev_shift]
  simp only [spec_PowMod.j0, Bool.not_true, Bool.false_eq_true, if_false]
  have g := specPow0_ev p hp 63 n a 1 (by omega) (by omega) ha hp.gt
  rw [Nat.one_mul] at g
  exact g

theorem specInv_ev (a p : Nat) (hi : IsP (p : Int)) (hp : GoodP p) (h0 : 0 < a) (h1 : a < p) : Ev (fun k => spec_InvMod.f k (a : Int) (p : Int)) ((invN a p : Nat) : Int) := by
  have hp0 := hp.gt
  have hp1 := hp.lt
  unfold spec_InvMod.f
  rw [l6Prime_eq, decide_eq_true hi, ev_sbind, ev_pos rfl, w64 (n := (p : Int) - 1) (by omega) (by omega), l1In_eq, decide_eq_true (by omega), ev_sbind, ev_pos rfl, w64 (by omega) (by omega)]
  have e : (p : Int) - 2 = ((p - 2 : Nat) : Int) := by omega
  rw [e, ev_bind (specPow_ev p (p - 2) a hi hp (by omega) h1)]
  exact Ev.now _


theorem band_whole : ∀ n : Fin 257, 1 ≤ n.val → ((n.val &&& (n.val - 1)) == 0) = decide (Whole n.val) := by decide +kernel
theorem implWhole_eq (n : Nat) : impl_whole.f (n : Int) = some (decide (Whole n)) := by
  unfold impl_whole.f
  by_cases h0 : (n : Int) ≥ 1
  · rw [if_pos h0]
    by_cases h1 : (n : Int) ≤ 256
    · rw [if_pos h1, w64 (by omega) (by omega)]
      have e : (n : Int) - 1 = ((n - 1 : Nat) : Int) := by omega
      rw [e, band_nat n (n - 1) (by omega) (by omega)]
      have := band_whole ⟨n, by omega⟩ (by show 1 ≤ n; omega)
      simp only at this
      rw [← this]
      congr 1
      rw [Bool.eq_iff_iff, beq_iff_eq, beq_iff_eq]
      omega
    · rw [if_neg h1, decide_eq_false (fun h => by have := whole_le h; omega)]
  · rw [if_neg h0, decide_eq_false (fun h => by have := whole_le h; omega)]

theorem implUnit_ev (n p : Nat) (hi : IsP (p : Int)) (hp : GoodP p) (hn : Whole n) : Ev (fun k => impl_Unit.f k (n : Int) (p : Int)) ((unitN n p : Nat) : Int) := by
  have hp0 := hp.gt
  have hp1 := hp.lt
  have hn1 := whole_le hn
  have h3 : 3 < p := by unfold IsP at hi; omega
  unfold impl_Unit.f
  rw [isPrime_eq, decide_eq_true hi, ev_sbind, ev_pos rfl, implWhole_eq, decide_eq_true hn, ev_sbind, ev_pos rfl, ev_neg (by omega), w64 (n := (p : Int) - 1) (by omega) (by omega)]
  have e : (p : Int) - 1 = ((p - 1 : Nat) : Int) := by omega
  have e2 : Int.tdiv ((p - 1 : Nat) : Int) (n : Int) = (((p - 1) / n : Nat) : Int) := (Int.ofNat_tdiv (p - 1) n).symm
  have hd : (p - 1) / n ≤ p - 1 := Nat.div_le_self _ _
  unfold unitN
  rw [e, e2]
  generalize (p - 1) / n = D at *
  have g : Ev (fun k => impl_power.f k 3 (D : Int) (p : Int)) ((3 ^ D % p : Nat) : Int) := implPow_ev p D 3 hp (by omega) h3
  rw [w64 (by omega) (by omega), ev_bind g]
  exact Ev.now _

theorem drawPowMod0_ev (b : List Int) (p a i h : Int) (hc : CurOk b i) : ∃ n, Ev (fun k => spec_DrawPowMod.j0 k p a b i h) (a, n, p) := by
  obtain ⟨x, i1, h1, e1, hc1, _⟩ := l1Below_ok b i h 40 hc
  obtain ⟨t, i2, h2, e2, hc2⟩ := l1Once_ok b i1 h1 3 hc1
  by_cases c : t = true
  · obtain ⟨r, i3, h3, e3, hc3⟩ := drawBig_ok b i2 h2 hc2
    refine ⟨r, ?_⟩
    rw [ev_shift]
    simp only [spec_DrawPowMod.j0]
    rw [e1, ev_sbind]
    dsimp only
    rw [e2, ev_sbind, ev_pos c]
    dsimp only
    rw [ev_bind e3]
    exact Ev.now _
  · refine ⟨x, ?_⟩
    rw [ev_shift]
    simp only [spec_DrawPowMod.j0]
    rw [e1, ev_sbind]
    dsimp only
    rw [e2, ev_sbind, ev_neg c]
    exact Ev.now _
theorem drawPowMod_ev (b : List Int) (hb : b.length ≤ 2000000) : ∃ a n p, Ev (fun k => spec_DrawPowMod.f k b) (a, n, p) := by
  unfold spec_DrawPowMod.f
  obtain ⟨h, e1⟩ := l1New_ev b hb
  obtain ⟨p, i1, h1, e2, hc1, hp0, hp1⟩ := drawPrime_ok b 0 h ⟨by omega, by omega, hb⟩
  obtain ⟨a, i2, h2, e3, hc2, _⟩ := drawResidue_ok b i1 h1 p hc1 hp0 hp1
  obtain ⟨t, i3, h3, e4, hc3⟩ := l1Once_ok b i2 h2 20 hc2
  by_cases c : t = true
  · obtain ⟨x, i4, h4, e5, hc4, _⟩ := l1PickInt_ok b i3 h3 [(-1), p] (by simp) hc3
    obtain ⟨n, e6⟩ := drawPowMod0_ev b p x i4 h4 hc4
    refine ⟨x, n, p, ?_⟩
    rw [ev_bind e1]
    dsimp only
    rw [e2, ev_sbind]
    dsimp only
    rw [e3, ev_sbind]
    dsimp only
    rw [e4, ev_sbind, ev_pos c]
    dsimp only
    rw [e5, ev_sbind]
    exact e6
  · obtain ⟨n, e6⟩ := drawPowMod0_ev b p a i3 h3 hc3
    refine ⟨a, n, p, ?_⟩
    rw [ev_bind e1]
    dsimp only
    rw [e2, ev_sbind]
    dsimp only
    rw [e3, ev_sbind]
    dsimp only
    rw [e4, ev_sbind, ev_neg c]
    exact e6
theorem implPowMod_ev (a p n : Nat) (hi : IsP (p : Int)) (hp : GoodP p) (ha : a < p) (hn : n ≤ 4000000000000000000) : Ev (fun k => impl_PowMod.f k (a : Int) (n : Int) (p : Int)) ((a ^ n % p : Nat) : Int) := by
  have hp0 := hp.gt
  have hp1 := hp.lt
  unfold impl_PowMod.f
  rw [isPrime_eq, decide_eq_true hi, ev_sbind, ev_pos rfl, residue_eq, decide_eq_true (by omega), ev_sbind, ev_pos rfl, ev_neg (by omega), ev_neg (by omega), ev_bind (implPow_ev p n a hp (by omega) ha)]
  exact Ev.now _
theorem implPowMod_any (a n p : Int) : ∃ v, Ev (fun k => impl_PowMod.f k a n p) v := by
  by_cases hi : IsP p
  · obtain ⟨q, rfl, hq⟩ := good_of hi
    by_cases ha : 0 ≤ a ∧ a < (q : Int)
    · by_cases hn : 0 ≤ n ∧ n ≤ 4000000000000000000
      · obtain ⟨m, rfl⟩ : ∃ m : Nat, a = (m : Int) := ⟨a.toNat, by omega⟩
        obtain ⟨e, rfl⟩ : ∃ m : Nat, n = (m : Int) := ⟨n.toNat, by omega⟩
        exact ⟨_, implPowMod_ev m q e hi hq (by omega) (by omega)⟩
      · refine ⟨0, ?_⟩
        unfold impl_PowMod.f
        rw [isPrime_eq, decide_eq_true hi, ev_sbind, ev_pos rfl, residue_eq, decide_eq_true ha, ev_sbind, ev_pos rfl]
        by_cases c : n < 0
        · rw [ev_pos c]; exact Ev.now _
        · rw [ev_neg c, ev_pos (by omega)]; exact Ev.now _
    · refine ⟨0, ?_⟩
      unfold impl_PowMod.f
      rw [isPrime_eq, decide_eq_true hi, ev_sbind, ev_pos rfl, residue_eq, decide_eq_false ha, ev_sbind, ev_neg (by simp)]
      exact Ev.now _
  · refine ⟨0, ?_⟩
    unfold impl_PowMod.f
    rw [isPrime_eq, decide_eq_false hi, ev_sbind, ev_neg (by simp)]
    exact Ev.now _
theorem implInv_out (a p : Int) (h : ¬ (IsP p ∧ 0 < a ∧ a < p)) : Ev (fun k => impl_InvMod.f k a p) 0 := by
  unfold impl_InvMod.f
  by_cases hi : IsP p
  · rw [isPrime_eq, decide_eq_true hi, ev_sbind, ev_pos rfl, residue_eq, ev_sbind]
    by_cases ha : 0 ≤ a ∧ a < p
    · have : a = 0 := Classical.byContradiction fun z => h ⟨hi, by omega, ha.2⟩
      rw [decide_eq_true ha, ev_pos rfl, ev_pos this]
      exact Ev.now _
    · rw [decide_eq_false ha, ev_neg (by simp)]
      exact Ev.now _
  · rw [isPrime_eq, decide_eq_false hi, ev_sbind, ev_neg (by simp)]
    exact Ev.now _
theorem specInv_out (a p : Int) (h : ¬ (IsP p ∧ 0 < a ∧ a < p)) : Ev (fun k => spec_InvMod.f k a p) 0 := by
  unfold spec_InvMod.f
  by_cases hi : IsP p
  · have hb : p < 1000000000 ∧ 0 < p := by unfold IsP at hi; omega
    rw [l6Prime_eq, decide_eq_true hi, ev_sbind, ev_pos rfl, w64 (n := p - 1) (by omega) (by omega), l1In_eq, ev_sbind, decide_eq_false (fun z => h ⟨hi, by omega, by omega⟩), ev_neg (by simp)]
    exact Ev.now _
  · rw [l6Prime_eq, decide_eq_false hi, ev_sbind, ev_neg (by simp)]
    exact Ev.now _
theorem unit_nums {p : Nat} (hi : IsP (p : Int)) (hp : GoodP p) : ∃ u, u < p ∧ u ^ 256 % p = 1 ∧ u ^ 128 % p = p - 1 ∧ Ev (fun k => impl_Unit.f k 256 (p : Int)) (u : Int) := by
  have hw : Whole 256 := by decide
  have hp0 := hp.gt
  have hu := implUnit_ev 256 p hi hp hw
  have h1 : unitN 256 p ^ 256 % p = 1 := unit_one hp hw
  have h2 : unitN 256 p ^ 128 % p = (p - 1) % p := unit_half hp (m := 8) (by omega) (by omega)
  rw [Nat.mod_eq_of_lt (by omega : p - 1 < p)] at h2
  exact ⟨unitN 256 p, Nat.mod_lt _ (by omega), h1, h2, hu⟩
theorem tail1 : Ev (fun k => laws_FnInverse.j1 k false) true := by
  have hi : IsP ((469762049 : Nat) : Int) := .inr (.inr rfl)
  obtain ⟨u, h0, e2, e3, hu⟩ := unit_nums hi goodC
  have hu : Ev (fun k => impl_Unit.f k 256 469762049) (u : Int) := hu
  have g1 : Ev (fun k => impl_PowMod.f k (u : Int) 256 469762049) ((u ^ 256 % 469762049 : Nat) : Int) := implPowMod_ev u 469762049 256 hi goodC h0 (by omega)
  have g2 : Ev (fun k => impl_PowMod.f k (u : Int) 128 469762049) ((u ^ 128 % 469762049 : Nat) : Int) := implPowMod_ev u 469762049 128 hi goodC h0 (by omega)
  rw [e2] at g1
  rw [e3] at g2
  rw [ev_shift]
  simp only [laws_FnInverse.j1, Bool.false_eq_true, if_false]
  rw [ev_bind hu, ev_bind g1, ev_pos (by decide), ev_bind g2]
  exact Ev.now _
theorem tail0 (b : List Int) (hb : b.length ≤ 2000000) (hw : ∀ x ∈ b, (Lit.int .u8 x).wf = true) (a n p v : Int) (hv : v > 0 → IsP p ∧ 0 < a ∧ a < p) : Ev (fun k => laws_FnInverse.j0 k b a n p v false) true := by
  obtain ⟨s, es, hs0, hs1⟩ := at_ok b 3 hb hw (by omega) (by omega)
  obtain ⟨x, ex⟩ := implPowMod_any a n p
  rw [ev_shift]
  simp only [laws_FnInverse.j0, Bool.false_eq_true, if_false]
  rw [es, ev_sbind, ev_bind ex]
  by_cases c1 : n ≥ 0
  · by_cases c2 : n < 3999999999999999700
    · by_cases c3 : v > 0
      · obtain ⟨hi, ha0, ha1⟩ := hv c3
        obtain ⟨q, rfl, hq⟩ := good_of hi
        have hq0 := hq.gt
        have hq1 := hq.lt
        obtain ⟨m, rfl⟩ : ∃ m : Nat, a = (m : Int) := ⟨a.toNat, by omega⟩
        obtain ⟨e, rfl⟩ : ∃ m : Nat, n = (m : Int) := ⟨n.toNat, by omega⟩
        obtain ⟨d, rfl⟩ : ∃ m : Nat, s = (m : Int) := ⟨s.toNat, by omega⟩
        have g1 := implPowMod_ev m q e hi hq (by omega) (by omega)
        have g2 := implPowMod_ev m q d hi hq (by omega) (by omega)
        have g3 := implPowMod_ev m q (e + d) hi hq (by omega) (by omega)
        have hx := ev_uniq ex g1
        subst hx
        have b1 := Nat.mod_lt (m ^ e) (by omega : 0 < q)
        have b2 := Nat.mod_lt (m ^ d) (by omega : 0 < q)
        have key : m ^ e % q * (m ^ d % q) % q = m ^ (e + d) % q := by rw [← Nat.mul_mod, ← Nat.pow_add]
        rw [ev_pos c1, ev_pos c2, ev_pos c3, ev_bind g2, ev_neg (by omega), w64 (n := (e : Int) + (d : Int)) (by omega) (by omega), show (e : Int) + (d : Int) = ((e + d : Nat) : Int) by omega, ev_bind g3, mulmod (by omega) (by omega), key, bne_self_eq_false]
        exact tail1
      · rw [ev_pos c1, ev_pos c2, ev_neg c3]
        exact tail1
    · rw [ev_pos c1, ev_neg c2]
      exact tail1
  · rw [ev_neg c1]
    exact tail1
theorem FnInverse : laws_FnInverse.Pure := by
  intro l0 _ _ hw
  refine Ev.rounds (g := fun k => laws_FnInverse.f k l0) ?_
  simp only [laws_FnInverse.f]
  rw [big_eq, ev_sbind]
  by_cases hlen : (l0.length : Int) > 1048576
  · rw [ev_pos (by simpa using hlen)]
    exact Ev.now _
  rw [ev_neg (by simpa using hlen)]
  obtain ⟨a, n, p, hd⟩ := drawPowMod_ev l0 (by omega)
  rw [ev_bind hd]
  dsimp only
  by_cases h : IsP p ∧ 0 < a ∧ a < p
  · obtain ⟨hi, ha0, ha1⟩ := h
    obtain ⟨q, rfl, hq, hpr⟩ := Fermat.prime_good hi
    have hq0 := hq.gt
    have hq1 := hq.lt
    obtain ⟨m, rfl⟩ : ∃ m : Nat, a = (m : Int) := ⟨a.toNat, by omega⟩
    have key := Fermat.inv_mul hpr (a := m) (by omega) (by omega)
    have hb : invN m q < q := Nat.mod_lt _ (by omega)
    have hpos : 0 < invN m q := by
      rcases Nat.eq_zero_or_pos (invN m q) with z | z
      · rw [z, Nat.zero_mul, Nat.zero_mod] at key; omega
      · exact z
    have e1 := implInv_ev m q hi hq (by omega) (by omega)
    have e2 := specInv_ev m q hi hq (by omega) (by omega)
    generalize invN m q = w at *
    rw [ev_bind e1, ev_bind e2, ev_pos rfl, ev_pos (by omega), ev_neg (by omega), mulmod (by omega) (by omega), key]
    exact tail0 l0 (by omega) hw _ _ _ _ fun _ => ⟨hi, ha0, ha1⟩
  · rw [ev_bind (implInv_out a p h), ev_bind (specInv_out a p h), ev_pos rfl, ev_neg (by omega)]
    exact tail0 l0 (by omega) hw _ _ _ _ fun c => absurd c (by omega)

end Go.Proofs.Ytilcnbommpncgaa.Pure
