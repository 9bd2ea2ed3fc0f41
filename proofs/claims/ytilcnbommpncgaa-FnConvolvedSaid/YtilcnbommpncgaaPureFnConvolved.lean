/- The pure part of FnConvolved: a transform of a cyclic convolution is the product of the transforms. No conditions. -/
import Derived.Test.YtilcnbommpncgaaQFnConvolvedx6
import Derived.Test.YtilcnbommpncgaaBase
import Derived.Test.YtilcnbommpncgaaMod
import Derived.Test.YtilcnbommpncgaaWal
import Derived.Test.YtilcnbommpncgaaCyc
namespace Go.Proofs.Ytilcnbommpncgaa.Pure
open Go.RowKit Go.Proofs.Ytilcnbommpncgaa.QFnConvolved Go.Proofs.YtilcnbommpncgaaW.PrintWords Go.Proofs.YtilcnbommpncgaaW.PrintLast
open Go.Proofs.Ytilcnbommpncgaa.Base Go.Proofs.Ytilcnbommpncgaa.Mod Go.Proofs.Ytilcnbommpncgaa.Wal Go.Proofs.Ytilcnbommpncgaa.Cyc
set_option linter.unusedVariables false
set_option linter.unusedSimpArgs false
/-! ### the cursor of a draw -/
def CurOk (b : List Int) (i : Int) : Prop := 0 ≤ i ∧ i ≤ (b.length : Int) ∧ b.length ≤ 2000000
theorem l1New_ev (b : List Int) (hb : b.length ≤ 2000000) : ∃ h, Ev (fun k => spec_l1New.f k b) (b, 0, h) := by
  unfold spec_l1New.f
  refine ⟨iter (fun i h => Go.bits .and .i64 (wrap64 ((wrap64 ((wrap64 (h * 131)) + (wrap64 (rd b (i : Int))))) + 7)) 1073741823) (min b.length 4000) (wrap64 (71933 + (b.length : Int))), ?_⟩
  rw [(for_iff (fun k h i => spec_l1New.l0 k b h i) (fun i h => Go.bits .and .i64 (wrap64 ((wrap64 ((wrap64 (h * 131)) + (wrap64 (rd b (i : Int))))) + 7)) 1073741823) (fun _ _ => True) (min b.length 4000) _ ?_ _ trivial).2]
  · rw [ev_shift]
    simp only [spec_l1New.l0]
    by_cases h : ((min b.length 4000 : Nat) : Int) < (b.length : Int)
    · rw [ev_pos h, ev_neg (by omega)]
      exact Ev.now _
    · rw [ev_neg h]
      exact Ev.now _
  · intro i s hi _
    refine ⟨trivial, ?_⟩
    rw [ev_shift]
    simp only [spec_l1New.l0]
    rw [ev_pos (by omega), ev_pos (by omega), ev_pos (by omega), w64 (n := (i : Int) + 1) (by omega) (by omega)]
theorem l1Byte_ok (b : List Int) (i h : Int) (hc : CurOk b i) : ∃ x i' h', spec_l1Byte.f b i h = some (x, i', h') ∧ CurOk b i' ∧ 0 ≤ x ∧ x ≤ 255 := by
  obtain ⟨h0, h1, h2⟩ := hc
  unfold spec_l1Byte.f
  by_cases c : i < (b.length : Int)
  · rw [if_pos c, if_pos h0]
    have := band_range
    refine ⟨_, _, _, rfl, ⟨?_, ?_, h2⟩, (band_range _ 255 (by omega) (by omega)).1, (band_range _ 255 (by omega) (by omega)).2⟩
    · rw [w64 (by omega) (by omega)]; omega
    · rw [w64 (by omega) (by omega)]; omega
  · rw [if_neg c]
    exact ⟨_, _, _, rfl, ⟨h0, h1, h2⟩, (band_range _ 255 (by omega) (by omega)).1, (band_range _ 255 (by omega) (by omega)).2⟩
theorem l1Below_ok (b : List Int) (i h n : Int) (hc : CurOk b i) : ∃ x i' h', spec_l1Below.f b i h n = some (x, i', h') ∧ CurOk b i' ∧ 0 ≤ x ∧ (0 < n → x < n) ∧ (n ≤ 0 → x = 0) := by
  unfold spec_l1Below.f
  by_cases c : n ≤ 0
  · rw [if_pos c]
    exact ⟨_, _, _, rfl, hc, by omega, by omega, fun _ => rfl⟩
  · rw [if_neg c]
    by_cases d : n ≤ 256
    · rw [if_pos d]
      obtain ⟨x, i1, h1, e, hc1, hx0, hx1⟩ := l1Byte_ok b i h hc
      rw [e]
      simp only [Option.bind_some]
      rw [if_neg (by omega)]
      refine ⟨_, _, _, rfl, hc1, ?_, fun _ => ?_, fun h => absurd h c⟩
      · exact Int.tmod_nonneg _ hx0
      · exact Int.tmod_lt_of_pos _ (by omega)
    · rw [if_neg d]
      obtain ⟨x, i1, h1, e, hc1, hx0, hx1⟩ := l1Byte_ok b i h hc
      rw [e]
      simp only [Option.bind_some]
      obtain ⟨y, i2, h2, e, hc2, hy0, hy1⟩ := l1Byte_ok b i1 h1 hc1
      rw [e]
      simp only [Option.bind_some]
      obtain ⟨z, i3, h3, e, hc3, hz0, hz1⟩ := l1Byte_ok b i2 h2 hc2
      rw [e]
      simp only [Option.bind_some]
      obtain ⟨w, i4, h4, e, hc4, hw0, hw1⟩ := l1Byte_ok b i3 h3 hc3
      rw [e]
      simp only [Option.bind_some]
      rw [if_neg (by omega)]
      refine ⟨_, _, _, rfl, hc4, ?_, fun _ => ?_, fun h => absurd h c⟩
      · refine Int.tmod_nonneg _ ?_
        rw [w64 (n := x * 16777216) (by omega) (by omega), w64 (n := y * 65536) (by omega) (by omega), w64 (n := z * 256) (by omega) (by omega), w64 (n := x * 16777216 + y * 65536) (by omega) (by omega), w64 (n := x * 16777216 + y * 65536 + z * 256) (by omega) (by omega), w64 (by omega) (by omega)]
        omega
      · exact Int.tmod_lt_of_pos _ (by omega)
theorem l1Once_ok (b : List Int) (i h n : Int) (hc : CurOk b i) : ∃ t i' h', spec_l1Once.f b i h n = some (t, i', h') ∧ CurOk b i' := by
  unfold spec_l1Once.f
  obtain ⟨x, i1, h1, e, hc1, _⟩ := l1Below_ok b i h n hc
  rw [e]
  exact ⟨_, _, _, rfl, hc1⟩

theorem l1PickInt_ok (b : List Int) (i h : Int) (l : List Int) (hl : 0 < l.length) (hc : CurOk b i) : ∃ x i' h', spec_l1PickInt.f b i h l = some (x, i', h') ∧ CurOk b i' ∧ x ∈ l := by
  unfold spec_l1PickInt.f
  obtain ⟨x, i1, h1, e, hc1, h0, hx, _⟩ := l1Below_ok b i h (l.length : Int) hc
  rw [e]
  simp only [Option.bind_some]
  have := hx (by omega)
  rw [if_pos h0, if_pos this]
  exact ⟨_, _, _, rfl, hc1, rd_mem h0 this⟩

theorem l1Size_eq (l : List Int) (m : Int) (hl : l.length ≤ 2000000) (hm : 2 ≤ m) : ∃ s, spec_l1Size.f l m = some s ∧ 2 ≤ s ∧ s ≤ m := by
  unfold spec_l1Size.f
  rw [w64 (n := (l.length : Int) / 20) (by omega) (by omega), w64 (by omega) (by omega)]
  by_cases h : 2 + (l.length : Int) / 20 > m
  · rw [if_pos h]
    exact ⟨m, rfl, hm, by omega⟩
  · rw [if_neg h]
    exact ⟨_, rfl, by omega, by omega⟩

theorem l6DrawTapsLoop (b : List Int) : ∀ (n : Nat) (s : List Int) (i h : Int), CurOk b i → s.length + n ≤ 1000000 →
    ∃ r i' h', Ev (fun k => spec_l6DrawTaps.l0 k s (n : Int) b i h) (r, i', h') ∧ CurOk b i' ∧ r.length ≤ s.length + n + 1 := by
  intro n
  induction n with
  | zero =>
    intro s i h hc hn
    obtain ⟨t, i1, h1, e, hc1⟩ := l1Once_ok b i h 40 hc
    by_cases ht : t = true
    · obtain ⟨x, i2, h2, e2, hc2, _⟩ := l1PickInt_ok b i1 h1 [1000001, (-1000001)] (by simp) hc1
      refine ⟨s ++ [x], i2, h2, ?_, hc2, by simp⟩
      rw [ev_shift]
      simp only [spec_l6DrawTaps.l0, e, Option.bind_some]
      rw [ev_neg (by omega), ev_pos ht]
      simp only [e2, Option.bind_some]
      rw [ev_pos (by omega)]
      exact Ev.now _
    · refine ⟨s, i1, h1, ?_, hc1, by omega⟩
      rw [ev_shift]
      simp only [spec_l6DrawTaps.l0, e, Option.bind_some]
      rw [ev_neg (by omega), ev_neg ht]
      exact Ev.now _
  | succ n ih =>
    intro s i h hc hn
    obtain ⟨x, i1, h1, e, hc1, _⟩ := l1Below_ok b i h 41 hc
    obtain ⟨t, i2, h2, e2, hc2⟩ := l1Once_ok b i1 h1 20 hc1
    have e9 : ((n + 1 : Nat) : Int) - 1 = (n : Int) := by omega
    by_cases ht : t = true
    · obtain ⟨y, i3, h3, e3, hc3, _⟩ := l1PickInt_ok b i2 h2 [1000000, (-1000000), 999] (by simp) hc2
      obtain ⟨r, i4, h4, e4, hc4, hr⟩ := ih ((s ++ [wrap64 (x - 20)]).set ((((s ++ [wrap64 (x - 20)]).length : Int) - 1).toNat) y) i3 h3 hc3 (by simp; omega)
      have el : (s ++ [wrap64 (x - 20)]).length = s.length + 1 := by simp
      refine ⟨r, i4, h4, ?_, hc4, by simp at hr; omega⟩
      rw [ev_shift]
      simp only [spec_l6DrawTaps.l0, e, Option.bind_some]
      rw [ev_pos (by omega), ev_pos (by omega)]
      simp only [e2, Option.bind_some]
      rw [ev_pos ht]
      simp only [e3, Option.bind_some]
      rw [w64 (n := ((s ++ [wrap64 (x - 20)]).length : Int) - 1) (by omega) (by omega), ev_pos (by omega), ev_pos (by omega), w64 (n := ((n + 1 : Nat) : Int) - 1) (by omega) (by omega), e9]
      exact e4
    · obtain ⟨r, i4, h4, e4, hc4, hr⟩ := ih (s ++ [wrap64 (x - 20)]) i2 h2 hc2 (by simp; omega)
      refine ⟨r, i4, h4, ?_, hc4, by simp at hr; omega⟩
      rw [ev_shift]
      simp only [spec_l6DrawTaps.l0, e, Option.bind_some]
      rw [ev_pos (by omega), ev_pos (by omega)]
      simp only [e2, Option.bind_some]
      rw [ev_neg ht, w64 (n := ((n + 1 : Nat) : Int) - 1) (by omega) (by omega), e9]
      exact e4
theorem l6DrawTaps_ev (b : List Int) (i h m : Int) (hc : CurOk b i) (h0 : 0 ≤ m) (h1 : m ≤ 1000) :
    ∃ r i' h', Ev (fun k => spec_l6DrawTaps.f k b i h m) (r, i', h') ∧ CurOk b i' ∧ (r.length : Int) ≤ m + 1 := by
  unfold spec_l6DrawTaps.f
  rw [w64 (by omega) (by omega)]
  obtain ⟨x, i1, h1', e, hc1, hx0, hx, _⟩ := l1Below_ok b i h (m + 1) hc
  rw [e]
  simp only [Option.bind_some]
  have := hx (by omega)
  obtain ⟨r, i2, h2, e2, hc2, hr⟩ := l6DrawTapsLoop b x.toNat [] i1 h1' hc1 (by simp; omega)
  rw [Int.toNat_of_nonneg hx0] at e2
  exact ⟨r, i2, h2, e2, hc2, by simp at hr; omega⟩

theorem big_eq (l : List Int) : laws_big.f l = some (decide ((l.length : Int) > 1048576)) := rfl

theorem sameInts_ev (a b : List Int) (h : a.length ≤ 2000000) : Ev (fun k => laws_sameInts.f k a b) (decide (a = b)) := by
  unfold laws_sameInts.f
  by_cases e : a.length = b.length
  · rw [ev_pos (by omega)]
    rw [all_iff (fun k i => laws_sameInts.l0 k a b i) (fun i => decide (rd a (i : Int) = rd b (i : Int))) a.length _ false]
    · split
      · rename_i hp
        have : a = b := list_ext_rd e fun i hi => by simpa using range_all.1 hp i hi
        rw [decide_eq_true this]
        exact Ev.step (fun k => by simp only [laws_sameInts.l0]; rw [if_neg (by omega)]) (Ev.now _)
      · rename_i hp
        have : ¬ a = b := fun h => hp (by subst h; rw [range_all]; simp)
        simp [this]
    · intro i hi
      by_cases p : rd a (i : Int) = rd b (i : Int)
      · rw [if_pos (by simpa using p)]
        rw [ev_shift]
        simp only [laws_sameInts.l0]
        rw [ev_pos (by omega), ev_pos (by omega), ev_pos (by omega), ev_pos p, w64 (by omega) (by omega)]
      · rw [if_neg (by simpa using p)]
        rw [ev_shift]
        simp only [laws_sameInts.l0]
        rw [ev_pos (by omega), ev_pos (by omega), ev_pos (by omega), ev_neg p, ev_some_iff]
  · rw [ev_neg (by omega)]
    have : ¬ a = b := fun h => e (by rw [h])
    simp only [this, decide_false]
    exact Ev.now _


theorem isPrime_eq (p : Int) : impl_isPrime.f p = some (decide (IsP p)) := by
  unfold impl_isPrime.f
  by_cases h1 : p = 998244353
  · rw [if_pos h1, decide_eq_true (.inl h1)]
  · rw [if_neg h1]
    by_cases h2 : p = 167772161
    · rw [if_pos h2, decide_eq_true (.inr (.inl h2))]
    · rw [if_neg h2]
      by_cases h3 : p = 469762049
      · rw [decide_eq_true (.inr (.inr h3))]
        simp [h3]
      · have : ¬ IsP p := fun h => by unfold IsP at h; omega
        rw [decide_eq_false this]
        simp [h3]
theorem residue_eq (a p : Int) : impl_residue.f a p = some (decide (0 ≤ a ∧ a < p)) := by
  unfold impl_residue.f
  by_cases h : a ≥ 0
  · rw [if_pos h]
    congr 1
    rw [decide_eq_decide]
    omega
  · rw [if_neg h]
    congr 1
    symm
    rw [decide_eq_false_iff_not]
    omega
theorem implPow0_ev (p : Nat) (hp : GoodP p) : ∀ (f n a r : Nat), n < 2 ^ f → n < 9223372036854775808 → a < p → r < p → Ev (fun k => impl_power.l0 k (a : Int) (n : Int) (p : Int) (r : Int)) ((r * a ^ n % p : Nat) : Int) := by
  have hp0 := hp.gt
  have hp1 := hp.lt
  intro f
  induction f with
  | zero =>
    intro n a r hf _ ha hr
    have : n = 0 := by omega
    subst this
    rw [ev_shift]
    simp only [impl_power.l0]
    rw [ev_neg (by omega), Nat.pow_zero, Nat.mul_one, Nat.mod_eq_of_lt hr]
    exact Ev.now _
  | succ f ih =>
    intro n a r hf hn ha hr
    rw [ev_shift]
    simp only [impl_power.l0]
    by_cases c : n = 0
    · subst c
      rw [ev_neg (by omega), Nat.pow_zero, Nat.mul_one, Nat.mod_eq_of_lt hr]
      exact Ev.now _
    · have hm1 := Nat.mod_lt (a * a) (by omega : 0 < p)
      have hm2 := Nat.mod_lt (r * a) (by omega : 0 < p)
      have e2 : (n : Int) / 2 = ((n / 2 : Nat) : Int) := by omega
      have hs := pow_step r a n p
      have hf2 : n / 2 < 2 ^ f := by rw [Nat.pow_succ] at hf; omega
      rw [ev_pos (by omega), band_one n hn, mulmod (by omega) (by omega), mulmod (by omega) (by omega), e2]
      by_cases d : n % 2 = 1
      · rw [if_pos d] at hs
        have g := ih (n / 2) (a * a % p) (r * a % p) hf2 (by omega) hm1 hm2
        rw [hs] at g
        rw [ev_pos (by omega), ev_neg (by omega)]
        exact g
      · rw [if_neg d] at hs
        have g := ih (n / 2) (a * a % p) r hf2 (by omega) hm1 hr
        rw [hs] at g
        rw [ev_neg (by omega), ev_neg (by omega)]
        exact g
theorem implPow_ev (p n a : Nat) (hp : GoodP p) (hn : n < 9223372036854775808) (ha : a < p) : Ev (fun k => impl_power.f k (a : Int) (n : Int) (p : Int)) ((a ^ n % p : Nat) : Int) := by
  unfold impl_power.f
  have g := implPow0_ev p hp 63 n a 1 (by omega) hn ha hp.gt
  rw [Nat.one_mul] at g
  exact g

theorem implInv_ev (a p : Nat) (hi : IsP (p : Int)) (hp : GoodP p) (h0 : 0 < a) (h1 : a < p) : Ev (fun k => impl_InvMod.f k (a : Int) (p : Int)) ((invN a p : Nat) : Int) := by
  have hp0 := hp.gt
  have hp1 := hp.lt
  unfold impl_InvMod.f
  rw [isPrime_eq, decide_eq_true hi, ev_sbind, ev_pos rfl, residue_eq, decide_eq_true (by omega), ev_sbind, ev_pos rfl, ev_neg (by omega), w64 (by omega) (by omega)]
  have e : (p : Int) - 2 = ((p - 2 : Nat) : Int) := by omega
  rw [e, ev_bind (implPow_ev p (p - 2) a hp (by omega) h1)]
  exact Ev.now _


theorem band_whole : ∀ n : Fin 257, 1 ≤ n.val → ((n.val &&& (n.val - 1)) == 0) = decide (Whole n.val) := by decide +kernel
theorem implWhole_eq (n : Nat) : impl_whole.f (n : Int) = some (decide (Whole n)) := by
  unfold impl_whole.f
  by_cases h0 : (n : Int) ≥ 1
  · rw [if_pos h0]
    by_cases h1 : (n : Int) ≤ 256
    · rw [if_pos h1, w64 (by omega) (by omega)]
      have e : (n : Int) - 1 = ((n - 1 : Nat) : Int) := by omega
      rw [e, band_nat n (n - 1) (by omega) (by omega)]
      have := band_whole ⟨n, by omega⟩ (by show 1 ≤ n; omega)
      simp only at this
      rw [← this]
      congr 1
      rw [Bool.eq_iff_iff, beq_iff_eq, beq_iff_eq]
      omega
    · rw [if_neg h1, decide_eq_false (fun h => by have := whole_le h; omega)]
  · rw [if_neg h0, decide_eq_false (fun h => by have := whole_le h; omega)]

theorem implUnit_ev (n p : Nat) (hi : IsP (p : Int)) (hp : GoodP p) (hn : Whole n) : Ev (fun k => impl_Unit.f k (n : Int) (p : Int)) ((unitN n p : Nat) : Int) := by
  have hp0 := hp.gt
  have hp1 := hp.lt
  have hn1 := whole_le hn
  have h3 : 3 < p := by unfold IsP at hi; omega
  unfold impl_Unit.f
  rw [isPrime_eq, decide_eq_true hi, ev_sbind, ev_pos rfl, implWhole_eq, decide_eq_true hn, ev_sbind, ev_pos rfl, ev_neg (by omega), w64 (n := (p : Int) - 1) (by omega) (by omega)]
  have e : (p : Int) - 1 = ((p - 1 : Nat) : Int) := by omega
  have e2 : Int.tdiv ((p - 1 : Nat) : Int) (n : Int) = (((p - 1) / n : Nat) : Int) := (Int.ofNat_tdiv (p - 1) n).symm
  have hd : (p - 1) / n ≤ p - 1 := Nat.div_le_self _ _
  unfold unitN
  rw [e, e2]
  generalize (p - 1) / n = D at *
  have g : Ev (fun k => impl_power.f k 3 (D : Int) (p : Int)) ((3 ^ D % p : Nat) : Int) := implPow_ev p D 3 hp (by omega) h3
  rw [w64 (by omega) (by omega), ev_bind g]
  exact Ev.now _

theorem implRow_ev (l : List Int) (p : Int) (hl : l.length ≤ 2000000) (hp0 : 0 ≤ p) (hp1 : p ≤ 2000000000) : ∃ b, Ev (fun k => impl_row.f k l p) b ∧ (b = true ↔ l.length ≤ 256 ∧ RowOk p l) := by
  unfold impl_row.f
  refine ⟨(List.range l.length).all (fun i => decide (0 ≤ rd l (i : Int) ∧ rd l (i : Int) < p)) && decide (l.length ≤ 256), ?_, ?_⟩
  · rw [all_iff (fun k i => impl_row.l0 k l p l (l.length : Int) i) (fun i => decide (0 ≤ rd l (i : Int) ∧ rd l (i : Int) < p)) l.length _ false]
    · split
      · rename_i hq
        rw [hq, Bool.true_and, ev_shift]
        simp only [impl_row.l0]
        rw [ev_neg (by omega), ev_some_iff, decide_eq_decide]
        omega
      · rename_i hq
        simp only [Bool.not_eq_true] at hq
        rw [hq, Bool.false_and]
    · intro i hi
      by_cases c : 0 ≤ rd l (i : Int) ∧ rd l (i : Int) < p
      · rw [if_pos (by simpa using c), ev_shift]
        simp only [impl_row.l0]
        rw [ev_pos (by omega), ev_pos (by omega), ev_pos (by omega), residue_eq, ev_sbind, ev_pos (by simpa using c), w64 (by omega) (by omega)]
      · rw [if_neg (by simpa using c), ev_shift]
        simp only [impl_row.l0]
        rw [ev_pos (by omega), ev_pos (by omega), ev_pos (by omega), residue_eq, ev_sbind, ev_neg (by simpa using c), ev_some_iff]
  · rw [Bool.and_eq_true, range_all, decide_eq_true_eq]
    constructor
    · rintro ⟨h1, h2⟩
      exact ⟨h2, fun i hi => by simpa using h1 i hi⟩
    · rintro ⟨h1, h2⟩
      exact ⟨fun i hi => by simpa using h2 i hi, h1⟩
theorem implTurns_ev (l : List Int) (p w sc : Nat) (r : List Int × Bool) (hp : GoodP p) (hw : w < p) (hn0 : 0 < l.length) (hn : l.length ≤ 256)
    (h : Ev (fun k => impl_Dft.l0 k l (p : Int) (l.length : Int) (w : Int) (sc : Int) (tab l.length fun j => ((w ^ j % p : Nat) : Int)) (l.length : Int)) r) :
    Ev (fun k => impl_Dft.l0 k l (p : Int) (l.length : Int) (w : Int) (sc : Int) ((List.replicate l.length 0).set 0 1) 1) r := by
  have hp0 := hp.gt
  have hp1 := hp.lt
  have g := for_at (fun k s i => impl_Dft.l0 k l (p : Int) (l.length : Int) (w : Int) (sc : Int) s i) (fun i _ => tab l.length fun j => if j < i + 2 then ((w ^ j % p : Nat) : Int) else 0) (fun i s => s = tab l.length fun j => if j < i + 1 then ((w ^ j % p : Nat) : Int) else 0) 1 (l.length - 1) r ?_ ((List.replicate l.length 0).set 0 1) ?_
  · rw [g.2, g.1]
    have e : (1 : Int) + ((l.length - 1 : Nat) : Int) = (l.length : Int) := by omega
    rw [e]
    have e2 : (tab l.length fun j => if j < l.length - 1 + 1 then ((w ^ j % p : Nat) : Int) else 0) = tab l.length fun j => ((w ^ j % p : Nat) : Int) := tab_congr fun j hj => by rw [if_pos (by omega)]
    rw [e2]
    exact h
  · intro i s hi hs
    subst hs
    refine ⟨rfl, ?_⟩
    rw [ev_shift]
    simp only [impl_Dft.l0, tab_length]
    have e1 : (1 : Int) + (i : Int) - 1 = (i : Int) := by omega
    have hm := Nat.mod_lt (w ^ i) (by omega : 0 < p)
    rw [ev_pos (by omega), e1, w64 (n := (i : Int)) (by omega) (by omega), rd_tab' (by omega), if_pos (by omega), mulmod (by omega) (by omega), ev_pos (by omega), ev_pos (by omega), ev_neg (by omega), ev_pos (by omega), ev_pos (by omega), w64 (n := (1 : Int) + (i : Int) + 1) (by omega) (by omega)]
    have e2 : ((1 : Int) + (i : Int)).toNat = i + 1 := by omega
    rw [e2, set_tab _ _ (by omega)]
    have e3 : (tab l.length fun m => if m = i + 1 then ((w ^ i % p * w % p : Nat) : Int) else if m < i + 1 then ((w ^ m % p : Nat) : Int) else 0) = tab l.length fun j => if j < i + 2 then ((w ^ j % p : Nat) : Int) else 0 := by
      refine tab_congr fun j _ => ?_
      by_cases c : j = i + 1
      · subst c
        rw [if_pos rfl, if_pos (by omega), Nat.pow_succ, Nat.mod_mul_mod]
      · rw [if_neg c]
        by_cases d : j < i + 1
        · rw [if_pos d, if_pos (by omega)]
        · rw [if_neg d, if_neg (by omega)]
    rw [e3]
  · refine eq_tab (by simp) fun j hj => ?_
    have h := rd_set (l := List.replicate l.length (0 : Int)) (i := (j : Int)) (j := 0) (v := 1) (by omega) (by simp; omega) (by omega)
    have e0 : (0 : Int).toNat = 0 := rfl
    rw [e0] at h
    rw [h]
    by_cases c : j = 0
    · subst c
      simp [Nat.mod_eq_of_lt hp0]
    · rw [if_neg (by omega), if_neg (by omega), rd_replicate]
theorem implCore_ev (l : List Int) (p w sc : Nat) (hp : GoodP p) (hw : w < p) (hsc : sc < p) (hn0 : 0 < l.length) (hn : l.length ≤ 256) (hr : RowOk (p : Int) l) (hper : w ^ l.length % p = 1) :
    Ev (fun k => impl_Dft.j1 k l (p : Int) (l.length : Int) (w : Int) (sc : Int)) (dftV l p w sc, true) := by
  have hp0 := hp.gt
  have hp1 := hp.lt
  rw [ev_shift]
  simp only [impl_Dft.j1]
  have hrep : (List.replicate l.length (0 : Int)).length = l.length := by simp
  have e0 : (0 : Int).toNat = 0 := rfl
  rw [ev_pos (by omega), Int.toNat_natCast, ev_pos (by omega), ev_sbind, ev_pos (by omega), e0]
  refine implTurns_ev l p w sc _ hp hw hn0 hn ?_
  rw [ev_shift]
  simp only [impl_Dft.l0]
  rw [ev_neg (by omega), ev_pos (by omega), Int.toNat_natCast, ev_pos (by omega), ev_sbind, hrep]
  have hmap := map_loop (fun k s i => impl_Dft.l1 k l (p : Int) (l.length : Int) (sc : Int) (tab l.length fun j => ((w ^ j % p : Nat) : Int)) s (l.length : Int) i) (List.replicate l.length 0) (fun k => (dftN l p w sc k : Int)) (dftV l p w sc, true) ?_
  · rw [hmap, hrep, ev_shift]
    simp only [impl_Dft.l1]
    rw [ev_neg (by omega)]
    exact Ev.now _
  · intro k s hk hs _
    rw [hrep] at hk hs
    rw [ev_shift]
    simp only [impl_Dft.l1]
    rw [ev_pos (by omega)]
    have g := for_iff (fun q c i => impl_Dft.l2 q l (p : Int) (l.length : Int) (sc : Int) (tab l.length fun j => ((w ^ j % p : Nat) : Int)) s (k : Int) c (l.length : Int) (k : Int) l (l.length : Int) i) (fun i _ => ((sumN (fun i => (rd l (i : Int)).toNat * w ^ (i * k)) (i + 1) % p : Nat) : Int)) (fun i c => c = ((sumN (fun i => (rd l (i : Int)).toNat * w ^ (i * k)) i % p : Nat) : Int)) l.length (dftV l p w sc, true) ?_ 0 ?_
    · rw [g.2, g.1, ev_shift]
      simp only [impl_Dft.l2]
      have hm := Nat.mod_lt (sumN (fun i => (rd l (i : Int)).toNat * w ^ (i * k)) l.length) (by omega : 0 < p)
      rw [ev_neg (by omega), ev_neg (by omega), ev_pos (by omega), ev_pos (by omega), mulmod (by omega) (by omega), w64 (by omega) (by omega), Int.toNat_natCast, Nat.mod_mul_mod]
      exact Iff.rfl
    · intro i c hi hc
      subst hc
      refine ⟨rfl, ?_⟩
      rw [ev_shift]
      simp only [impl_Dft.l2, tab_length]
      have h256 : i * k ≤ 256 * 256 := Nat.mul_le_mul (by omega) (by omega)
      have e1 : (i : Int) * (k : Int) = ((i * k : Nat) : Int) := by simp
      have hmn := Nat.mod_lt (i * k) hn0
      have hm := Nat.mod_lt (sumN (fun i => (rd l (i : Int)).toNat * w ^ (i * k)) i) (by omega : 0 < p)
      have hm2 := Nat.mod_lt (w ^ (i * k % l.length)) (by omega : 0 < p)
      obtain ⟨x0, x1⟩ := hr i hi
      have ex : rd l (i : Int) = ((rd l (i : Int)).toNat : Int) := by omega
      rw [e1, w64 (n := ((i * k : Nat) : Int)) (by omega) (by omega), tmod_nat, rd_tab' hmn, ex, addmulmod (by omega) (by omega) (by omega), ev_pos (by omega), ev_pos (by omega), ev_pos (by omega), ev_neg (by omega), ev_pos (by omega), ev_pos (by omega), ev_neg (by omega), w64 (n := (i : Int) + 1) (by omega) (by omega)]
      have key : (sumN (fun i => (rd l (i : Int)).toNat * w ^ (i * k)) i % p + (rd l (i : Int)).toNat * (w ^ (i * k % l.length) % p)) % p = sumN (fun i => (rd l (i : Int)).toNat * w ^ (i * k)) (i + 1) % p := by
        have hq : w ^ l.length % p = 1 % p := by rw [hper, Nat.mod_eq_of_lt hp0]
        rw [← pow_period hq, sumN_succ, Nat.add_mod, Nat.mod_mod, Nat.mul_mod, Nat.mod_mod, ← Nat.mul_mod, ← Nat.add_mod]
      rw [key]
    · rfl
theorem implDft_ev (l : List Int) (p : Int) (back : Bool) (hl : l.length ≤ 2000000) : Ev (fun k => impl_Dft.f k l p back) (dftR l p back) := by
  unfold impl_Dft.f
  have no : ¬ (IsP p ∧ l.length ≤ 256 ∧ RowOk p l ∧ Whole l.length) → Ev (fun k => impl_Dft.j0 k l p back (l.length : Int) true) (dftR l p back) := by
    intro h
    rw [ev_shift, dftR, if_neg h]
    simp only [impl_Dft.j0, if_true]
    exact Ev.now _
  rw [isPrime_eq, ev_sbind]
  by_cases h1 : IsP p
  · obtain ⟨q, rfl, hq⟩ := good_of h1
    have hp0 := hq.gt
    have hp1 := hq.lt
    obtain ⟨b, hb, hiff⟩ := implRow_ev l (q : Int) hl (by omega) (by omega)
    rw [ev_pos (by simpa using h1), ev_bind hb]
    by_cases h2 : b = true
    · have h2' := hiff.1 h2
      rw [ev_pos h2, implWhole_eq, ev_sbind]
      by_cases h3 : Whole l.length
      · have hn := whole_le h3
        have hu := unit_one hq h3
        have hul : unitN l.length q < q := Nat.mod_lt _ (by omega)
        have hu0 : 0 < unitN l.length q := by
          apply Nat.pos_of_ne_zero
          intro e
          have hu' : unitN l.length q ^ l.length % q = 1 := hu
          rw [e, Nat.zero_pow (by omega), Nat.zero_mod] at hu'
          omega
        rw [decide_eq_true h3, ev_shift, dftR, if_pos ⟨h1, h2'.1, h2'.2, h3⟩, Int.toNat_natCast]
        simp only [impl_Dft.j0, Bool.not_true, Bool.false_eq_true, if_false]
        rw [ev_bind (implUnit_ev l.length q h1 hq h3)]
        have hlq : l.length < q := by unfold IsP at h1; omega
        cases back with
        | true =>
          rw [ev_pos rfl, ev_bind (implInv_ev (unitN l.length q) q h1 hq hu0 hul), ev_bind (implInv_ev l.length q h1 hq (by omega) hlq)]
          have h4 := inv_one (p := q) (n := l.length) (w := unitN l.length q) hu
          rw [Nat.mod_eq_of_lt hp0] at h4
          exact implCore_ev l q _ _ hq (Nat.mod_lt _ (by omega)) (Nat.mod_lt _ (by omega)) (by omega) (by omega) h2'.2 h4
        | false =>
          rw [ev_neg (by decide)]
          exact implCore_ev l q _ 1 hq hul (by omega) (by omega) (by omega) h2'.2 hu
      · rw [decide_eq_false h3]
        exact no (fun h => h3 h.2.2.2)
    · rw [ev_neg h2]
      exact no (fun h => h2 (hiff.2 ⟨h.2.1, h.2.2.1⟩))
  · rw [ev_neg (by simpa using h1)]
    exact no (fun h => h1 h.1)

theorem l1In_eq (a b c : Int) : spec_l1In.f a b c = some (decide (b ≤ a ∧ a ≤ c)) := by
  unfold spec_l1In.f
  by_cases h : a ≥ b
  · rw [if_pos h]
    congr 1
    rw [decide_eq_decide]
    omega
  · rw [if_neg h]
    congr 1
    symm
    rw [decide_eq_false_iff_not]
    omega

theorem specTaps_ev (l : List Int) (hl : l.length ≤ 2000000) : Ev (fun k => spec_l6Taps.f k l) (tapB l) := by
  unfold spec_l6Taps.f
  rw [tapB, inB_range]
  rw [all_iff (fun k i => spec_l6Taps.l0 k l i) (fun i => decide (-1000000 ≤ rd l (i : Int)) && decide (rd l (i : Int) ≤ 1000000)) l.length _ false]
  · split
    · rename_i hp
      rw [hp, Bool.and_true]
      exact Ev.step (f := fun _ => some (decide (l.length ≤ 256))) (fun k => by simp only [spec_l6Taps.l0]; rw [if_neg (by omega)]; congr 1; rw [decide_eq_decide]; omega) (Ev.now _)
    · rename_i hp
      simp only [Bool.not_eq_true] at hp
      rw [hp, Bool.and_false]
  · intro i hi
    by_cases p : -1000000 ≤ rd l (i : Int) ∧ rd l (i : Int) ≤ 1000000
    · rw [if_pos (by simpa using p)]
      rw [ev_shift]
      simp only [spec_l6Taps.l0]
      rw [ev_pos (by omega), ev_pos (by omega), l1In_eq]
      simp only [Option.bind_some]
      rw [ev_pos (by simpa using p), w64 (by omega) (by omega)]
    · rw [if_neg (by simpa using p)]
      rw [ev_shift]
      simp only [spec_l6Taps.l0]
      rw [ev_pos (by omega), ev_pos (by omega), l1In_eq]
      simp only [Option.bind_some]
      rw [ev_neg (by simpa using p), ev_some_iff]

theorem within_ev (l : List Int) (m : Int) (hl : l.length ≤ 2000000) (h0 : 0 ≤ m) (h1 : m ≤ 1000000000000) : Ev (fun k => impl_within.f k l m) (inB m l) := by
  unfold impl_within.f
  rw [inB_range]
  rw [all_iff (fun k i => impl_within.l0 k m l (l.length : Int) i) (fun i => decide (-m ≤ rd l (i : Int)) && decide (rd l (i : Int) ≤ m)) l.length _ false]
  · split
    · rename_i hp
      rw [hp]
      exact Ev.step (fun k => by simp only [impl_within.l0]; rw [if_neg (by omega)]) (Ev.now _)
    · rename_i hp
      simpa using hp
  · intro i hi
    by_cases p : -m ≤ rd l (i : Int) ∧ rd l (i : Int) ≤ m
    · rw [if_pos (by simpa using p)]
      rw [ev_shift]
      simp only [impl_within.l0]
      rw [ev_pos (by omega), ev_pos (by omega), ev_pos (by omega), w64 (n := -m) (by omega) (by omega), ev_neg (by omega), ev_neg (by omega), w64 (by omega) (by omega)]
    · rw [if_neg (by simpa using p)]
      rw [ev_shift]
      simp only [impl_within.l0]
      rw [ev_pos (by omega), ev_pos (by omega), ev_pos (by omega), w64 (n := -m) (by omega) (by omega)]
      by_cases q : rd l (i : Int) < -m
      · rw [ev_pos q, ev_some_iff]
      · rw [ev_neg q, ev_pos (by omega), ev_some_iff]

theorem implTaps_ev (l : List Int) (hl : l.length ≤ 2000000) : Ev (fun k => impl_taps.f k l) (tapB l) := by
  unfold impl_taps.f
  by_cases h : (l.length : Int) ≤ 256
  · rw [ev_pos h]
    rw [ev_bind (within_ev l 1000000 hl (by omega) (by omega)), ev_some_iff, tapB, decide_eq_true (by omega : l.length ≤ 256), Bool.true_and]
  · rw [ev_neg h]
    rw [ev_some_iff, tapB, decide_eq_false (by omega : ¬ l.length ≤ 256), Bool.false_and]

/-! ### Around -/
def aroundV (a b : List Int) : List Int :=
  iter (fun i s => iter (fun j s => s.set ((i + j) % a.length) (wrap64 (rd s (((i + j) % a.length : Nat) : Int) + wrap64 (rd a (i : Int) * rd b (j : Int))))) b.length s) a.length (List.replicate a.length 0)
theorem inner_length (a b : List Int) (i m : Nat) (s : List Int) :
    (iter (fun j s => s.set ((i + j) % a.length) (wrap64 (rd s (((i + j) % a.length : Nat) : Int) + wrap64 (rd a (i : Int) * rd b (j : Int))))) m s).length = s.length :=
  iter_inv (fun _ (t : List Int) => t.length = s.length) m s rfl fun _ _ _ h => by simpa using h
theorem aroundV_length (a b : List Int) : (aroundV a b).length = a.length := by
  unfold aroundV
  refine iter_inv (fun _ (s : List Int) => s.length = a.length) a.length _ (by simp) fun i s _ hs => ?_
  rw [inner_length, hs]
theorem tmod_nat2 {i j n : Nat} (h : i + j ≤ 1000000) : Int.tmod (wrap64 ((i : Int) + (j : Int))) (n : Int) = (((i + j) % n : Nat) : Int) := by
  rw [w64 (by omega) (by omega), Int.ofNat_tmod]
  simp
theorem implAroundV_ev (a b : List Int) (hl : a.length ≤ 256) (hb : b.length = a.length) (h0 : 0 < a.length) :
    Ev (fun k => impl_Around.l0 k b (a.length : Int) (List.replicate a.length 0) a (a.length : Int) 0) (aroundV a b, true) := by
  rw [(for_iff (fun k s i => impl_Around.l0 k b (a.length : Int) s a (a.length : Int) i) (fun i s => iter (fun j s => s.set ((i + j) % a.length) (wrap64 (rd s (((i + j) % a.length : Nat) : Int) + wrap64 (rd a (i : Int) * rd b (j : Int))))) b.length s) (fun _ s => s.length = a.length) a.length _ ?_ _ (by simp)).2]
  · rw [ev_shift]
    simp only [impl_Around.l0]
    rw [ev_neg (by omega)]
    exact Ev.now _
  · intro i s hi hs
    refine ⟨by rw [inner_length, hs], ?_⟩
    rw [ev_shift]
    simp only [impl_Around.l0]
    rw [ev_pos (by omega), ev_pos (by omega), ev_pos (by omega)]
    rw [(for_iff (fun k s j => impl_Around.l1 k b (a.length : Int) s (i : Int) (rd a (i : Int)) a (a.length : Int) (i : Int) b (b.length : Int) j) (fun j s => s.set ((i + j) % a.length) (wrap64 (rd s (((i + j) % a.length : Nat) : Int) + wrap64 (rd a (i : Int) * rd b (j : Int))))) (fun _ s => s.length = a.length) b.length _ ?_ s hs).2]
    · rw [ev_shift]
      simp only [impl_Around.l1]
      rw [ev_neg (by omega), w64 (by omega) (by omega)]
    · intro j t hj ht
      refine ⟨by simpa using ht, ?_⟩
      rw [ev_shift]
      simp only [impl_Around.l1]
      have hm := Nat.mod_lt (i + j) h0
      rw [tmod_nat2 (by omega), ev_pos (by omega), ev_pos (by omega), ev_pos (by omega), ev_neg (by omega), ev_pos (by omega), ev_pos (by omega), w64 (n := (j : Int) + 1) (by omega) (by omega), Int.toNat_natCast]
theorem specAroundV_ev (a b : List Int) (hl : a.length ≤ 256) (hb : b.length = a.length) (h0 : 0 < a.length) :
    Ev (fun k => spec_Around.l0 k a b (List.replicate a.length 0) 0) (aroundV a b, true) := by
  rw [(for_iff (fun k s i => spec_Around.l0 k a b s i) (fun i s => iter (fun j s => s.set ((i + j) % a.length) (wrap64 (rd s (((i + j) % a.length : Nat) : Int) + wrap64 (rd a (i : Int) * rd b (j : Int))))) b.length s) (fun _ s => s.length = a.length) a.length _ ?_ _ (by simp)).2]
  · rw [ev_shift]
    simp only [spec_Around.l0]
    rw [ev_neg (by omega)]
    exact Ev.now _
  · intro i s hi hs
    refine ⟨by rw [inner_length, hs], ?_⟩
    rw [ev_shift]
    simp only [spec_Around.l0]
    rw [ev_pos (by omega)]
    rw [(for_iff (fun k s j => spec_Around.l1 k a b s (i : Int) j) (fun j s => s.set ((i + j) % a.length) (wrap64 (rd s (((i + j) % a.length : Nat) : Int) + wrap64 (rd a (i : Int) * rd b (j : Int))))) (fun _ s => s.length = a.length) b.length _ ?_ s hs).2]
    · rw [ev_shift]
      simp only [spec_Around.l1]
      rw [ev_neg (by omega), w64 (by omega) (by omega)]
    · intro j t hj ht
      refine ⟨by simpa using ht, ?_⟩
      rw [ev_shift]
      simp only [spec_Around.l1]
      have hm := Nat.mod_lt (i + j) h0
      rw [tmod_nat2 (by omega), ev_pos (by omega), ev_neg (by omega), ev_pos (by omega), ev_pos (by omega), ev_pos (by omega), ev_pos (by omega), ev_pos (by omega), w64 (n := (j : Int) + 1) (by omega) (by omega), Int.toNat_natCast]
open Classical in
noncomputable def aroundR (a b : List Int) : List Int × Bool :=
  if tapB a = true ∧ tapB b = true ∧ a.length = b.length ∧ a.length ≠ 0 then (aroundV a b, true) else ([], false)
theorem aroundR_length (a b : List Int) : (aroundR a b).1.length ≤ 2000000 := by
  unfold aroundR
  split
  · rename_i h
    have := (tapB_iff.1 h.1).1
    rw [aroundV_length]
    omega
  · simp
theorem implAround_ev (a b : List Int) (ha : a.length ≤ 2000000) (hb : b.length ≤ 2000000) : Ev (fun k => impl_Around.f k a b) (aroundR a b) := by
  unfold impl_Around.f
  rw [ev_bind (implTaps_ev a ha)]
  have no : ∀ n, ¬ (tapB a = true ∧ tapB b = true ∧ a.length = b.length ∧ a.length ≠ 0) → Ev (fun k => impl_Around.j0 k a b n true) (aroundR a b) := by
    intro n h
    rw [ev_shift, aroundR, if_neg h]
    simp only [impl_Around.j0, if_true]
    exact Ev.now _
  by_cases h1 : tapB a = true
  · rw [ev_pos h1, ev_bind (implTaps_ev b hb)]
    by_cases h2 : tapB b = true
    · rw [ev_pos h2]
      by_cases h3 : a.length = b.length
      · rw [ev_pos (by omega)]
        by_cases h4 : a.length = 0
        · simp only [h4, Int.ofNat_zero, beq_self_eq_true]
          exact no _ (by omega)
        · have e : ((a.length : Int) == 0) = false := by simpa using h4
          rw [e, ev_shift, aroundR, if_pos ⟨h1, h2, h3, h4⟩]
          have hl := (tapB_iff.1 h1).1
          simp only [impl_Around.j0, Bool.false_eq_true, if_false, Int.toNat_natCast]
          rw [ev_pos (by omega), ev_pos (by omega)]
          exact implAroundV_ev a b hl h3.symm (by omega)
      · rw [ev_neg (by omega)]
        exact no _ (by omega)
    · rw [ev_neg h2]
      exact no _ (fun h => h2 h.2.1)
  · rw [ev_neg h1]
    exact no _ (fun h => h1 h.1)
theorem specAround_ev (a b : List Int) (ha : a.length ≤ 2000000) (hb : b.length ≤ 2000000) : Ev (fun k => spec_Around.f k a b) (aroundR a b) := by
  unfold spec_Around.f
  rw [ev_bind (specTaps_ev a ha)]
  have no : ¬ (tapB a = true ∧ tapB b = true ∧ a.length = b.length ∧ a.length ≠ 0) → Ev (fun k => spec_Around.j0 k a b true) (aroundR a b) := by
    intro h
    rw [ev_shift, aroundR, if_neg h]
    simp only [spec_Around.j0, if_true]
    exact Ev.now _
  by_cases h1 : tapB a = true
  · rw [ev_pos h1, ev_bind (specTaps_ev b hb)]
    by_cases h2 : tapB b = true
    · rw [ev_pos h2]
      by_cases h3 : a.length = b.length
      · rw [ev_pos (by omega)]
        by_cases h4 : a.length = 0
        · simp only [h4, Int.ofNat_zero, beq_self_eq_true]
          exact no (by omega)
        · have e : ((a.length : Int) == 0) = false := by simpa using h4
          rw [e, ev_shift, aroundR, if_pos ⟨h1, h2, h3, h4⟩]
          have hl := (tapB_iff.1 h1).1
          simp only [spec_Around.j0, Bool.false_eq_true, if_false, Int.toNat_natCast]
          rw [ev_pos (by omega), ev_pos (by omega)]
          exact specAroundV_ev a b hl h3.symm (by omega)
      · rw [ev_neg (by omega)]
        exact no (by omega)
    · rw [ev_neg h2]
      exact no (fun h => h2 h.2.1)
  · rw [ev_neg h1]
    exact no (fun h => h1 h.1)

theorem residues_ev (l : List Int) (hl : l.length ≤ 2000000) (hb : ∀ m : Nat, -65536000000000000 ≤ rd l (m : Int) ∧ rd l (m : Int) ≤ 65536000000000000) : Ev (fun k => laws_residues.f k l) (resV l) := by
  unfold laws_residues.f
  have g := for_iff (fun q s i => laws_residues.l0 q l s i) (fun i _ => tab (i + 1) fun j => rd l (j : Int) % 998244353) (fun i s => s = tab i fun j => rd l (j : Int) % 998244353) l.length (resV l) ?_ [] rfl
  · rw [g.2, g.1, ev_shift]
    simp only [laws_residues.l0]
    rw [ev_neg (by omega)]
    exact Ev.now _
  · intro i s hi he
    subst he
    refine ⟨rfl, ?_⟩
    have hx := hb i
    have h1 := Int.tmod_add_mul_tdiv (rd l (i : Int)) 998244353
    have h2 := Int.tmod_lt_of_pos (rd l (i : Int)) (by omega : (0 : Int) < 998244353)
    have h3 := Int.lt_tmod_of_pos (rd l (i : Int)) (by omega : (0 : Int) < 998244353)
    have e : Int.tmod (wrap64 ((Int.tmod (rd l (i : Int)) 998244353) + 998244353)) 998244353 = rd l (i : Int) % 998244353 := by
      rw [w64 (by omega) (by omega), Int.tmod_eq_emod_of_nonneg (by omega)]
      omega
    rw [ev_shift]
    simp only [laws_residues.l0, tab_length]
    rw [ev_pos (by omega), ev_pos (by omega), ev_pos (by omega), e, tab_succ, w64 (by omega) (by omega)]
theorem drawAroundLoop (b l : List Int) (hl : l.length ≤ 1000) : ∀ (d : Nat) (s : List Int) (i h : Int), CurOk b i → l.length - s.length ≤ d → s.length ≤ 1000 →
    ∃ r, Ev (fun k => spec_DrawAround.l0 k l s (s.length : Int) b i h) (l, r) ∧ r.length ≤ 1001 := by
  intro d
  induction d with
  | zero =>
    intro s i h hc hd hs
    obtain ⟨t, i1, h1, e, hc1⟩ := l1Once_ok b i h 20 hc
    by_cases ht : t = true
    · refine ⟨s ++ [1], ?_, by simp; omega⟩
      rw [ev_shift]
      simp only [spec_DrawAround.l0]
      rw [ev_neg (by omega), e, ev_sbind, ev_pos ht, ev_pos (by omega)]
      exact Ev.now _
    · refine ⟨s, ?_, by omega⟩
      rw [ev_shift]
      simp only [spec_DrawAround.l0]
      rw [ev_neg (by omega), e, ev_sbind, ev_neg ht]
      exact Ev.now _
  | succ d ih =>
    intro s i h hc hd hs
    by_cases c : s.length < l.length
    · obtain ⟨x, i1, h1, e, hc1, _⟩ := l1Below_ok b i h 41 hc
      obtain ⟨r, er, hr⟩ := ih (s ++ [wrap64 (x - 20)]) i1 h1 hc1 (by simp; omega) (by simp; omega)
      have hl : ((s ++ [wrap64 (x - 20)]).length : Int) = (s.length : Int) + 1 := by simp
      rw [hl] at er
      refine ⟨r, ?_, hr⟩
      rw [ev_shift]
      simp only [spec_DrawAround.l0]
      rw [ev_pos (by omega), e, ev_sbind]
      dsimp only
      rw [ev_pos (by omega), w64 (n := (s.length : Int) + 1) (by omega) (by omega)]
      exact er
    · exact ih s i h hc (by omega) hs
theorem drawAround_ev (b : List Int) (hb : b.length ≤ 2000000) : ∃ l r, Ev (fun k => spec_DrawAround.f k b) (l, r) ∧ l.length ≤ 1001 ∧ r.length ≤ 1001 := by
  unfold spec_DrawAround.f
  obtain ⟨h, e1⟩ := l1New_ev b hb
  obtain ⟨s, e2, hs0, hs1⟩ := l1Size_eq b 20 hb (by omega)
  obtain ⟨l, i1, h1, e3, hc1, hl⟩ := l6DrawTaps_ev b 0 h s ⟨by omega, by omega, hb⟩ (by omega) (by omega)
  obtain ⟨r, e4, hr⟩ := drawAroundLoop b l (by omega) 1000 [] i1 h1 hc1 (by simp; omega) (by simp)
  refine ⟨l, r, ?_, by omega, hr⟩
  rw [ev_bind e1]
  dsimp only
  rw [e2, ev_sbind, ev_bind e3]
  exact e4
theorem around_small : aroundR [1, 2] [3, 4] = ([11, 10], true) := by
  unfold aroundR
  rw [if_pos ⟨by decide +kernel, by decide +kernel, by decide, by decide⟩]
  decide +kernel
theorem unit_eight {p : Nat} (hp : GoodP p) : unitN 8 p ^ 8 % p = 1 % p := by
  have h1 : unitN 8 p ^ 8 % p = 1 := unit_one hp (by decide)
  have := hp.gt
  rw [h1, Nat.mod_eq_of_lt this]
theorem body (p : Nat) (hp : GoodP p) (he : p = 998244353) (a b : List Int) (h : tapB a = true ∧ tapB b = true ∧ a.length = b.length ∧ a.length ≠ 0) (ha8 : a.length = 8) (hb8 : b.length = 8) :
    Ev (fun k => (laws_residues.f k a).bind fun t287 => ((impl_Dft.f k t287 998244353 false).bind fun bt290 => ((laws_residues.f k b).bind fun t294 => ((impl_Dft.f k t294 998244353 false).bind fun bt297 => ((laws_residues.f k (aroundV a b)).bind fun t301 => ((impl_Dft.f k t301 998244353 false).bind fun bt304 => (laws_FnConvolved.l2 k 8 bt290.1 bt297.1 bt304.1 bt304.2 0))))))) true := by
  have h1 := (tapB_iff.1 h.1).2
  have h2 := (tapB_iff.1 h.2.1).2
  have hw := unit_eight hp
  have hp1 := hp.gt
  have hc := cyc_ok a b p (unitN 8 p ^ 0) h1 h2 (by omega) (by omega) (by omega) (by rw [Nat.pow_zero, Nat.one_pow])
  have ec : cycV a b = aroundV a b := rfl
  obtain ⟨hcl, hcb, _⟩ := hc
  have hconv : ∀ k, dftN (resV (aroundV a b)) p (unitN 8 p) 1 k = dftN (resV a) p (unitN 8 p) 1 k * dftN (resV b) p (unitN 8 p) 1 k % p := fun k => conv_thm a b p (unitN 8 p) k he h1 h2 (by omega) (by omega) (by omega) (by rw [ha8]; exact hw)
  rw [ec] at hcl hcb
  generalize aroundV a b = c at *
  have bnd : ∀ l : List Int, inB 1000000 l = true → ∀ m : Nat, -65536000000000000 ≤ rd l (m : Int) ∧ rd l (m : Int) ≤ 65536000000000000 := by
    intro l hl m
    have := inB_rd hl (by omega) (m : Int)
    omega
  have D : ∀ l : List Int, l.length = 8 → Ev (fun k => impl_Dft.f k (resV l) 998244353 false) (dftV (resV l) p (unitN 8 p) 1, true) := by
    intro l hl
    have g := implDft_ev (resV l) 998244353 false (by rw [resV_length]; omega)
    have e : dftR (resV l) 998244353 false = (dftV (resV l) p (unitN 8 p) 1, true) := by
      unfold dftR
      have hlen := resV_length l
      rw [if_pos ⟨.inl rfl, by omega, resV_row l, by rw [hlen, hl]; decide⟩]
      have e2 : (998244353 : Int).toNat = p := by rw [he]; rfl
      have e3 : dftFull (resV l) p false = dftV (resV l) p (unitN (resV l).length p) 1 := rfl
      rw [e2, e3, hlen, hl]
    rw [e] at g
    exact g
  rw [ev_bind (residues_ev a (by omega) (bnd a h1)), ev_bind (D a ha8)]
  rw [ev_bind (residues_ev b (by omega) (bnd b h2)), ev_bind (D b hb8)]
  rw [ev_bind (residues_ev c (by omega) hcb), ev_bind (D c (by omega))]
  dsimp only
  have la : (dftV (resV a) p (unitN 8 p) 1).length = 8 := by unfold dftV; rw [tab_length, resV_length, ha8]
  have lb : (dftV (resV b) p (unitN 8 p) 1).length = 8 := by unfold dftV; rw [tab_length, resV_length, hb8]
  have lc : (dftV (resV c) p (unitN 8 p) 1).length = 8 := by unfold dftV; rw [tab_length, resV_length]; omega
  have g := for_iff (fun q (_ : Unit) i => laws_FnConvolved.l2 q 8 (dftV (resV a) p (unitN 8 p) 1) (dftV (resV b) p (unitN 8 p) 1) (dftV (resV c) p (unitN 8 p) 1) true i) (fun _ s => s) (fun _ _ => True) 8 true ?_ () trivial
  · rw [g.2, ev_shift]
    simp only [laws_FnConvolved.l2]
    rw [ev_neg (by omega), ev_shift]
    simp only [laws_FnConvolved.j3, Bool.false_eq_true, if_false]
    exact Ev.now _
  · intro i _ hi _
    refine ⟨trivial, ?_⟩
    have ra : rd (dftV (resV a) p (unitN 8 p) 1) (i : Int) = (dftN (resV a) p (unitN 8 p) 1 i : Int) := by
      unfold dftV
      rw [rd_tab' (by rw [resV_length]; omega)]
    have rb : rd (dftV (resV b) p (unitN 8 p) 1) (i : Int) = (dftN (resV b) p (unitN 8 p) 1 i : Int) := by
      unfold dftV
      rw [rd_tab' (by rw [resV_length]; omega)]
    have rc : rd (dftV (resV c) p (unitN 8 p) 1) (i : Int) = (dftN (resV c) p (unitN 8 p) 1 i : Int) := by
      unfold dftV
      rw [rd_tab' (by rw [resV_length]; omega)]
    have xa : dftN (resV a) p (unitN 8 p) 1 i < p := Nat.mod_lt _ (by omega)
    have xb : dftN (resV b) p (unitN 8 p) 1 i < p := Nat.mod_lt _ (by omega)
    have hlt := hp.lt
    have hk := hconv i
    rw [ev_shift]
    simp only [laws_FnConvolved.l2]
    rw [ev_pos (by omega), ev_shift]
    simp only [laws_FnConvolved.j3, if_true]
    have e9 : (998244353 : Int) = (p : Int) := by omega
    rw [ev_pos (by omega), ev_pos (by omega), ev_pos (by omega), ev_pos (by omega), ev_pos (by omega), ev_pos (by omega), ra, rb, rc, e9, mulmod (by omega) (by omega), ← hk, ev_pos rfl, w64 (by omega) (by omega)]
theorem l1_done (a b : List Int) (ha : 8 ≤ a.length) (hb : 8 ≤ b.length) (ha2 : a.length ≤ 2000000) (hb2 : b.length ≤ 2000000) : Ev (fun k => laws_FnConvolved.l1 k a b 8) true := by
  have la : (a.take 8).length = 8 := by simp; omega
  have lb : (b.take 8).length = 8 := by simp; omega
  have e8 : (8 : Int).toNat = 8 := rfl
  rw [ev_shift]
  simp only [laws_FnConvolved.l1]
  rw [ev_neg (by omega), ev_pos (by omega), ev_pos (by omega), ev_sbind, ev_pos (by omega), ev_sbind, e8, ev_bind (implAround_ev _ _ (by omega) (by omega)), ev_bind (specAround_ev _ _ (by omega) (by omega)), ev_neg (by simp)]
  generalize a.take 8 = x at *
  generalize b.take 8 = y at *
  by_cases h : tapB x = true ∧ tapB y = true ∧ x.length = y.length ∧ x.length ≠ 0
  · have e : aroundR x y = (aroundV x y, true) := by
      unfold aroundR
      rw [if_pos h]
    rw [e]
    dsimp only
    rw [ev_pos rfl]
    exact body 998244353 goodA rfl x y h la lb
  · have e : aroundR x y = ([], false) := by
      unfold aroundR
      rw [if_neg h]
    rw [e]
    dsimp only
    rw [ev_neg (by simp), ev_bind (implAround_ev _ _ (by simp) (by simp)), around_small]
    dsimp only
    rw [ev_pos rfl, ev_bind (sameInts_ev [11, 10] [11, 10] (by simp)), decide_eq_true rfl]
    exact Ev.now _
theorem l1_any (a : List Int) (ha : 8 ≤ a.length) (ha2 : a.length ≤ 2000000) : ∀ (d : Nat) (b : List Int), 8 - b.length ≤ d → b.length ≤ 2000 → Ev (fun k => laws_FnConvolved.l1 k a b 8) true := by
  intro d
  induction d with
  | zero => intro b hd hb; exact l1_done a b ha (by omega) ha2 (by omega)
  | succ d ih =>
    intro b hd hb
    by_cases c : 8 ≤ b.length
    · exact l1_done a b ha c ha2 (by omega)
    · rw [ev_shift]
      simp only [laws_FnConvolved.l1]
      rw [ev_pos (by omega), ev_pos (by omega)]
      exact ih (b ++ [1]) (by simp; omega) (by simp; omega)
theorem l0_any (b : List Int) (hb : b.length ≤ 2000) : ∀ (d : Nat) (a : List Int), 8 - a.length ≤ d → a.length ≤ 2000 → Ev (fun k => laws_FnConvolved.l0 k a b 8) true := by
  have fin : ∀ a : List Int, 8 ≤ a.length → a.length ≤ 2000 → Ev (fun k => laws_FnConvolved.l0 k a b 8) true := by
    intro a h0 h1
    rw [ev_shift]
    simp only [laws_FnConvolved.l0]
    rw [ev_neg (by omega)]
    exact l1_any a h0 (by omega) 8 b (by omega) hb
  intro d
  induction d with
  | zero => intro a hd ha; exact fin a (by omega) ha
  | succ d ih =>
    intro a hd ha
    by_cases c : 8 ≤ a.length
    · exact fin a c ha
    · rw [ev_shift]
      simp only [laws_FnConvolved.l0]
      rw [ev_pos (by omega), ev_pos (by omega)]
      exact ih (a ++ [0]) (by simp; omega) (by simp; omega)
theorem FnConvolved : laws_FnConvolved.Pure := by
  intro l0 _ _ _
  refine Ev.rounds (g := fun k => laws_FnConvolved.f k l0) ?_
  simp only [laws_FnConvolved.f]
  rw [big_eq, ev_sbind]
  by_cases hlen : (l0.length : Int) > 1048576
  · rw [ev_pos (by simpa using hlen)]
    exact Ev.now _
  rw [ev_neg (by simpa using hlen)]
  obtain ⟨a, b, hd, ha, hb⟩ := drawAround_ev l0 (by omega)
  rw [ev_bind hd]
  exact l0_any b (by omega) 8 a (by omega) (by omega)

end Go.Proofs.Ytilcnbommpncgaa.Pure
