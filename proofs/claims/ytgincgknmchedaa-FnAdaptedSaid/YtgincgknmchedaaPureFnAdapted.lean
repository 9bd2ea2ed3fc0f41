/- The pure part of FnAdapted: the first error is the first wanted number, the taps stay in their bounds, the lengths fit. No conditions. -/
import Derived.Test.YtgincgknmchedaaQFnAdaptedx6
import Derived.Test.YtgincgknmchedaaBase
namespace Go.Proofs.Ytgincgknmchedaa.Pure
open Go.RowKit Go.Proofs.Ytgincgknmchedaa.QFnAdapted Go.Proofs.YtgincgknmchedaaW.PrintWords Go.Proofs.YtgincgknmchedaaW.PrintLast
open Go.Proofs.Ytgincgknmchedaa.Base
set_option linter.unusedVariables false
set_option linter.unusedSimpArgs false
theorem big_eq (l : List Int) : laws_big.f l = some (decide ((l.length : Int) > 1048576)) := rfl

theorem sameInts_ev (a b : List Int) (h : a.length ≤ 2000000) : Ev (fun k => laws_sameInts.f k a b) (decide (a = b)) := by
  unfold laws_sameInts.f
  by_cases e : a.length = b.length
  · rw [ev_pos (by omega)]
    rw [all_iff (fun k i => laws_sameInts.l0 k a b i) (fun i => decide (rd a (i : Int) = rd b (i : Int))) a.length _ false]
    · split
      · rename_i hp
        have : a = b := list_ext_rd e fun i hi => by simpa using range_all.1 hp i hi
        rw [decide_eq_true this]
        exact Ev.step (fun k => by simp only [laws_sameInts.l0]; rw [if_neg (by omega)]) (Ev.now _)
      · rename_i hp
        have : ¬ a = b := fun h => hp (by subst h; rw [range_all]; simp)
        simp [this]
    · intro i hi
      by_cases p : rd a (i : Int) = rd b (i : Int)
      · rw [if_pos (by simpa using p)]
        rw [ev_shift]
        simp only [laws_sameInts.l0]
        rw [ev_pos (by omega), ev_pos (by omega), ev_pos (by omega), ev_pos p, w64 (by omega) (by omega)]
      · rw [if_neg (by simpa using p)]
        rw [ev_shift]
        simp only [laws_sameInts.l0]
        rw [ev_pos (by omega), ev_pos (by omega), ev_pos (by omega), ev_neg p, ev_some_iff]
  · rw [ev_neg (by omega)]
    have : ¬ a = b := fun h => e (by rw [h])
    simp only [this, decide_false]
    exact Ev.now _


/-! ### the cursor of a draw -/
def CurOk (b : List Int) (i : Int) : Prop := 0 ≤ i ∧ i ≤ (b.length : Int) ∧ b.length ≤ 2000000
theorem l1New_ev (b : List Int) (hb : b.length ≤ 2000000) : ∃ h, Ev (fun k => spec_l1New.f k b) (b, 0, h) := by
  unfold spec_l1New.f
  refine ⟨iter (fun i h => Go.bits .and .i64 (wrap64 ((wrap64 ((wrap64 (h * 131)) + (wrap64 (rd b (i : Int))))) + 7)) 1073741823) (min b.length 4000) (wrap64 (71933 + (b.length : Int))), ?_⟩
  rw [(for_iff (fun k h i => spec_l1New.l0 k b h i) (fun i h => Go.bits .and .i64 (wrap64 ((wrap64 ((wrap64 (h * 131)) + (wrap64 (rd b (i : Int))))) + 7)) 1073741823) (fun _ _ => True) (min b.length 4000) _ ?_ _ trivial).2]
  · rw [ev_shift]
    simp only [spec_l1New.l0]
    by_cases h : ((min b.length 4000 : Nat) : Int) < (b.length : Int)
    · rw [ev_pos h, ev_neg (by omega)]
      exact Ev.now _
    · rw [ev_neg h]
      exact Ev.now _
  · intro i s hi _
    refine ⟨trivial, ?_⟩
    rw [ev_shift]
    simp only [spec_l1New.l0]
    rw [ev_pos (by omega), ev_pos (by omega), ev_pos (by omega), w64 (n := (i : Int) + 1) (by omega) (by omega)]
theorem l1Byte_ok (b : List Int) (i h : Int) (hc : CurOk b i) : ∃ x i' h', spec_l1Byte.f b i h = some (x, i', h') ∧ CurOk b i' ∧ 0 ≤ x ∧ x ≤ 255 := by
  obtain ⟨h0, h1, h2⟩ := hc
  unfold spec_l1Byte.f
  by_cases c : i < (b.length : Int)
  · rw [if_pos c, if_pos h0]
    have := band_range
    refine ⟨_, _, _, rfl, ⟨?_, ?_, h2⟩, (band_range _ 255 (by omega) (by omega)).1, (band_range _ 255 (by omega) (by omega)).2⟩
    · rw [w64 (by omega) (by omega)]; omega
    · rw [w64 (by omega) (by omega)]; omega
  · rw [if_neg c]
    exact ⟨_, _, _, rfl, ⟨h0, h1, h2⟩, (band_range _ 255 (by omega) (by omega)).1, (band_range _ 255 (by omega) (by omega)).2⟩
theorem l1Below_ok (b : List Int) (i h n : Int) (hc : CurOk b i) : ∃ x i' h', spec_l1Below.f b i h n = some (x, i', h') ∧ CurOk b i' ∧ 0 ≤ x ∧ (0 < n → x < n) ∧ (n ≤ 0 → x = 0) := by
  unfold spec_l1Below.f
  by_cases c : n ≤ 0
  · rw [if_pos c]
    exact ⟨_, _, _, rfl, hc, by omega, by omega, fun _ => rfl⟩
  · rw [if_neg c]
    by_cases d : n ≤ 256
    · rw [if_pos d]
      obtain ⟨x, i1, h1, e, hc1, hx0, hx1⟩ := l1Byte_ok b i h hc
      rw [e]
      simp only [Option.bind_some]
      rw [if_neg (by omega)]
      refine ⟨_, _, _, rfl, hc1, ?_, fun _ => ?_, fun h => absurd h c⟩
      · exact Int.tmod_nonneg _ hx0
      · exact Int.tmod_lt_of_pos _ (by omega)
    · rw [if_neg d]
      obtain ⟨x, i1, h1, e, hc1, hx0, hx1⟩ := l1Byte_ok b i h hc
      rw [e]
      simp only [Option.bind_some]
      obtain ⟨y, i2, h2, e, hc2, hy0, hy1⟩ := l1Byte_ok b i1 h1 hc1
      rw [e]
      simp only [Option.bind_some]
      obtain ⟨z, i3, h3, e, hc3, hz0, hz1⟩ := l1Byte_ok b i2 h2 hc2
      rw [e]
      simp only [Option.bind_some]
      obtain ⟨w, i4, h4, e, hc4, hw0, hw1⟩ := l1Byte_ok b i3 h3 hc3
      rw [e]
      simp only [Option.bind_some]
      rw [if_neg (by omega)]
      refine ⟨_, _, _, rfl, hc4, ?_, fun _ => ?_, fun h => absurd h c⟩
      · refine Int.tmod_nonneg _ ?_
        rw [w64 (n := x * 16777216) (by omega) (by omega), w64 (n := y * 65536) (by omega) (by omega), w64 (n := z * 256) (by omega) (by omega), w64 (n := x * 16777216 + y * 65536) (by omega) (by omega), w64 (n := x * 16777216 + y * 65536 + z * 256) (by omega) (by omega), w64 (by omega) (by omega)]
        omega
      · exact Int.tmod_lt_of_pos _ (by omega)
theorem l1Once_ok (b : List Int) (i h n : Int) (hc : CurOk b i) : ∃ t i' h', spec_l1Once.f b i h n = some (t, i', h') ∧ CurOk b i' := by
  unfold spec_l1Once.f
  obtain ⟨x, i1, h1, e, hc1, _⟩ := l1Below_ok b i h n hc
  rw [e]
  exact ⟨_, _, _, rfl, hc1⟩

theorem l1PickInt_ok (b : List Int) (i h : Int) (l : List Int) (hl : 0 < l.length) (hc : CurOk b i) : ∃ x i' h', spec_l1PickInt.f b i h l = some (x, i', h') ∧ CurOk b i' ∧ x ∈ l := by
  unfold spec_l1PickInt.f
  obtain ⟨x, i1, h1, e, hc1, h0, hx, _⟩ := l1Below_ok b i h (l.length : Int) hc
  rw [e]
  simp only [Option.bind_some]
  have := hx (by omega)
  rw [if_pos h0, if_pos this]
  exact ⟨_, _, _, rfl, hc1, rd_mem h0 this⟩

theorem l1Size_eq (l : List Int) (m : Int) (hl : l.length ≤ 2000000) (hm : 2 ≤ m) : ∃ s, spec_l1Size.f l m = some s ∧ 2 ≤ s ∧ s ≤ m := by
  unfold spec_l1Size.f
  rw [w64 (n := (l.length : Int) / 20) (by omega) (by omega), w64 (by omega) (by omega)]
  by_cases h : 2 + (l.length : Int) / 20 > m
  · rw [if_pos h]
    exact ⟨m, rfl, hm, by omega⟩
  · rw [if_neg h]
    exact ⟨_, rfl, by omega, by omega⟩

theorem l10DrawSmallLoop (b : List Int) : ∀ (n : Nat) (s : List Int) (i h : Int), CurOk b i → s.length + n ≤ 1000000 →
    ∃ r i' h', Ev (fun k => spec_l10DrawSmall.l0 k s (n : Int) b i h) (r, i', h') ∧ CurOk b i' ∧ r.length ≤ s.length + n + 1 := by
  intro n
  induction n with
  | zero =>
    intro s i h hc hn
    obtain ⟨t, i1, h1, e, hc1⟩ := l1Once_ok b i h 40 hc
    by_cases ht : t = true
    · obtain ⟨x, i2, h2, e2, hc2, _⟩ := l1PickInt_ok b i1 h1 [32768, (-32768)] (by simp) hc1
      refine ⟨s ++ [x], i2, h2, ?_, hc2, by simp⟩
      rw [ev_shift]
      simp only [spec_l10DrawSmall.l0, e, Option.bind_some]
      rw [ev_neg (by omega), ev_pos ht]
      simp only [e2, Option.bind_some]
      rw [ev_pos (by omega)]
      exact Ev.now _
    · refine ⟨s, i1, h1, ?_, hc1, by omega⟩
      rw [ev_shift]
      simp only [spec_l10DrawSmall.l0, e, Option.bind_some]
      rw [ev_neg (by omega), ev_neg ht]
      exact Ev.now _
  | succ n ih =>
    intro s i h hc hn
    obtain ⟨x, i1, h1, e, hc1, _⟩ := l1Below_ok b i h 2001 hc
    obtain ⟨t, i2, h2, e2, hc2⟩ := l1Once_ok b i1 h1 20 hc1
    have e9 : ((n + 1 : Nat) : Int) - 1 = (n : Int) := by omega
    by_cases ht : t = true
    · obtain ⟨y, i3, h3, e3, hc3, _⟩ := l1PickInt_ok b i2 h2 [32767, (-32767), 0] (by simp) hc2
      obtain ⟨r, i4, h4, e4, hc4, hr⟩ := ih ((s ++ [wrap64 (x - 1000)]).set ((((s ++ [wrap64 (x - 1000)]).length : Int) - 1).toNat) y) i3 h3 hc3 (by simp; omega)
      have el : (s ++ [wrap64 (x - 1000)]).length = s.length + 1 := by simp
      refine ⟨r, i4, h4, ?_, hc4, by simp at hr; omega⟩
      rw [ev_shift]
      simp only [spec_l10DrawSmall.l0, e, Option.bind_some]
      rw [ev_pos (by omega), ev_pos (by omega)]
      simp only [e2, Option.bind_some]
      rw [ev_pos ht]
      simp only [e3, Option.bind_some]
      rw [w64 (n := ((s ++ [wrap64 (x - 1000)]).length : Int) - 1) (by omega) (by omega), ev_pos (by omega), ev_pos (by omega), w64 (n := ((n + 1 : Nat) : Int) - 1) (by omega) (by omega), e9]
      exact e4
    · obtain ⟨r, i4, h4, e4, hc4, hr⟩ := ih (s ++ [wrap64 (x - 1000)]) i2 h2 hc2 (by simp; omega)
      refine ⟨r, i4, h4, ?_, hc4, by simp at hr; omega⟩
      rw [ev_shift]
      simp only [spec_l10DrawSmall.l0, e, Option.bind_some]
      rw [ev_pos (by omega), ev_pos (by omega)]
      simp only [e2, Option.bind_some]
      rw [ev_neg ht, w64 (n := ((n + 1 : Nat) : Int) - 1) (by omega) (by omega), e9]
      exact e4
theorem l10DrawSmall_ev (b : List Int) (i h m : Int) (hc : CurOk b i) (h0 : 0 ≤ m) (h1 : m ≤ 1000) :
    ∃ r i' h', Ev (fun k => spec_l10DrawSmall.f k b i h m) (r, i', h') ∧ CurOk b i' ∧ (r.length : Int) ≤ m + 1 := by
  unfold spec_l10DrawSmall.f
  rw [w64 (by omega) (by omega)]
  obtain ⟨x, i1, h1', e, hc1, hx0, hx, _⟩ := l1Below_ok b i h (m + 1) hc
  rw [e]
  simp only [Option.bind_some]
  have := hx (by omega)
  obtain ⟨r, i2, h2, e2, hc2, hr⟩ := l10DrawSmallLoop b x.toNat [] i1 h1' hc1 (by simp; omega)
  rw [Int.toNat_of_nonneg hx0] at e2
  exact ⟨r, i2, h2, e2, hc2, by simp at hr; omega⟩

theorem l1In_eq (a b c : Int) : spec_l1In.f a b c = some (decide (b ≤ a ∧ a ≤ c)) := by
  unfold spec_l1In.f
  by_cases h : a ≥ b
  · rw [if_pos h]
    congr 1
    rw [decide_eq_decide]
    omega
  · rw [if_neg h]
    congr 1
    symm
    rw [decide_eq_false_iff_not]
    omega

theorem within_ev (l : List Int) (m : Int) (hl : l.length ≤ 2000000) (h0 : 0 ≤ m) (h1 : m ≤ 1000000000000) : Ev (fun k => impl_within.f k l m) (inB m l) := by
  unfold impl_within.f
  rw [inB_range]
  rw [all_iff (fun k i => impl_within.l0 k m l (l.length : Int) i) (fun i => decide (-m ≤ rd l (i : Int)) && decide (rd l (i : Int) ≤ m)) l.length _ false]
  · split
    · rename_i hp
      rw [hp]
      exact Ev.step (fun k => by simp only [impl_within.l0]; rw [if_neg (by omega)]) (Ev.now _)
    · rename_i hp
      simpa using hp
  · intro i hi
    by_cases p : -m ≤ rd l (i : Int) ∧ rd l (i : Int) ≤ m
    · rw [if_pos (by simpa using p)]
      rw [ev_shift]
      simp only [impl_within.l0]
      rw [ev_pos (by omega), ev_pos (by omega), ev_pos (by omega), w64 (n := -m) (by omega) (by omega), ev_neg (by omega), ev_neg (by omega), w64 (by omega) (by omega)]
    · rw [if_neg (by simpa using p)]
      rw [ev_shift]
      simp only [impl_within.l0]
      rw [ev_pos (by omega), ev_pos (by omega), ev_pos (by omega), w64 (n := -m) (by omega) (by omega)]
      by_cases q : rd l (i : Int) < -m
      · rw [ev_pos q, ev_some_iff]
      · rw [ev_neg q, ev_pos (by omega), ev_some_iff]


theorem implSig_ev (l : List Int) (hl : l.length ≤ 2000000) : Ev (fun k => impl_SignalOk.f k l) (sigB l) := by
  unfold impl_SignalOk.f
  by_cases h : (l.length : Int) ≤ 512
  · rw [ev_pos h]
    rw [ev_bind (within_ev l 1000000000 hl (by omega) (by omega)), ev_some_iff, sigB, decide_eq_true (by omega : l.length ≤ 512), Bool.true_and]
  · rw [ev_neg h]
    rw [ev_some_iff, sigB, decide_eq_false (by omega : ¬ l.length ≤ 512), Bool.false_and]


theorem l9Wide_ev (l : List Int) (m : Int) (hl : l.length ≤ 2000000) (h0 : 0 ≤ m) (h1 : m ≤ 1000000000000) : Ev (fun k => spec_l9Wide.f k l m) (inB m l) := by
  unfold spec_l9Wide.f
  rw [inB_range]
  rw [all_iff (fun k i => spec_l9Wide.l0 k l m i) (fun i => decide (-m ≤ rd l (i : Int)) && decide (rd l (i : Int) ≤ m)) l.length _ false]
  · split
    · rename_i hp
      rw [hp]
      exact Ev.step (fun k => by simp only [spec_l9Wide.l0]; rw [if_neg (by omega)]) (Ev.now _)
    · rename_i hp
      simpa using hp
  · intro i hi
    by_cases p : -m ≤ rd l (i : Int) ∧ rd l (i : Int) ≤ m
    · rw [if_pos (by simpa using p)]
      rw [ev_shift]
      simp only [spec_l9Wide.l0]
      rw [ev_pos (by omega), ev_pos (by omega), w64 (n := -m) (by omega) (by omega), l1In_eq]
      simp only [Option.bind_some]
      rw [ev_pos (by simpa using p), w64 (by omega) (by omega)]
    · rw [if_neg (by simpa using p)]
      rw [ev_shift]
      simp only [spec_l9Wide.l0]
      rw [ev_pos (by omega), ev_pos (by omega), w64 (n := -m) (by omega) (by omega), l1In_eq]
      simp only [Option.bind_some]
      rw [ev_neg (by simpa using p), ev_some_iff]

theorem floor_eq (a b : Int) (hb : 0 < b) (h0 : -4611686018427387904 ≤ a / b) (h1 : a / b ≤ 4611686018427387904) : spec_l5Floor.f a b = some (a / b) := by
  unfold spec_l5Floor.f
  rw [if_neg (by omega)]
  have e1 := Int.tdiv_eq_ediv (a := a) (b := b)
  have e2 := Int.tmod_eq_emod (a := a) (b := b)
  have h2 := Int.emod_nonneg a (by omega : b ≠ 0)
  have h3 := Int.emod_lt_of_pos a hb
  by_cases c : 0 ≤ a ∨ b ∣ a
  · rw [if_pos c] at e1 e2
    rw [e1, e2, if_neg (by omega), w64 (by omega) (by omega), Int.add_zero]
  · rw [if_neg c] at e1 e2
    have s : b.sign = 1 := Int.sign_eq_one_of_pos hb
    have n : (b.natAbs : Int) = b := by omega
    rw [e1, e2, if_pos (by omega), s, w64 (n := a / b + 1) (by omega) (by omega), w64 (by omega) (by omega), Int.add_sub_cancel]

theorem u64_small {n : Int} (h0 : 0 ≤ n) (h1 : n < 18446744073709551616) : IntKind.u64.wrap n = n := by
  have hs : IntKind.wrap .u64 n = (if (false && decide (n % (2 ^ 64 : Int) ≥ (2 ^ 63 : Int))) = true then n % (2 ^ 64 : Int) - (2 ^ 64 : Int) else n % (2 ^ 64 : Int)) := rfl
  have h4 : n % (2 ^ 64 : Int) = n := Int.emod_eq_of_lt h0 (by omega)
  rw [hs, h4]
  simp

/-! ### Adapt -/
def shV (x b : Int) : Int := if -4000000000000000000 ≤ x ∧ x ≤ 4000000000000000000 then x / 2 ^ b.toNat else 0
theorem shl_one : ∀ n : Fin 61, shl .i64 1 ((n.val : Nat) : Int) = 2 ^ n.val := by decide +kernel
theorem shl_two {b : Int} (h0 : 0 ≤ b) (h1 : b ≤ 60) : shl .i64 1 b = 2 ^ b.toNat := by
  have := shl_one ⟨b.toNat, by omega⟩
  dsimp only at this
  rw [Int.toNat_of_nonneg h0] at this
  exact this
theorem shr_two {x b : Int} (h0 : 0 ≤ b) (h1 : b ≤ 60) : shr .i64 x b = x / 2 ^ b.toNat := by
  have e : shr .i64 x b = x / 2 ^ min b.toNat 64 := rfl
  rw [e, Nat.min_eq_left (by omega)]
theorem big18_eq (a : Int) : impl_big18.f a = some (decide (-4000000000000000000 ≤ a ∧ a ≤ 4000000000000000000)) := by
  unfold impl_big18.f
  by_cases h : a ≥ -4000000000000000000
  · rw [if_pos h]
    congr 1
    rw [decide_eq_decide]
    omega
  · rw [if_neg h]
    congr 1
    symm
    rw [decide_eq_false_iff_not]
    omega
theorem implShift_ev (x b : Int) (h0 : 0 ≤ b) (h1 : b ≤ 60) : Ev (fun k => impl_Shift.f k x b 1) (shV x b) := by
  have hc : impl_isCut.f 1 = some true := rfl
  unfold impl_Shift.f shV
  rw [big18_eq, ev_sbind]
  by_cases h : -4000000000000000000 ≤ x ∧ x ≤ 4000000000000000000
  · rw [decide_eq_true h, if_pos h, ev_pos rfl, ev_neg (by omega), ev_neg (by omega), hc, ev_sbind, ev_shift]
    simp only [impl_Shift.j0, Bool.not_true, Bool.false_eq_true, if_false]
    rw [ev_pos h0]
    by_cases c : b = 0
    · subst c
      rw [ev_pos rfl]
      exact ev_some (by simp)
    · rw [ev_neg c, w64 (by omega) (by omega), ev_pos (by omega), ev_neg (by omega), ev_neg (by omega), ev_neg (by omega), shr_two h0 h1]
      exact Ev.now _
  · rw [decide_eq_false h, if_neg h, ev_neg (by simp), ev_shift]
    simp only [impl_Shift.j0, if_true]
    exact Ev.now _
theorem specShift_ev (x b : Int) (h0 : 0 ≤ b) (h1 : b ≤ 60) : Ev (fun k => spec_Shift.f k x b 1) (shV x b) := by
  have hc : spec_l5Cut.f 1 = some true := rfl
  unfold spec_Shift.f shV
  rw [l1In_eq, ev_sbind]
  by_cases h : -4000000000000000000 ≤ x ∧ x ≤ 4000000000000000000
  · have hd : (0 : Int) < 2 ^ b.toNat := Int.pow_pos (by omega)
    have e1 : -4000000000000000000 ≤ x / 2 ^ b.toNat := (Int.le_ediv_iff_mul_le hd).2 (by omega)
    have e2 : x / 2 ^ b.toNat < 4000000000000000001 := (Int.ediv_lt_iff_lt_mul hd).2 (by omega)
    rw [decide_eq_true h, if_pos h, ev_pos rfl, l1In_eq, ev_sbind, decide_eq_true ⟨h0, h1⟩, ev_pos rfl, hc, ev_sbind, ev_shift]
    simp only [spec_Shift.j0, Bool.not_true, Bool.false_eq_true, if_false]
    rw [u64_small h0 (by omega), ev_pos h0, shl_two h0 h1, floor_eq _ _ hd (by omega) (by omega), ev_sbind, ev_neg (by omega), ev_neg (by omega), ev_neg (by omega)]
    exact Ev.now _
  · rw [decide_eq_false h, if_neg h, ev_neg (by simp), ev_shift]
    simp only [spec_Shift.j0, if_true]
    exact Ev.now _
def clampV (x : Int) : Int := if x > 1000000 then 1000000 else if x < -1000000 then -1000000 else x
theorem clamp_le (x : Int) : -1000000 ≤ clampV x ∧ clampV x ≤ 1000000 := by unfold clampV; split <;> (try split) <;> omega
theorem specEnd_eq (x : Int) : spec_l10End.f x = some (clampV x) := by
  unfold spec_l10End.f clampV
  split
  · rfl
  · split <;> rfl
theorem implEnd_eq (x : Int) : impl_nearer.f x (-1000000) 1000000 = some (clampV x) := by
  unfold impl_nearer.f clampV mn mx
  congr 1
  repeat (first | omega | split)
def dotW (w z : List Int) : Nat → Int
  | 0 => 0
  | n + 1 => wrap64 (dotW w z n + wrap64 (rd w (n : Int) * rd z (n : Int)))
def adZ (list : List Int) (t i : Nat) (z : List Int) : List Int := (rd list (i : Int) :: z).take t
def adE (want w z : List Int) (t i : Nat) : Int := wrap64 (rd want (i : Int) - shV (dotW w z t) 14)
def adW (w z : List Int) (t : Nat) (b e : Int) : List Int := tab t fun k => clampV (wrap64 (rd w (k : Int) + shV (wrap64 (e * rd z (k : Int))) b))
def adStep (list want : List Int) (t : Nat) (b : Int) (i : Nat) (s : List Int × List Int × List Int) : List Int × List Int × List Int :=
  (adW s.1 (adZ list t i s.2.1) t b (adE want s.1 (adZ list t i s.2.1) t i), adZ list t i s.2.1, s.2.2 ++ [adE want s.1 (adZ list t i s.2.1) t i])
def adAll (list want : List Int) (t : Nat) (b : Int) (n : Nat) : List Int × List Int × List Int := iter (adStep list want t b) n (List.replicate t 0, List.replicate t 0, [])
def adOk (t i : Nat) (s : List Int × List Int × List Int) : Prop := s.1.length = t ∧ s.2.1.length = t ∧ s.2.2.length = i
theorem adStep_ok (list want : List Int) (t : Nat) (b : Int) (i : Nat) (s : List Int × List Int × List Int) (h : adOk t i s) : adOk t (i + 1) (adStep list want t b i s) := by
  obtain ⟨h1, h2, h3⟩ := h
  refine ⟨by simp [adStep, adW], by simp [adStep, adZ]; omega, by simp [adStep, h3]⟩
theorem adAll_ok (list want : List Int) (t : Nat) (b : Int) (n : Nat) : adOk t n (adAll list want t b n) :=
  iter_inv (fun i s => adOk t i s) n _ ⟨by simp, by simp, rfl⟩ fun i s _ h => adStep_ok list want t b i s h
theorem specAdapt0_ev (list want : List Int) (t : Nat) (b : Int) (ht0 : 1 ≤ t) (ht1 : t ≤ 64) (hb0 : 0 ≤ b) (hb1 : b ≤ 40) (hl : list.length ≤ 512) (hw : list.length = want.length) :
    Ev (fun k => spec_Adapt.l0 k (t : Int) b list want (List.replicate t 0) (List.replicate t 0) [] 0) ((adAll list want t b list.length).2.2, (adAll list want t b list.length).1, true) := by
  have g := for_iff (fun k (s : List Int × List Int × List Int) i => spec_Adapt.l0 k (t : Int) b list want s.1 s.2.1 s.2.2 i) (adStep list want t b) (fun i s => adOk t i s) list.length ((adAll list want t b list.length).2.2, (adAll list want t b list.length).1, true) ?_ (List.replicate t 0, List.replicate t 0, []) ⟨by simp, by simp, rfl⟩
  · refine g.2.2 ?_
    rw [ev_shift]
    simp only [spec_Adapt.l0]
    rw [ev_neg (by omega)]
    exact Ev.now _
  · intro i s hi hs
    refine ⟨adStep_ok list want t b i s hs, ?_⟩
    obtain ⟨w, z, o⟩ := s
    obtain ⟨h1, h2, h3⟩ := hs
    dsimp only at h1 h2 h3 ⊢
    rw [ev_shift]
    simp only [spec_Adapt.l0]
    rw [ev_pos (by omega), ev_pos (by omega), ev_sbind, w64 (n := (t : Int) - 1) (by omega) (by omega), ev_pos (by omega), ev_pos (by omega), ev_sbind, ev_pos (by simp; omega)]
    have ez : [rd list (i : Int)] ++ z.take ((t : Int) - 1).toNat = adZ list t i z := by
      obtain ⟨u, rfl⟩ : ∃ u, t = u + 1 := ⟨t - 1, by omega⟩
      have : (((u + 1 : Nat) : Int) - 1).toNat = u := by omega
      rw [this]
      rfl
    have hz : (adZ list t i z).length = t := by simp [adZ]; omega
    rw [ez]
    have eS : adStep list want t b i (w, z, o) = (adW w (adZ list t i z) t b (adE want w (adZ list t i z) t i), adZ list t i z, o ++ [adE want w (adZ list t i z) t i]) := rfl
    rw [eS]
    dsimp only
    generalize adZ list t i z = y at *
    have d := for_iff (fun k s q => spec_Adapt.l1 k (t : Int) b list want w y o (i : Int) s q) (fun q _ => dotW w y (q + 1)) (fun q s => s = dotW w y q) t ((adAll list want t b list.length).2.2, (adAll list want t b list.length).1, true) ?_ 0 rfl
    · rw [d.2, d.1, ev_shift]
      simp only [spec_Adapt.l1]
      rw [ev_neg (by omega), ev_pos (by omega), ev_pos (by omega), ev_bind (specShift_ev _ 14 (by omega) (by omega))]
      have eE : wrap64 (rd want (i : Int) - shV (dotW w y t) 14) = adE want w y t i := rfl
      rw [eE]
      generalize adE want w y t i = e
      have m := map_loop (fun k s q => spec_Adapt.l2 k (t : Int) b list want s y o (i : Int) e q) w (fun k => clampV (wrap64 (rd w (k : Int) + shV (wrap64 (e * rd y (k : Int))) b))) ((adAll list want t b list.length).2.2, (adAll list want t b list.length).1, true) ?_
      · rw [m, h1, ev_shift]
        simp only [spec_Adapt.l2]
        rw [ev_neg (by omega), ev_pos (by omega), w64 (by omega) (by omega)]
        exact Iff.rfl
      · intro q s hq hs hr
        rw [ev_shift]
        simp only [spec_Adapt.l2]
        rw [ev_pos (by omega), ev_pos (by omega), ev_pos (by omega), ev_pos (by omega), ev_bind (specShift_ev _ b hb0 (by omega)), specEnd_eq, ev_sbind, hr, Int.toNat_natCast, w64 (n := (q : Int) + 1) (by omega) (by omega)]
    · intro q s hq hs
      subst hs
      refine ⟨rfl, ?_⟩
      rw [ev_shift]
      simp only [spec_Adapt.l1]
      rw [ev_pos (by omega), ev_pos (by omega), ev_pos (by omega), ev_pos (by omega), w64 (n := (q : Int) + 1) (by omega) (by omega)]
      exact Iff.rfl
theorem implAdapt0_ev (list want : List Int) (t : Nat) (b : Int) (ht0 : 1 ≤ t) (ht1 : t ≤ 64) (hb0 : 0 ≤ b) (hb1 : b ≤ 40) (hl : list.length ≤ 512) (hw : list.length = want.length) :
    Ev (fun k => impl_Adapt.l0 k (t : Int) b want (List.replicate t 0) (List.replicate t 0) [] list (list.length : Int) 0) ((adAll list want t b list.length).2.2, (adAll list want t b list.length).1, true) := by
  have g := for_iff (fun k (s : List Int × List Int × List Int) i => impl_Adapt.l0 k (t : Int) b want s.1 s.2.1 s.2.2 list (list.length : Int) i) (adStep list want t b) (fun i s => adOk t i s) list.length ((adAll list want t b list.length).2.2, (adAll list want t b list.length).1, true) ?_ (List.replicate t 0, List.replicate t 0, []) ⟨by simp, by simp, rfl⟩
  · refine g.2.2 ?_
    rw [ev_shift]
    simp only [impl_Adapt.l0]
    rw [ev_neg (by omega)]
    exact Ev.now _
  · intro i s hi hs
    refine ⟨adStep_ok list want t b i s hs, ?_⟩
    obtain ⟨w, z, o⟩ := s
    obtain ⟨h1, h2, h3⟩ := hs
    dsimp only at h1 h2 h3 ⊢
    rw [ev_shift]
    simp only [impl_Adapt.l0]
    rw [ev_pos (by omega), ev_pos (by omega), ev_pos (by omega), ev_sbind, ev_pos (by simp; omega), ev_sbind, ev_pos (by omega), ev_pos (by simp; omega), ev_sbind]
    have ez : ([rd list (i : Int)] ++ z).take ((t : Int)).toNat = adZ list t i z := by rw [Int.toNat_natCast]; rfl
    have hz : (adZ list t i z).length = t := by simp [adZ]; omega
    rw [ez]
    have eS : adStep list want t b i (w, z, o) = (adW w (adZ list t i z) t b (adE want w (adZ list t i z) t i), adZ list t i z, o ++ [adE want w (adZ list t i z) t i]) := rfl
    rw [eS]
    dsimp only
    generalize adZ list t i z = y at *
    have d := for_iff (fun k s q => impl_Adapt.l1 k (t : Int) b want w y o (i : Int) s list (list.length : Int) (i : Int) y (y.length : Int) q) (fun q _ => dotW w y (q + 1)) (fun q s => s = dotW w y q) t ((adAll list want t b list.length).2.2, (adAll list want t b list.length).1, true) ?_ 0 rfl
    · rw [d.2, d.1, ev_shift]
      simp only [impl_Adapt.l1]
      rw [ev_neg (by omega), ev_pos (by omega), ev_pos (by omega), ev_bind (implShift_ev _ 14 (by omega) (by omega))]
      have eE : wrap64 (rd want (i : Int) - shV (dotW w y t) 14) = adE want w y t i := rfl
      rw [eE]
      generalize adE want w y t i = e
      have m := map_loop (fun k s q => impl_Adapt.l2 k (t : Int) b want s y o e list (list.length : Int) (i : Int) y (y.length : Int) q) w (fun k => clampV (wrap64 (rd w (k : Int) + shV (wrap64 (e * rd y (k : Int))) b))) ((adAll list want t b list.length).2.2, (adAll list want t b list.length).1, true) ?_
      · rw [m, h1, ev_shift]
        simp only [impl_Adapt.l2]
        rw [ev_neg (by omega), ev_pos (by omega), w64 (by omega) (by omega)]
        exact Iff.rfl
      · intro q s hq hs hr
        rw [ev_shift]
        simp only [impl_Adapt.l2]
        rw [ev_pos (by omega), ev_pos (by omega), ev_pos (by omega), ev_pos (by omega), ev_bind (implShift_ev _ b hb0 (by omega)), implEnd_eq, ev_sbind, hr, Int.toNat_natCast, w64 (n := (q : Int) + 1) (by omega) (by omega)]
    · intro q s hq hs
      subst hs
      refine ⟨rfl, ?_⟩
      rw [ev_shift]
      simp only [impl_Adapt.l1]
      rw [ev_pos (by omega), ev_pos (by omega), ev_pos (by omega), ev_pos (by omega), w64 (n := (q : Int) + 1) (by omega) (by omega)]
      exact Iff.rfl
def AdOk (a b : Int) (list want : List Int) : Prop := 1 ≤ a ∧ a ≤ 64 ∧ 0 ≤ b ∧ b ≤ 40 ∧ list.length ≤ 512 ∧ list.length = want.length ∧ inB 32767 list = true ∧ inB 32767 want = true
open Classical in
noncomputable def adR (a b : Int) (list want : List Int) : List Int × List Int × Bool :=
  if AdOk a b list want then ((adAll list want a.toNat b list.length).2.2, (adAll list want a.toNat b list.length).1, true) else ([], [], false)
theorem adR_length (a b : Int) (list want : List Int) : (adR a b list want).1.length ≤ 2000000 ∧ (adR a b list want).2.1.length ≤ 2000000 := by
  unfold adR
  split
  · rename_i h
    obtain ⟨h1, h2, h3, h4, h5, _⟩ := h
    have := adAll_ok list want a.toNat b list.length
    obtain ⟨g1, g2, g3⟩ := this
    dsimp only
    omega
  · simp
theorem specAdapt_ev (a b : Int) (list want : List Int) (hl : list.length ≤ 2000000) (hw : want.length ≤ 2000000) : Ev (fun k => spec_Adapt.f k a b list want) (adR a b list want) := by
  have no : ¬ AdOk a b list want → Ev (fun k => spec_Adapt.j0 k a b list want true) (adR a b list want) := by
    intro h
    unfold adR
    rw [if_neg h, ev_shift]
    simp only [spec_Adapt.j0, if_true]
    exact Ev.now _
  unfold spec_Adapt.f
  rw [l1In_eq, ev_sbind]
  by_cases h1 : 1 ≤ a ∧ a ≤ 64
  · rw [decide_eq_true h1, ev_pos rfl, l1In_eq, ev_sbind]
    by_cases h2 : 0 ≤ b ∧ b ≤ 40
    · rw [decide_eq_true h2, ev_pos rfl]
      by_cases h3 : (list.length : Int) > 512
      · rw [ev_pos h3]
        exact no fun h => by obtain ⟨_, _, _, _, q, _⟩ := h; omega
      · rw [ev_neg h3]
        by_cases h4 : (list.length : Int) = (want.length : Int)
        · rw [ev_pos h4, ev_bind (l9Wide_ev list 32767 hl (by omega) (by omega))]
          by_cases h5 : inB 32767 list = true
          · rw [ev_pos h5, ev_bind (l9Wide_ev want 32767 hw (by omega) (by omega))]
            by_cases h6 : inB 32767 want = true
            · obtain ⟨t, rfl⟩ : ∃ t : Nat, a = (t : Int) := ⟨a.toNat, by omega⟩
              rw [h6, ev_shift]
              simp only [spec_Adapt.j0, Bool.not_true, Bool.false_eq_true, if_false]
              rw [ev_pos (by omega), Int.toNat_natCast, ev_pos (by omega)]
              unfold adR
              rw [if_pos ⟨h1.1, h1.2, h2.1, h2.2, by omega, by omega, h5, h6⟩, Int.toNat_natCast]
              exact specAdapt0_ev list want t b (by omega) (by omega) h2.1 h2.2 (by omega) (by omega)
            · have : inB 32767 want = false := by simpa using h6
              rw [this]
              exact no fun h => h6 h.2.2.2.2.2.2.2
          · rw [ev_neg h5]
            exact no fun h => h5 h.2.2.2.2.2.2.1
        · rw [ev_neg h4]
          exact no fun h => h4 (by have := h.2.2.2.2.2.1; omega)
    · rw [decide_eq_false h2, ev_neg (by simp)]
      exact no fun h => h2 ⟨h.2.2.1, h.2.2.2.1⟩
  · rw [decide_eq_false h1, ev_neg (by simp)]
    exact no fun h => h1 ⟨h.1, h.2.1⟩
theorem sig_of {l : List Int} (h : l.length ≤ 512) (k : inB 32767 l = true) : sigB l = true := by
  refine sigB_iff.2 ⟨h, inB_iff.2 fun x hx => ?_⟩
  have := inB_iff.1 k x hx
  omega
theorem implAdapt_ev (a b : Int) (list want : List Int) (hl : list.length ≤ 2000000) (hw : want.length ≤ 2000000) : Ev (fun k => impl_Adapt.f k a b list want) (adR a b list want) := by
  have no : ¬ AdOk a b list want → Ev (fun k => impl_Adapt.j0 k a b list want true) (adR a b list want) := by
    intro h
    unfold adR
    rw [if_neg h, ev_shift]
    simp only [impl_Adapt.j0, if_true]
    exact Ev.now _
  unfold impl_Adapt.f
  by_cases h1 : a < 1
  · rw [ev_pos h1]
    exact no fun h => by have := h.1; omega
  rw [ev_neg h1]
  by_cases h2 : a > 64
  · rw [ev_pos h2]
    exact no fun h => by have := h.2.1; omega
  rw [ev_neg h2]
  by_cases h3 : b < 0
  · rw [ev_pos h3]
    exact no fun h => by have := h.2.2.1; omega
  rw [ev_neg h3]
  by_cases h4 : b > 40
  · rw [ev_pos h4]
    exact no fun h => by have := h.2.2.2.1; omega
  rw [ev_neg h4, ev_bind (implSig_ev list hl)]
  by_cases h5 : sigB list = true
  · rw [ev_pos h5, ev_bind (implSig_ev want hw)]
    by_cases h6 : sigB want = true
    · rw [ev_pos h6]
      by_cases h7 : (list.length : Int) = (want.length : Int)
      · rw [ev_pos h7, ev_bind (within_ev list 32767 hl (by omega) (by omega))]
        by_cases h8 : inB 32767 list = true
        · rw [ev_pos h8, ev_bind (within_ev want 32767 hw (by omega) (by omega))]
          have h5' := (sigB_iff.1 h5).1
          by_cases h9 : inB 32767 want = true
          · obtain ⟨t, rfl⟩ : ∃ t : Nat, a = (t : Int) := ⟨a.toNat, by omega⟩
            rw [h9, ev_shift]
            simp only [impl_Adapt.j0, Bool.not_true, Bool.false_eq_true, if_false]
            rw [ev_pos (by omega), Int.toNat_natCast, ev_pos (by omega)]
            unfold adR
            rw [if_pos ⟨by omega, by omega, by omega, by omega, by omega, by omega, h8, h9⟩, Int.toNat_natCast]
            exact implAdapt0_ev list want t b (by omega) (by omega) (by omega) (by omega) (by omega) (by omega)
          · have : inB 32767 want = false := by simpa using h9
            rw [this]
            exact no fun h => h9 h.2.2.2.2.2.2.2
        · rw [ev_neg h8]
          exact no fun h => h8 h.2.2.2.2.2.2.1
      · rw [ev_neg h7]
        exact no fun h => h7 (by have := h.2.2.2.2.2.1; omega)
    · rw [ev_neg h6]
      exact no fun h => h6 (sig_of (by have := h.2.2.2.2.1; have := h.2.2.2.2.2.1; omega) h.2.2.2.2.2.2.2)
  · rw [ev_neg h5]
    exact no fun h => h5 (sig_of h.2.2.2.2.1 h.2.2.2.2.2.2.1)

theorem drawAdaptFin (b l s : List Int) (i h : Int) (hc : CurOk b i) (hs : s.length ≤ 2000) (q : Int) (last : Int) (hq : ¬ q < (l.length : Int)) :
    ∃ t y w, Ev (fun k => spec_DrawAdapt.l0 k l s last q b i h) (t, y, l, w) ∧ w.length ≤ 2001 := by
  obtain ⟨t, i1, h1, e, hc1⟩ := l1Once_ok b i h 20 hc
  obtain ⟨x, i2, h2, e2, hc2, _⟩ := l1PickInt_ok b i1 h1 [1, 2, 4, 8, 64, 65, 0, 3] (by simp) hc1
  obtain ⟨y, i3, h3, e3, hc3, _⟩ := l1PickInt_ok b i2 h2 [0, 6, 10, 14, 20, 40, 41, (-1), 12] (by simp) hc2
  by_cases ht : t = true
  · refine ⟨x, y, s ++ [0], ?_, by simp; omega⟩
    rw [ev_shift]
    simp only [spec_DrawAdapt.l0]
    rw [ev_neg hq, e, ev_sbind, ev_pos ht, ev_pos (by omega)]
    dsimp only
    rw [e2, ev_sbind]
    dsimp only
    rw [e3, ev_sbind]
    exact Ev.now _
  · refine ⟨x, y, s, ?_, by omega⟩
    rw [ev_shift]
    simp only [spec_DrawAdapt.l0]
    rw [ev_neg hq, e, ev_sbind, ev_neg ht]
    dsimp only
    rw [e2, ev_sbind]
    dsimp only
    rw [e3, ev_sbind]
    exact Ev.now _
theorem drawAdaptLoop (b l : List Int) (hl : l.length ≤ 2000) (i h : Int) (hc : CurOk b i) : ∀ (d : Nat) (s : List Int) (last : Int), l.length - s.length ≤ d → s.length ≤ 2000 →
    ∃ t y w, Ev (fun k => spec_DrawAdapt.l0 k l s last (s.length : Int) b i h) (t, y, l, w) ∧ w.length ≤ 2001 := by
  intro d
  induction d with
  | zero => intro s last hd hs; exact drawAdaptFin b l s i h hc hs _ last (by omega)
  | succ d ih =>
    intro s last hd hs
    by_cases c : s.length < l.length
    · obtain ⟨t, y, w, e, hw⟩ := ih (s ++ [wrap64 (Int.tdiv (wrap64 ((rd l (s.length : Int)) + last)) 2)]) (rd l (s.length : Int)) (by simp; omega) (by simp; omega)
      have el : ((s ++ [wrap64 (Int.tdiv (wrap64 ((rd l (s.length : Int)) + last)) 2)]).length : Int) = (s.length : Int) + 1 := by simp
      rw [el] at e
      refine ⟨t, y, w, ?_, hw⟩
      rw [ev_shift]
      simp only [spec_DrawAdapt.l0]
      rw [ev_pos (by omega), ev_pos (by omega), ev_pos (by omega), w64 (n := (s.length : Int) + 1) (by omega) (by omega)]
      exact e
    · exact drawAdaptFin b l s i h hc hs _ last (by omega)
theorem drawAdapt_ev (b : List Int) (hb : b.length ≤ 2000000) : ∃ t y l w, Ev (fun k => spec_DrawAdapt.f k b) (t, y, l, w) ∧ l.length ≤ 2000 ∧ w.length ≤ 2001 := by
  unfold spec_DrawAdapt.f
  obtain ⟨h, e1⟩ := l1New_ev b hb
  obtain ⟨s, e2, hs0, hs1⟩ := l1Size_eq b 30 hb (by omega)
  obtain ⟨l, i1, h1, e3, hc1, hl⟩ := l10DrawSmall_ev b 0 h s ⟨by omega, by omega, hb⟩ (by omega) (by omega)
  obtain ⟨t, y, w, e4, hw⟩ := drawAdaptLoop b l (by omega) i1 h1 hc1 2000 [] 0 (by simp; omega) (by simp)
  refine ⟨t, y, l, w, ?_, by omega, hw⟩
  rw [ev_bind e1]
  dsimp only
  rw [e2, ev_sbind, ev_bind e3]
  exact e4
theorem ad_small : adR 1 0 [1] [5] = ([5], [5], true) := by
  unfold adR
  rw [if_pos (by refine ⟨?_, ?_, ?_, ?_, ?_, ?_, ?_, ?_⟩ <;> decide +kernel)]
  decide +kernel
theorem dotW_zero (t n : Nat) (z : List Int) : dotW (List.replicate t 0) z n = 0 := by
  induction n with
  | zero => rfl
  | succ n ih =>
    simp only [dotW]
    rw [ih, rd_replicate, Int.zero_mul, wrap_zero, Int.add_zero, wrap_zero]
theorem ad_taps (list want : List Int) (t : Nat) (b : Int) (n : Nat) : inB 1000000 (adAll list want t b n).1 = true := by
  refine iter_inv (fun _ (s : List Int × List Int × List Int) => inB 1000000 s.1 = true) n _ ?_ ?_
  · refine inB_iff.2 fun x hx => ?_
    rw [List.mem_replicate] at hx
    omega
  · intro i s _ _
    refine inB_iff.2 fun x hx => ?_
    obtain ⟨k, hk, rfl⟩ := mem_rd hx
    unfold adStep adW at hk ⊢
    rw [tab_length] at hk
    rw [rd_tab' hk]
    exact clamp_le _
theorem ad_first (list want : List Int) (hw : inB 32767 want = true) (t : Nat) (b : Int) (n : Nat) (hn : 0 < n) : rd (adAll list want t b n).2.2 0 = rd want 0 := by
  have h := iter_inv (f := adStep list want t b) (fun i s => adOk t i s ∧ (i = 0 → s = (List.replicate t 0, List.replicate t 0, [])) ∧ (0 < i → rd s.2.2 0 = rd want 0)) n (List.replicate t 0, List.replicate t 0, []) ⟨⟨by simp, by simp, rfl⟩, fun _ => rfl, fun h => absurd h (by omega)⟩ ?_
  · exact h.2.2 hn
  · intro i s _ ⟨h1, h2, h3⟩
    refine ⟨adStep_ok list want t b i s h1, fun h => absurd h (by omega), fun _ => ?_⟩
    by_cases c : i = 0
    · have := h2 c
      subst c
      subst this
      have e : (adStep list want t b 0 (List.replicate t 0, List.replicate t 0, [])).2.2 = [adE want (List.replicate t 0) (adZ list t 0 (List.replicate t 0)) t 0] := rfl
      rw [e, rd_single]
      unfold adE
      have z : shV 0 14 = 0 := by decide +kernel
      have hb := inB_rd hw (by omega) 0
      rw [dotW_zero, z, Int.sub_zero]
      exact w64 (by have : rd want ((0 : Nat) : Int) = rd want 0 := rfl; omega) (by have : rd want ((0 : Nat) : Int) = rd want 0 := rfl; omega)
    · have e : (adStep list want t b i s).2.2 = s.2.2 ++ [adE want s.1 (adZ list t i s.2.1) t i] := rfl
      obtain ⟨_, _, g⟩ := h1
      rw [e, rd_append_left (by omega) (by omega)]
      exact h3 (by omega)
theorem abs_eq (x : Int) (h0 : -1000000 ≤ x) (h1 : x ≤ 1000000) : ∃ y, laws_abs.f x = some y ∧ y ≤ 1000000 := by
  unfold laws_abs.f
  by_cases c : x < 0
  · rw [if_pos c, w64 (by omega) (by omega)]
    exact ⟨_, rfl, by omega⟩
  · rw [if_neg c]
    exact ⟨_, rfl, by omega⟩
theorem tail0 (t b : Int) (l w : List Int) : Ev (fun k => laws_FnAdapted.j0 k t w (adR t b l w).1 (adR t b l w).2.1 (adR t b l w).2.2 false) true := by
  rw [ev_shift]
  simp only [laws_FnAdapted.j0, Bool.false_eq_true, if_false]
  by_cases h : AdOk t b l w
  · have e : adR t b l w = ((adAll l w t.toNat b l.length).2.2, (adAll l w t.toNat b l.length).1, true) := by
      unfold adR
      rw [if_pos h]
    obtain ⟨h1, h2, h3, h4, h5, h6, h7, h8⟩ := h
    rw [e]
    dsimp only
    rw [ev_pos rfl]
    have ok := adAll_ok l w t.toNat b l.length
    have tp := ad_taps l w t.toNat b l.length
    have fst := fun hn => ad_first l w h8 t.toNat b l.length hn
    generalize adAll l w t.toNat b l.length = S at *
    obtain ⟨g1, g2, g3⟩ := ok
    have g := for_iff (fun q (_ : Unit) i => laws_FnAdapted.l0 q t w S.2.2 S.1 i) (fun _ s => s) (fun _ _ => True) S.1.length true ?_ () trivial
    · rw [g.2, ev_shift]
      simp only [laws_FnAdapted.l0]
      rw [ev_neg (by omega), ev_pos (by omega), ev_pos (by omega)]
      by_cases z : (S.2.2.length : Int) = 0
      · rw [ev_pos z]
        exact Ev.now _
      · rw [ev_neg z, ev_pos (by omega), ev_pos (by omega), ev_some_iff, beq_iff_eq]
        exact fst (by omega)
    · intro i _ hi _
      refine ⟨trivial, ?_⟩
      have hb := inB_rd tp (by omega) (i : Int)
      obtain ⟨y, ey, hy⟩ := abs_eq _ hb.1 hb.2
      rw [ev_shift]
      simp only [laws_FnAdapted.l0]
      rw [ev_pos (by omega), ev_pos (by omega), ey, ev_sbind, ev_neg (by omega), w64 (by omega) (by omega)]
  · have e : adR t b l w = ([], [], false) := by
      unfold adR
      rw [if_neg h]
    rw [e]
    dsimp only
    rw [ev_neg (by simp), ev_pos (by simp)]
    exact Ev.now _
theorem FnAdapted : laws_FnAdapted.Pure := by
  intro l0 _ _ _
  refine Ev.rounds (g := fun k => laws_FnAdapted.f k l0) ?_
  simp only [laws_FnAdapted.f]
  rw [big_eq, ev_sbind]
  by_cases hlen : (l0.length : Int) > 1048576
  · rw [ev_pos (by simpa using hlen)]
    exact Ev.now _
  rw [ev_neg (by simpa using hlen)]
  obtain ⟨t, y, l, w, hd, hl, hw⟩ := drawAdapt_ev l0 (by omega)
  rw [ev_bind hd]
  dsimp only
  rw [ev_bind (implAdapt_ev t y l w (by omega) (by omega)), ev_bind (specAdapt_ev t y l w (by omega) (by omega)), ev_neg (by simp), ev_bind (implAdapt_ev 1 0 [1] [5] (by simp) (by simp)), ad_small]
  dsimp only
  rw [ev_pos rfl, ev_bind (sameInts_ev [5] [5] (by simp)), decide_eq_true rfl, ev_pos rfl, ev_bind (sameInts_ev [5] [5] (by simp)), decide_eq_true rfl]
  exact tail0 t y l w

end Go.Proofs.Ytgincgknmchedaa.Pure
