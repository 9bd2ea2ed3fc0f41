/- The pure part of FnBlocksAlike: a convolution may be turned about, and blocks of any size give it too. No conditions. -/
import Derived.Test.YtilcnbommpncgaaQFnBlocksAlikex4
import Derived.Test.YtilcnbommpncgaaBase
import Derived.Test.YtilcnbommpncgaaWal
namespace Go.Proofs.Ytilcnbommpncgaa.Pure
open Go.RowKit Go.Proofs.Ytilcnbommpncgaa.QFnBlocksAlike Go.Proofs.YtilcnbommpncgaaW.PrintWords Go.Proofs.YtilcnbommpncgaaW.PrintLast
open Go.Proofs.Ytilcnbommpncgaa.Base Go.Proofs.Ytilcnbommpncgaa.Wal
set_option linter.unusedVariables false
set_option linter.unusedSimpArgs false
theorem big_eq (l : List Int) : laws_big.f l = some (decide ((l.length : Int) > 1048576)) := rfl

theorem sameInts_ev (a b : List Int) (h : a.length ≤ 2000000) : Ev (fun k => laws_sameInts.f k a b) (decide (a = b)) := by
  unfold laws_sameInts.f
  by_cases e : a.length = b.length
  · rw [ev_pos (by omega)]
    rw [all_iff (fun k i => laws_sameInts.l0 k a b i) (fun i => decide (rd a (i : Int) = rd b (i : Int))) a.length _ false]
    · split
      · rename_i hp
        have : a = b := list_ext_rd e fun i hi => by simpa using range_all.1 hp i hi
        rw [decide_eq_true this]
        exact Ev.step (fun k => by simp only [laws_sameInts.l0]; rw [if_neg (by omega)]) (Ev.now _)
      · rename_i hp
        have : ¬ a = b := fun h => hp (by subst h; rw [range_all]; simp)
        simp [this]
    · intro i hi
      by_cases p : rd a (i : Int) = rd b (i : Int)
      · rw [if_pos (by simpa using p)]
        rw [ev_shift]
        simp only [laws_sameInts.l0]
        rw [ev_pos (by omega), ev_pos (by omega), ev_pos (by omega), ev_pos p, w64 (by omega) (by omega)]
      · rw [if_neg (by simpa using p)]
        rw [ev_shift]
        simp only [laws_sameInts.l0]
        rw [ev_pos (by omega), ev_pos (by omega), ev_pos (by omega), ev_neg p, ev_some_iff]
  · rw [ev_neg (by omega)]
    have : ¬ a = b := fun h => e (by rw [h])
    simp only [this, decide_false]
    exact Ev.now _


theorem byte_of {x : Int} (h : (Lit.int .u8 x).wf = true) : 0 ≤ x ∧ x ≤ 255 := by
  have h1 : IntKind.u8.min ≤ x ∧ x ≤ IntKind.u8.max := by simpa [Lit.wf] using h
  have e1 : IntKind.u8.min = 0 := by decide
  have e2 : IntKind.u8.max = 255 := by decide
  omega
theorem at_ok (b : List Int) (i : Int) (hb : b.length ≤ 2000000) (hw : ∀ x ∈ b, (Lit.int .u8 x).wf = true) (h0 : 0 ≤ i) (h1 : i ≤ 1000000) : ∃ v, laws_at.f b i = some v ∧ 0 ≤ v ∧ v ≤ 255 := by
  unfold laws_at.f
  by_cases h : i < (b.length : Int)
  · have := byte_of (hw _ (rd_mem h0 h))
    rw [if_pos h, if_pos h0, w64 (by omega) (by omega)]
    exact ⟨_, rfl, this.1, this.2⟩
  · rw [if_neg h, w64 (n := i * 7) (by omega) (by omega), w64 (by omega) (by omega)]
    exact ⟨_, rfl, Int.tmod_nonneg _ (by omega), by have := Int.tmod_lt_of_pos (i * 7 + (b.length : Int)) (by omega : (0 : Int) < 256); omega⟩

/-! ### the cursor of a draw -/
def CurOk (b : List Int) (i : Int) : Prop := 0 ≤ i ∧ i ≤ (b.length : Int) ∧ b.length ≤ 2000000
theorem l1New_ev (b : List Int) (hb : b.length ≤ 2000000) : ∃ h, Ev (fun k => spec_l1New.f k b) (b, 0, h) := by
  unfold spec_l1New.f
  refine ⟨iter (fun i h => Go.bits .and .i64 (wrap64 ((wrap64 ((wrap64 (h * 131)) + (wrap64 (rd b (i : Int))))) + 7)) 1073741823) (min b.length 4000) (wrap64 (71933 + (b.length : Int))), ?_⟩
  rw [(for_iff (fun k h i => spec_l1New.l0 k b h i) (fun i h => Go.bits .and .i64 (wrap64 ((wrap64 ((wrap64 (h * 131)) + (wrap64 (rd b (i : Int))))) + 7)) 1073741823) (fun _ _ => True) (min b.length 4000) _ ?_ _ trivial).2]
  · rw [ev_shift]
    simp only [spec_l1New.l0]
    by_cases h : ((min b.length 4000 : Nat) : Int) < (b.length : Int)
    · rw [ev_pos h, ev_neg (by omega)]
      exact Ev.now _
    · rw [ev_neg h]
      exact Ev.now _
  · intro i s hi _
    refine ⟨trivial, ?_⟩
    rw [ev_shift]
    simp only [spec_l1New.l0]
    rw [ev_pos (by omega), ev_pos (by omega), ev_pos (by omega), w64 (n := (i : Int) + 1) (by omega) (by omega)]
theorem l1Byte_ok (b : List Int) (i h : Int) (hc : CurOk b i) : ∃ x i' h', spec_l1Byte.f b i h = some (x, i', h') ∧ CurOk b i' ∧ 0 ≤ x ∧ x ≤ 255 := by
  obtain ⟨h0, h1, h2⟩ := hc
  unfold spec_l1Byte.f
  by_cases c : i < (b.length : Int)
  · rw [if_pos c, if_pos h0]
    have := band_range
    refine ⟨_, _, _, rfl, ⟨?_, ?_, h2⟩, (band_range _ 255 (by omega) (by omega)).1, (band_range _ 255 (by omega) (by omega)).2⟩
    · rw [w64 (by omega) (by omega)]; omega
    · rw [w64 (by omega) (by omega)]; omega
  · rw [if_neg c]
    exact ⟨_, _, _, rfl, ⟨h0, h1, h2⟩, (band_range _ 255 (by omega) (by omega)).1, (band_range _ 255 (by omega) (by omega)).2⟩
theorem l1Below_ok (b : List Int) (i h n : Int) (hc : CurOk b i) : ∃ x i' h', spec_l1Below.f b i h n = some (x, i', h') ∧ CurOk b i' ∧ 0 ≤ x ∧ (0 < n → x < n) ∧ (n ≤ 0 → x = 0) := by
  unfold spec_l1Below.f
  by_cases c : n ≤ 0
  · rw [if_pos c]
    exact ⟨_, _, _, rfl, hc, by omega, by omega, fun _ => rfl⟩
  · rw [if_neg c]
    by_cases d : n ≤ 256
    · rw [if_pos d]
      obtain ⟨x, i1, h1, e, hc1, hx0, hx1⟩ := l1Byte_ok b i h hc
      rw [e]
      simp only [Option.bind_some]
      rw [if_neg (by omega)]
      refine ⟨_, _, _, rfl, hc1, ?_, fun _ => ?_, fun h => absurd h c⟩
      · exact Int.tmod_nonneg _ hx0
      · exact Int.tmod_lt_of_pos _ (by omega)
    · rw [if_neg d]
      obtain ⟨x, i1, h1, e, hc1, hx0, hx1⟩ := l1Byte_ok b i h hc
      rw [e]
      simp only [Option.bind_some]
      obtain ⟨y, i2, h2, e, hc2, hy0, hy1⟩ := l1Byte_ok b i1 h1 hc1
      rw [e]
      simp only [Option.bind_some]
      obtain ⟨z, i3, h3, e, hc3, hz0, hz1⟩ := l1Byte_ok b i2 h2 hc2
      rw [e]
      simp only [Option.bind_some]
      obtain ⟨w, i4, h4, e, hc4, hw0, hw1⟩ := l1Byte_ok b i3 h3 hc3
      rw [e]
      simp only [Option.bind_some]
      rw [if_neg (by omega)]
      refine ⟨_, _, _, rfl, hc4, ?_, fun _ => ?_, fun h => absurd h c⟩
      · refine Int.tmod_nonneg _ ?_
        rw [w64 (n := x * 16777216) (by omega) (by omega), w64 (n := y * 65536) (by omega) (by omega), w64 (n := z * 256) (by omega) (by omega), w64 (n := x * 16777216 + y * 65536) (by omega) (by omega), w64 (n := x * 16777216 + y * 65536 + z * 256) (by omega) (by omega), w64 (by omega) (by omega)]
        omega
      · exact Int.tmod_lt_of_pos _ (by omega)
theorem l1Once_ok (b : List Int) (i h n : Int) (hc : CurOk b i) : ∃ t i' h', spec_l1Once.f b i h n = some (t, i', h') ∧ CurOk b i' := by
  unfold spec_l1Once.f
  obtain ⟨x, i1, h1, e, hc1, _⟩ := l1Below_ok b i h n hc
  rw [e]
  exact ⟨_, _, _, rfl, hc1⟩

theorem l1PickInt_ok (b : List Int) (i h : Int) (l : List Int) (hl : 0 < l.length) (hc : CurOk b i) : ∃ x i' h', spec_l1PickInt.f b i h l = some (x, i', h') ∧ CurOk b i' ∧ x ∈ l := by
  unfold spec_l1PickInt.f
  obtain ⟨x, i1, h1, e, hc1, h0, hx, _⟩ := l1Below_ok b i h (l.length : Int) hc
  rw [e]
  simp only [Option.bind_some]
  have := hx (by omega)
  rw [if_pos h0, if_pos this]
  exact ⟨_, _, _, rfl, hc1, rd_mem h0 this⟩

theorem l1Size_eq (l : List Int) (m : Int) (hl : l.length ≤ 2000000) (hm : 2 ≤ m) : ∃ s, spec_l1Size.f l m = some s ∧ 2 ≤ s ∧ s ≤ m := by
  unfold spec_l1Size.f
  rw [w64 (n := (l.length : Int) / 20) (by omega) (by omega), w64 (by omega) (by omega)]
  by_cases h : 2 + (l.length : Int) / 20 > m
  · rw [if_pos h]
    exact ⟨m, rfl, hm, by omega⟩
  · rw [if_neg h]
    exact ⟨_, rfl, by omega, by omega⟩

theorem l6DrawTapsLoop (b : List Int) : ∀ (n : Nat) (s : List Int) (i h : Int), CurOk b i → s.length + n ≤ 1000000 →
    ∃ r i' h', Ev (fun k => spec_l6DrawTaps.l0 k s (n : Int) b i h) (r, i', h') ∧ CurOk b i' ∧ r.length ≤ s.length + n + 1 := by
  intro n
  induction n with
  | zero =>
    intro s i h hc hn
    obtain ⟨t, i1, h1, e, hc1⟩ := l1Once_ok b i h 40 hc
    by_cases ht : t = true
    · obtain ⟨x, i2, h2, e2, hc2, _⟩ := l1PickInt_ok b i1 h1 [1000001, (-1000001)] (by simp) hc1
      refine ⟨s ++ [x], i2, h2, ?_, hc2, by simp⟩
      rw [ev_shift]
      simp only [spec_l6DrawTaps.l0, e, Option.bind_some]
      rw [ev_neg (by omega), ev_pos ht]
      simp only [e2, Option.bind_some]
      rw [ev_pos (by omega)]
      exact Ev.now _
    · refine ⟨s, i1, h1, ?_, hc1, by omega⟩
      rw [ev_shift]
      simp only [spec_l6DrawTaps.l0, e, Option.bind_some]
      rw [ev_neg (by omega), ev_neg ht]
      exact Ev.now _
  | succ n ih =>
    intro s i h hc hn
    obtain ⟨x, i1, h1, e, hc1, _⟩ := l1Below_ok b i h 41 hc
    obtain ⟨t, i2, h2, e2, hc2⟩ := l1Once_ok b i1 h1 20 hc1
    have e9 : ((n + 1 : Nat) : Int) - 1 = (n : Int) := by omega
    by_cases ht : t = true
    · obtain ⟨y, i3, h3, e3, hc3, _⟩ := l1PickInt_ok b i2 h2 [1000000, (-1000000), 999] (by simp) hc2
      obtain ⟨r, i4, h4, e4, hc4, hr⟩ := ih ((s ++ [wrap64 (x - 20)]).set ((((s ++ [wrap64 (x - 20)]).length : Int) - 1).toNat) y) i3 h3 hc3 (by simp; omega)
      have el : (s ++ [wrap64 (x - 20)]).length = s.length + 1 := by simp
      refine ⟨r, i4, h4, ?_, hc4, by simp at hr; omega⟩
      rw [ev_shift]
      simp only [spec_l6DrawTaps.l0, e, Option.bind_some]
      rw [ev_pos (by omega), ev_pos (by omega)]
      simp only [e2, Option.bind_some]
      rw [ev_pos ht]
      simp only [e3, Option.bind_some]
      rw [w64 (n := ((s ++ [wrap64 (x - 20)]).length : Int) - 1) (by omega) (by omega), ev_pos (by omega), ev_pos (by omega), w64 (n := ((n + 1 : Nat) : Int) - 1) (by omega) (by omega), e9]
      exact e4
    · obtain ⟨r, i4, h4, e4, hc4, hr⟩ := ih (s ++ [wrap64 (x - 20)]) i2 h2 hc2 (by simp; omega)
      refine ⟨r, i4, h4, ?_, hc4, by simp at hr; omega⟩
      rw [ev_shift]
      simp only [spec_l6DrawTaps.l0, e, Option.bind_some]
      rw [ev_pos (by omega), ev_pos (by omega)]
      simp only [e2, Option.bind_some]
      rw [ev_neg ht, w64 (n := ((n + 1 : Nat) : Int) - 1) (by omega) (by omega), e9]
      exact e4
theorem l6DrawTaps_ev (b : List Int) (i h m : Int) (hc : CurOk b i) (h0 : 0 ≤ m) (h1 : m ≤ 1000) :
    ∃ r i' h', Ev (fun k => spec_l6DrawTaps.f k b i h m) (r, i', h') ∧ CurOk b i' ∧ (r.length : Int) ≤ m + 1 := by
  unfold spec_l6DrawTaps.f
  rw [w64 (by omega) (by omega)]
  obtain ⟨x, i1, h1', e, hc1, hx0, hx, _⟩ := l1Below_ok b i h (m + 1) hc
  rw [e]
  simp only [Option.bind_some]
  have := hx (by omega)
  obtain ⟨r, i2, h2, e2, hc2, hr⟩ := l6DrawTapsLoop b x.toNat [] i1 h1' hc1 (by simp; omega)
  rw [Int.toNat_of_nonneg hx0] at e2
  exact ⟨r, i2, h2, e2, hc2, by simp at hr; omega⟩

theorem l1In_eq (a b c : Int) : spec_l1In.f a b c = some (decide (b ≤ a ∧ a ≤ c)) := by
  unfold spec_l1In.f
  by_cases h : a ≥ b
  · rw [if_pos h]
    congr 1
    rw [decide_eq_decide]
    omega
  · rw [if_neg h]
    congr 1
    symm
    rw [decide_eq_false_iff_not]
    omega

theorem specTaps_ev (l : List Int) (hl : l.length ≤ 2000000) : Ev (fun k => spec_l6Taps.f k l) (tapB l) := by
  unfold spec_l6Taps.f
  rw [tapB, inB_range]
  rw [all_iff (fun k i => spec_l6Taps.l0 k l i) (fun i => decide (-1000000 ≤ rd l (i : Int)) && decide (rd l (i : Int) ≤ 1000000)) l.length _ false]
  · split
    · rename_i hp
      rw [hp, Bool.and_true]
      exact Ev.step (f := fun _ => some (decide (l.length ≤ 256))) (fun k => by simp only [spec_l6Taps.l0]; rw [if_neg (by omega)]; congr 1; rw [decide_eq_decide]; omega) (Ev.now _)
    · rename_i hp
      simp only [Bool.not_eq_true] at hp
      rw [hp, Bool.and_false]
  · intro i hi
    by_cases p : -1000000 ≤ rd l (i : Int) ∧ rd l (i : Int) ≤ 1000000
    · rw [if_pos (by simpa using p)]
      rw [ev_shift]
      simp only [spec_l6Taps.l0]
      rw [ev_pos (by omega), ev_pos (by omega), l1In_eq]
      simp only [Option.bind_some]
      rw [ev_pos (by simpa using p), w64 (by omega) (by omega)]
    · rw [if_neg (by simpa using p)]
      rw [ev_shift]
      simp only [spec_l6Taps.l0]
      rw [ev_pos (by omega), ev_pos (by omega), l1In_eq]
      simp only [Option.bind_some]
      rw [ev_neg (by simpa using p), ev_some_iff]

theorem within_ev (l : List Int) (m : Int) (hl : l.length ≤ 2000000) (h0 : 0 ≤ m) (h1 : m ≤ 1000000000000) : Ev (fun k => impl_within.f k l m) (inB m l) := by
  unfold impl_within.f
  rw [inB_range]
  rw [all_iff (fun k i => impl_within.l0 k m l (l.length : Int) i) (fun i => decide (-m ≤ rd l (i : Int)) && decide (rd l (i : Int) ≤ m)) l.length _ false]
  · split
    · rename_i hp
      rw [hp]
      exact Ev.step (fun k => by simp only [impl_within.l0]; rw [if_neg (by omega)]) (Ev.now _)
    · rename_i hp
      simpa using hp
  · intro i hi
    by_cases p : -m ≤ rd l (i : Int) ∧ rd l (i : Int) ≤ m
    · rw [if_pos (by simpa using p)]
      rw [ev_shift]
      simp only [impl_within.l0]
      rw [ev_pos (by omega), ev_pos (by omega), ev_pos (by omega), w64 (n := -m) (by omega) (by omega), ev_neg (by omega), ev_neg (by omega), w64 (by omega) (by omega)]
    · rw [if_neg (by simpa using p)]
      rw [ev_shift]
      simp only [impl_within.l0]
      rw [ev_pos (by omega), ev_pos (by omega), ev_pos (by omega), w64 (n := -m) (by omega) (by omega)]
      by_cases q : rd l (i : Int) < -m
      · rw [ev_pos q, ev_some_iff]
      · rw [ev_neg q, ev_pos (by omega), ev_some_iff]

theorem implTaps_ev (l : List Int) (hl : l.length ≤ 2000000) : Ev (fun k => impl_taps.f k l) (tapB l) := by
  unfold impl_taps.f
  by_cases h : (l.length : Int) ≤ 256
  · rw [ev_pos h]
    rw [ev_bind (within_ev l 1000000 hl (by omega) (by omega)), ev_some_iff, tapB, decide_eq_true (by omega : l.length ≤ 256), Bool.true_and]
  · rw [ev_neg h]
    rw [ev_some_iff, tapB, decide_eq_false (by omega : ¬ l.length ≤ 256), Bool.false_and]

/-! ### the convolution's numbers -/
def convAt (t l : List Int) (i : Nat) : Nat → Int
  | 0 => 0
  | n + 1 => convAt t l i n + rd t (n : Int) * (if n ≤ i then rd l ((i - n : Nat) : Int) else 0)
theorem convAt_succ (t l : List Int) (i n : Nat) : convAt t l i (n + 1) = convAt t l i n + rd t (n : Int) * (if n ≤ i then rd l ((i - n : Nat) : Int) else 0) := rfl

/-! ### Convolve -/
def convV (a b : List Int) : List Int := tab (a.length + b.length - 1) fun m => wrap64 (convAt a b m a.length)
/-- One round: x times the list b, laid upon s from place i on, the first j of b. -/
def addAt (b : List Int) (i : Nat) (x : Int) (s : Nat → Int) (j : Nat) (m : Nat) : Int := s m + (if i ≤ m ∧ m - i < j then x * rd b ((m - i : Nat) : Int) else 0)
theorem addAt_zero (b : List Int) (i : Nat) (x : Int) (s : Nat → Int) (m : Nat) : addAt b i x s 0 m = s m := by simp [addAt]
theorem addAt_succ (b : List Int) (i : Nat) (x : Int) (s : Nat → Int) (j m : Nat) : addAt b i x s (j + 1) m = addAt b i x s j m + (if m = i + j then x * rd b (j : Int) else 0) := by
  unfold addAt
  by_cases h : m = i + j
  · subst h
    rw [if_pos (by omega), if_neg (by omega), if_pos rfl]
    have e : i + j - i = j := by omega
    rw [e]
    omega
  · rw [if_neg h]
    by_cases c : i ≤ m ∧ m - i < j
    · rw [if_pos (by omega), if_pos c]
      omega
    · rw [if_neg (by omega), if_neg c]
      omega
theorem addAt_all (a b : List Int) (i m : Nat) : addAt b i (rd a (i : Int)) (fun m => convAt a b m i) b.length m = convAt a b m (i + 1) := by
  unfold addAt
  rw [convAt_succ]
  congr 1
  by_cases c : i ≤ m
  · rw [if_pos c]
    by_cases d : m - i < b.length
    · rw [if_pos ⟨c, d⟩]
    · rw [if_neg (by omega), rd_out (l := b) (i := ((m - i : Nat) : Int)) (by omega), Int.mul_zero]
  · rw [if_neg (by omega), if_neg c, Int.mul_zero]
theorem addAt_set {n i j : Nat} (b : List Int) (x : Int) (s : Nat → Int) (h : i + j < n) :
    (tab n fun m => wrap64 (addAt b i x s j m)).set (i + j) (wrap64 (wrap64 (addAt b i x s j (i + j)) + wrap64 (x * rd b (j : Int)))) = tab n fun m => wrap64 (addAt b i x s (j + 1) m) := by
  rw [set_tab _ _ h]
  refine tab_congr fun m _ => ?_
  rw [addAt_succ]
  by_cases c : m = i + j
  · subst c
    rw [if_pos rfl, if_pos rfl, wrap_add_l, wrap_add_r]
  · rw [if_neg c, if_neg c, Int.add_zero]

theorem implConv0_ev (a b : List Int) (ha : a.length ≤ 2000) (hb : b.length ≤ 2000) (ha0 : 0 < a.length) (hb0 : 0 < b.length) :
    Ev (fun k => impl_convolve.l0 k b (List.replicate (a.length + b.length - 1) 0) a (a.length : Int) 0) (convV a b) := by
  have h := for_iff (fun k s i => impl_convolve.l0 k b s a (a.length : Int) i) (fun i _ => tab (a.length + b.length - 1) fun m => wrap64 (convAt a b m (i + 1))) (fun i s => s = tab (a.length + b.length - 1) fun m => wrap64 (convAt a b m i)) a.length (convV a b) ?_ (List.replicate (a.length + b.length - 1) 0) ?_
  · rw [h.2, h.1, ev_shift]
    simp only [impl_convolve.l0]
    rw [ev_neg (by omega)]
    exact Ev.now _
  · intro i s hi hs
    refine ⟨rfl, ?_⟩
    rw [ev_shift]
    simp only [impl_convolve.l0]
    rw [ev_pos (by omega), ev_pos (by omega), ev_pos (by omega)]
    have g := for_iff (fun k s j => impl_convolve.l1 k b s (i : Int) (rd a (i : Int)) a (a.length : Int) (i : Int) b (b.length : Int) j) (fun j _ => tab (a.length + b.length - 1) fun m => wrap64 (addAt b i (rd a (i : Int)) (fun m => convAt a b m i) (j + 1) m)) (fun j s => s = tab (a.length + b.length - 1) fun m => wrap64 (addAt b i (rd a (i : Int)) (fun m => convAt a b m i) j m)) b.length (convV a b) ?_ s ?_
    · rw [g.2, g.1, ev_shift]
      simp only [impl_convolve.l1, addAt_all]
      rw [ev_neg (by omega), w64 (by omega) (by omega)]
    · intro j s hj hs
      refine ⟨rfl, ?_⟩
      subst hs
      rw [ev_shift]
      simp only [impl_convolve.l1, tab_length]
      rw [w64 (n := (i : Int) + (j : Int)) (by omega) (by omega), w64 (n := (j : Int) + 1) (by omega) (by omega)]
      have e : (i : Int) + (j : Int) = ((i + j : Nat) : Int) := by omega
      rw [e, ev_pos (by omega), ev_pos (by omega), ev_pos (by omega), ev_pos (by omega), ev_pos (by omega), rd_tab' (by omega), Int.toNat_natCast, addAt_set b _ _ (by omega)]
    · rw [hs]
      refine tab_congr fun m _ => ?_
      rw [addAt_zero]
  · refine (eq_tab (by simp) fun i hi => ?_)
    rw [rd_replicate]
    simp [convAt, wrap_zero]
theorem implConv_ev (a b : List Int) (ha : a.length ≤ 2000) (hb : b.length ≤ 2000) : Ev (fun k => impl_convolve.f k a b) (if a.length = 0 ∨ b.length = 0 then [] else convV a b) := by
  unfold impl_convolve.f
  by_cases h1 : (a.length : Int) = 0
  · rw [ev_pos h1, if_pos (by omega), ev_shift]
    simp only [impl_convolve.j0, if_true]
    exact Ev.now _
  · rw [ev_neg h1]
    by_cases h2 : (b.length : Int) = 0
    · have e : ((b.length : Int) == 0) = true := by simpa using h2
      rw [e, if_pos (by omega), ev_shift]
      simp only [impl_convolve.j0, if_true]
      exact Ev.now _
    · have e : ((b.length : Int) == 0) = false := by simpa using h2
      rw [e, if_neg (by omega), ev_shift]
      simp only [impl_convolve.j0, Bool.false_eq_true, if_false]
      rw [w64 (n := (a.length : Int) + (b.length : Int)) (by omega) (by omega), w64 (by omega) (by omega)]
      have e2 : (a.length : Int) + (b.length : Int) - 1 = ((a.length + b.length - 1 : Nat) : Int) := by omega
      rw [e2, Int.toNat_natCast, ev_pos (by omega), ev_pos (by omega)]
      exact implConv0_ev a b ha hb (by omega) (by omega)
def convR (a b : List Int) : List Int × Bool := if (tapB a && tapB b) = true then (if a.length = 0 ∨ b.length = 0 then [] else convV a b, true) else ([], false)
theorem convR_length (a b : List Int) : (convR a b).1.length ≤ 2000 := by
  unfold convR
  split
  · rename_i h
    simp only [Bool.and_eq_true] at h
    have h1 := (tapB_iff.1 h.1).1
    have h2 := (tapB_iff.1 h.2).1
    show (if a.length = 0 ∨ b.length = 0 then [] else convV a b).length ≤ 2000
    split
    · simp
    · simp [convV]; omega
  · simp

theorem specConv0_ev (a b : List Int) (ha : a.length ≤ 2000) (hb : b.length ≤ 2000) (ha0 : 0 < a.length) (hb0 : 0 < b.length) :
    Ev (fun k => spec_Convolve.l0 k a b (List.replicate (a.length + b.length - 1) 0) 0) (convV a b, true) := by
  have h := for_iff (fun k s i => spec_Convolve.l0 k a b s i) (fun i _ => tab (a.length + b.length - 1) fun m => wrap64 (convAt a b m (i + 1))) (fun i s => s = tab (a.length + b.length - 1) fun m => wrap64 (convAt a b m i)) a.length (convV a b, true) ?_ (List.replicate (a.length + b.length - 1) 0) ?_
  · rw [h.2, h.1, ev_shift]
    simp only [spec_Convolve.l0]
    rw [ev_neg (by omega)]
    exact Ev.now _
  · intro i s hi hs
    refine ⟨rfl, ?_⟩
    rw [ev_shift]
    simp only [spec_Convolve.l0]
    rw [ev_pos (by omega)]
    have g := for_iff (fun k s j => spec_Convolve.l1 k a b s (i : Int) j) (fun j _ => tab (a.length + b.length - 1) fun m => wrap64 (addAt b i (rd a (i : Int)) (fun m => convAt a b m i) (j + 1) m)) (fun j s => s = tab (a.length + b.length - 1) fun m => wrap64 (addAt b i (rd a (i : Int)) (fun m => convAt a b m i) j m)) b.length (convV a b, true) ?_ s ?_
    · rw [g.2, g.1, ev_shift]
      simp only [spec_Convolve.l1, addAt_all]
      rw [ev_neg (by omega), w64 (by omega) (by omega)]
    · intro j s hj hs
      refine ⟨rfl, ?_⟩
      subst hs
      rw [ev_shift]
      simp only [spec_Convolve.l1, tab_length]
      rw [w64 (n := (i : Int) + (j : Int)) (by omega) (by omega), w64 (n := (j : Int) + 1) (by omega) (by omega)]
      have e : (i : Int) + (j : Int) = ((i + j : Nat) : Int) := by omega
      rw [e, ev_pos (by omega), ev_pos (by omega), ev_pos (by omega), ev_pos (by omega), ev_pos (by omega), ev_pos (by omega), rd_tab' (by omega), Int.toNat_natCast, addAt_set b _ _ (by omega)]
    · rw [hs]
      refine tab_congr fun m _ => ?_
      rw [addAt_zero]
  · refine (eq_tab (by simp) fun i hi => ?_)
    rw [rd_replicate]
    simp [convAt, wrap_zero]
theorem specConvolve_ev (a b : List Int) (ha : a.length ≤ 2000000) (hb : b.length ≤ 2000000) : Ev (fun k => spec_Convolve.f k a b) (convR a b) := by
  unfold spec_Convolve.f convR
  have no : ¬ (tapB a && tapB b) = true → Ev (fun k => spec_Convolve.j0 k a b true) (convR a b) := by
    intro h
    rw [ev_shift, convR, if_neg h]
    simp only [spec_Convolve.j0, if_true]
    exact Ev.now _
  rw [ev_bind (specTaps_ev a ha)]
  by_cases h1 : tapB a = true
  · rw [ev_pos h1, ev_bind (specTaps_ev b hb)]
    by_cases h2 : tapB b = true
    · have h1' := (tapB_iff.1 h1).1
      have h2' := (tapB_iff.1 h2).1
      rw [h2, if_pos (by simp [h1]), ev_shift]
      simp only [spec_Convolve.j0, Bool.not_true, Bool.false_eq_true, if_false]
      by_cases h3 : (a.length : Int) = 0
      · rw [ev_pos h3, if_pos (by omega), ev_shift]
        simp only [spec_Convolve.j1, if_true]
        exact Ev.now _
      · rw [ev_neg h3]
        by_cases h4 : (b.length : Int) = 0
        · have e : ((b.length : Int) == 0) = true := by simpa using h4
          rw [e, if_pos (by omega), ev_shift]
          simp only [spec_Convolve.j1, if_true]
          exact Ev.now _
        · have e : ((b.length : Int) == 0) = false := by simpa using h4
          rw [e, if_neg (by omega), ev_shift]
          simp only [spec_Convolve.j1, Bool.false_eq_true, if_false]
          rw [w64 (n := (a.length : Int) + (b.length : Int)) (by omega) (by omega), w64 (by omega) (by omega)]
          have e2 : (a.length : Int) + (b.length : Int) - 1 = ((a.length + b.length - 1 : Nat) : Int) := by omega
          rw [e2, Int.toNat_natCast, ev_pos (by omega), ev_pos (by omega)]
          exact specConv0_ev a b (by omega) (by omega) (by omega) (by omega)
    · have e : tapB b = false := by simpa using h2
      rw [e]
      have := no (by simp [h2])
      simpa only [convR, e, Bool.and_false, Bool.not_false] using this
  · rw [ev_neg h1]
    exact no (by simp [h1])

open Classical in
noncomputable def blocksR (a b : List Int) (n : Int) : List Int × Bool := if 1 ≤ n ∧ n ≤ 256 then convR a b else ([], false)
theorem blocksR_length (a b : List Int) (n : Int) : (blocksR a b n).1.length ≤ 2000 := by
  unfold blocksR
  split
  · exact convR_length a b
  · simp
theorem specBlocks_ev (a b : List Int) (n : Int) (ha : a.length ≤ 2000000) (hb : b.length ≤ 2000000) : Ev (fun k => spec_Blocks.f k a b n) (blocksR a b n) := by
  unfold spec_Blocks.f blocksR
  simp only [l1In_eq, Option.bind_some]
  by_cases h : 1 ≤ n ∧ n ≤ 256
  · rw [ev_pos (by simpa using h), if_pos h, ev_bind (specConvolve_ev a b ha hb)]
    exact Ev.now _
  · rw [ev_neg (by simpa using h), if_neg h]
    exact Ev.now _
theorem implBlocks_ev (a b : List Int) (n : Int) (ha : a.length ≤ 2000000) (hb : b.length ≤ 2000000) : Ev (fun k => impl_Blocks.f k a b n) (blocksR a b n) := by
  unfold impl_Blocks.f blocksR convR
  rw [ev_bind (implTaps_ev a ha)]
  by_cases h1 : tapB a = true
  · rw [ev_pos h1, ev_bind (implTaps_ev b hb)]
    by_cases h2 : tapB b = true
    · have h1' := (tapB_iff.1 h1).1
      have h2' := (tapB_iff.1 h2).1
      rw [ev_pos h2]
      by_cases h3 : n < 1
      · rw [ev_pos h3, if_neg (by omega)]
        exact Ev.now _
      · rw [ev_neg h3]
        by_cases h4 : n > 256
        · rw [ev_pos h4, if_neg (by omega)]
          exact Ev.now _
        · rw [ev_neg h4, if_pos (by omega), if_pos (by simp [h1, h2]), ev_bind (implConv_ev a b (by omega) (by omega))]
          exact Ev.now _
    · rw [ev_neg h2, ev_some_iff]
      simp [h2]
  · rw [ev_neg h1, ev_some_iff]
    simp [h1]


theorem implConvolve_ev (a b : List Int) (ha : a.length ≤ 2000000) (hb : b.length ≤ 2000000) : Ev (fun k => impl_Convolve.f k a b) (convR a b) := by
  unfold impl_Convolve.f convR
  rw [ev_bind (implTaps_ev a ha)]
  by_cases h1 : tapB a = true
  · rw [ev_pos h1, ev_bind (implTaps_ev b hb)]
    by_cases h2 : tapB b = true
    · have h1' := (tapB_iff.1 h1).1
      have h2' := (tapB_iff.1 h2).1
      rw [ev_pos h2, if_pos (by simp [h1, h2]), ev_bind (implConv_ev a b (by omega) (by omega))]
      exact Ev.now _
    · rw [ev_neg h2, if_neg (by simp [h2])]
      exact Ev.now _
  · rw [ev_neg h1, if_neg (by simp [h1])]
    exact Ev.now _

theorem sumI_head (f : Nat → Int) (n : Nat) : sumI f (n + 1) = f 0 + sumI (fun j => f (j + 1)) n := by
  induction n with
  | zero => simp [sumI]
  | succ n ih => rw [sumI_succ, ih, sumI_succ, Int.add_assoc]
theorem sumI_turn : ∀ (n : Nat) (f : Nat → Int), sumI f (n + 1) = sumI (fun j => f (n - j)) (n + 1) := by
  intro n
  induction n with
  | zero => intro f; rfl
  | succ n ih =>
    intro f
    rw [sumI_head, ih fun j => f (j + 1), sumI_succ (fun j => f (n + 1 - j)) (n + 1)]
    have e : sumI (fun j => f (n - j + 1)) (n + 1) = sumI (fun j => f (n + 1 - j)) (n + 1) := sumI_congr fun j hj => by rw [show n - j + 1 = n + 1 - j by omega]
    rw [e, Nat.sub_self, Int.add_comm]
theorem convAt_sum (t l : List Int) (m : Nat) : ∀ n, convAt t l m n = sumI (fun j => rd t (j : Int) * (if j ≤ m then rd l ((m - j : Nat) : Int) else 0)) n := by
  intro n
  induction n with
  | zero => rfl
  | succ n ih => rw [convAt_succ, sumI_succ, ih]
theorem sumI_more (f : Nat → Int) (n : Nat) : ∀ d, (∀ j, n ≤ j → j < n + d → f j = 0) → sumI f (n + d) = sumI f n := by
  intro d
  induction d with
  | zero => intro _; rfl
  | succ d ih =>
    intro h
    rw [← Nat.add_assoc, sumI_succ, ih fun j h0 h1 => h j h0 (by omega), h (n + d) (by omega) (by omega), Int.add_zero]
theorem convAt_full (t l : List Int) (m : Nat) : convAt t l m t.length = sumI (fun j => rd t (j : Int) * rd l ((m - j : Nat) : Int)) (m + 1) := by
  rw [convAt_sum]
  have e1 : sumI (fun j => rd t (j : Int) * (if j ≤ m then rd l ((m - j : Nat) : Int) else 0)) t.length = sumI (fun j => rd t (j : Int) * (if j ≤ m then rd l ((m - j : Nat) : Int) else 0)) (m + 1) := by
    by_cases c : t.length ≤ m + 1
    · have := sumI_more (fun j => rd t (j : Int) * (if j ≤ m then rd l ((m - j : Nat) : Int) else 0)) t.length (m + 1 - t.length) fun j h0 _ => by rw [rd_out (l := t) (i := (j : Int)) (by omega), Int.zero_mul]
      rw [show t.length + (m + 1 - t.length) = m + 1 by omega] at this
      exact this.symm
    · have := sumI_more (fun j => rd t (j : Int) * (if j ≤ m then rd l ((m - j : Nat) : Int) else 0)) (m + 1) (t.length - (m + 1)) fun j h0 _ => by rw [if_neg (by omega), Int.mul_zero]
      rw [show m + 1 + (t.length - (m + 1)) = t.length by omega] at this
      exact this
  rw [e1]
  exact sumI_congr fun j hj => by rw [if_pos (by omega)]
theorem convAt_comm (a b : List Int) (m : Nat) : convAt a b m a.length = convAt b a m b.length := by
  rw [convAt_full, convAt_full, sumI_turn]
  refine sumI_congr fun j hj => ?_
  rw [show m - (m - j) = j by omega, Int.mul_comm]
theorem convV_comm (a b : List Int) : convV a b = convV b a := by
  unfold convV
  rw [Nat.add_comm b.length]
  exact tab_congr fun m _ => by rw [convAt_comm]
theorem convR_comm (a b : List Int) : convR b a = convR a b := by
  unfold convR
  rw [convV_comm b a, Bool.and_comm]
  by_cases h : (tapB a && tapB b) = true
  · rw [if_pos h, if_pos h]
    congr 1
    by_cases c : a.length = 0 ∨ b.length = 0
    · rw [if_pos c, if_pos c.symm]
    · rw [if_neg c, if_neg fun k => c k.symm]
  · rw [if_neg h, if_neg h]
theorem drawConvolve_ev (b : List Int) (hb : b.length ≤ 2000000) : ∃ l r, Ev (fun k => spec_DrawConvolve.f k b) (l, r) ∧ l.length ≤ 1001 ∧ r.length ≤ 1001 := by
  unfold spec_DrawConvolve.f
  obtain ⟨h, e1⟩ := l1New_ev b hb
  obtain ⟨s, e2, hs0, hs1⟩ := l1Size_eq b 20 hb (by omega)
  obtain ⟨l, i1, h1, e3, hc1, hl⟩ := l6DrawTaps_ev b 0 h s ⟨by omega, by omega, hb⟩ (by omega) (by omega)
  obtain ⟨r, i2, h2, e4, hc2, hr⟩ := l6DrawTaps_ev b i1 h1 s hc1 (by omega) (by omega)
  obtain ⟨t, i3, h3, e5, hc3⟩ := l1Once_ok b i2 h2 80 hc2
  by_cases ht : t = true
  · obtain ⟨x, i4, h4, e6, hc4, hx0, hx, _⟩ := l1Below_ok b i3 h3 2 hc3
    have := hx (by omega)
    refine ⟨List.replicate (256 + x).toNat 0, r, ?_, by simp; omega, by omega⟩
    rw [ev_bind e1]
    dsimp only
    rw [e2, ev_sbind, ev_bind e3]
    dsimp only
    rw [ev_sbind, ev_bind e4]
    dsimp only
    rw [e5, ev_sbind, ev_pos ht]
    dsimp only
    rw [e6, ev_sbind]
    dsimp only
    rw [w64 (n := 256 + x) (by omega) (by omega), ev_pos (by omega), ev_pos (by omega)]
    exact Ev.now _
  · refine ⟨l, r, ?_, by omega, by omega⟩
    rw [ev_bind e1]
    dsimp only
    rw [e2, ev_sbind, ev_bind e3]
    dsimp only
    rw [ev_sbind, ev_bind e4]
    dsimp only
    rw [e5, ev_sbind, ev_neg ht]
    exact Ev.now _
theorem drawBlocks_ev (b : List Int) (hb : b.length ≤ 1900000) : ∃ l r n, Ev (fun k => spec_DrawBlocks.f k b) (l, r, n) ∧ l.length ≤ 1001 ∧ r.length ≤ 1001 := by
  unfold spec_DrawBlocks.f
  obtain ⟨l, r, e1, hl, hr⟩ := drawConvolve_ev b (by omega)
  obtain ⟨h, e2⟩ := l1New_ev ([] ++ b ++ [9]) (by simp; omega)
  obtain ⟨x, i1, h1, e3, hc1, _⟩ := l1PickInt_ok ([] ++ b ++ [9]) 0 h [1, 2, 3, 5, 8, 16, 256, 0, 257] (by simp) ⟨by omega, by simp; omega, by simp; omega⟩
  refine ⟨l, r, x, ?_, hl, hr⟩
  rw [ev_bind e1, ev_sbind, ev_pos (by simp; omega), ev_sbind, ev_pos (by simp; omega), ev_bind e2]
  dsimp only
  rw [e3, ev_sbind]
  exact Ev.now _
theorem conv_small : convR [1, 1] [1, 1] = ([1, 2, 1], true) := by
  unfold convR
  rw [if_pos (by decide +kernel), if_neg (by decide)]
  decide +kernel
theorem lastly (b l r c : List Int) (n : Int) : Ev (fun k => laws_FnBlocksAlike.l0 k b l r n c 3) true := by
  rw [ev_shift]
  simp only [laws_FnBlocksAlike.l0]
  rw [ev_neg (by omega), ev_bind (implConvolve_ev [1, 1] [1, 1] (by simp) (by simp)), conv_small]
  dsimp only
  rw [ev_pos rfl, ev_bind (sameInts_ev [1, 2, 1] [1, 2, 1] (by simp)), decide_eq_true rfl]
  exact Ev.now _
theorem turn (b l r : List Int) (hb : b.length ≤ 2000000) (hw : ∀ x ∈ b, (Lit.int .u8 x).wf = true) (hl : l.length ≤ 2000000) (hr : r.length ≤ 2000000) (i : Nat) (hi : i < 3)
    (next : ∀ n : Int, Ev (fun k => laws_FnBlocksAlike.l0 k b l r n (convR l r).1 ((i + 1 : Nat) : Int)) true) (n : Int) : Ev (fun k => laws_FnBlocksAlike.l0 k b l r n (convR l r).1 (i : Int)) true := by
  obtain ⟨v, ev, hv0, hv1⟩ := at_ok b (i : Int) hb hw (by omega) (by omega)
  have hlen := blocksR_length l r n
  have e1 : (i : Int) + 1 = ((i + 1 : Nat) : Int) := by omega
  rw [ev_shift]
  simp only [laws_FnBlocksAlike.l0]
  rw [ev_pos (by omega), ev_bind (implBlocks_ev l r n hl hr), ev_bind (specBlocks_ev l r n hl hr), ev_neg (by simp), w64 (n := (i : Int) + 1) (by omega) (by omega), e1]
  by_cases c : (blocksR l r n).2 = true
  · have e : blocksR l r n = convR l r := by
      unfold blocksR at c ⊢
      split
      · rfl
      · rename_i h
        rw [if_neg h] at c
        exact absurd c (by simp)
    rw [ev_pos c, ev_bind (sameInts_ev _ _ (by omega)), e, decide_eq_true rfl, ev_pos rfl, ev, ev_sbind]
    exact next _
  · rw [ev_neg c, ev, ev_sbind]
    exact next _
theorem FnBlocksAlike : laws_FnBlocksAlike.Pure := by
  intro l0 _ _ hw
  refine Ev.rounds (g := fun k => laws_FnBlocksAlike.f k l0) ?_
  simp only [laws_FnBlocksAlike.f]
  rw [big_eq, ev_sbind]
  by_cases hlen : (l0.length : Int) > 1048576
  · rw [ev_pos (by simpa using hlen)]
    exact Ev.now _
  rw [ev_neg (by simpa using hlen)]
  obtain ⟨l, r, n, hd, hl, hr⟩ := drawBlocks_ev l0 (by omega)
  rw [ev_bind hd]
  dsimp only
  have hlen := convR_length l r
  rw [ev_bind (implConvolve_ev l r (by omega) (by omega)), ev_bind (implConvolve_ev r l (by omega) (by omega)), ev_bind (specConvolve_ev l r (by omega) (by omega)), convR_comm l r, ev_neg (by simp), ev_neg (by simp), ev_bind (sameInts_ev _ _ (by omega)), decide_eq_true rfl, ev_shift]
  simp only [laws_FnBlocksAlike.j0, Bool.not_true, Bool.false_eq_true, if_false]
  have T := turn l0 l r (by omega) hw (by omega) (by omega)
  exact T 0 (by omega) (T 1 (by omega) (T 2 (by omega) fun n => lastly l0 l r _ n)) n

end Go.Proofs.Ytilcnbommpncgaa.Pure
