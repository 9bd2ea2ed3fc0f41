/- The pure part of FnDftBack: a row comes back from its transform; the first number of that is the sum of all. No conditions. -/
import Derived.Test.YtilcnbommpncgaaQFnDftBackx6
import Derived.Test.YtilcnbommpncgaaBase
import Derived.Test.YtilcnbommpncgaaMod
namespace Go.Proofs.Ytilcnbommpncgaa.Pure
open Go.RowKit Go.Proofs.Ytilcnbommpncgaa.QFnDftBack Go.Proofs.YtilcnbommpncgaaW.PrintWords Go.Proofs.YtilcnbommpncgaaW.PrintLast
open Go.Proofs.Ytilcnbommpncgaa.Base Go.Proofs.Ytilcnbommpncgaa.Mod
set_option linter.unusedVariables false
set_option linter.unusedSimpArgs false
/-! ### the cursor of a draw -/
def CurOk (b : List Int) (i : Int) : Prop := 0 ≤ i ∧ i ≤ (b.length : Int) ∧ b.length ≤ 2000000
theorem l1New_ev (b : List Int) (hb : b.length ≤ 2000000) : ∃ h, Ev (fun k => spec_l1New.f k b) (b, 0, h) := by
  unfold spec_l1New.f
  refine ⟨iter (fun i h => Go.bits .and .i64 (wrap64 ((wrap64 ((wrap64 (h * 131)) + (wrap64 (rd b (i : Int))))) + 7)) 1073741823) (min b.length 4000) (wrap64 (71933 + (b.length : Int))), ?_⟩
  rw [(for_iff (fun k h i => spec_l1New.l0 k b h i) (fun i h => Go.bits .and .i64 (wrap64 ((wrap64 ((wrap64 (h * 131)) + (wrap64 (rd b (i : Int))))) + 7)) 1073741823) (fun _ _ => True) (min b.length 4000) _ ?_ _ trivial).2]
  · rw [ev_shift]
    simp only [spec_l1New.l0]
    by_cases h : ((min b.length 4000 : Nat) : Int) < (b.length : Int)
    · rw [ev_pos h, ev_neg (by omega)]
      exact Ev.now _
    · rw [ev_neg h]
      exact Ev.now _
  · intro i s hi _
    refine ⟨trivial, ?_⟩
    rw [ev_shift]
    simp only [spec_l1New.l0]
    rw [ev_pos (by omega), ev_pos (by omega), ev_pos (by omega), w64 (n := (i : Int) + 1) (by omega) (by omega)]
theorem l1Byte_ok (b : List Int) (i h : Int) (hc : CurOk b i) : ∃ x i' h', spec_l1Byte.f b i h = some (x, i', h') ∧ CurOk b i' ∧ 0 ≤ x ∧ x ≤ 255 := by
  obtain ⟨h0, h1, h2⟩ := hc
  unfold spec_l1Byte.f
  by_cases c : i < (b.length : Int)
  · rw [if_pos c, if_pos h0]
    have := band_range
    refine ⟨_, _, _, rfl, ⟨?_, ?_, h2⟩, (band_range _ 255 (by omega) (by omega)).1, (band_range _ 255 (by omega) (by omega)).2⟩
    · rw [w64 (by omega) (by omega)]; omega
    · rw [w64 (by omega) (by omega)]; omega
  · rw [if_neg c]
    exact ⟨_, _, _, rfl, ⟨h0, h1, h2⟩, (band_range _ 255 (by omega) (by omega)).1, (band_range _ 255 (by omega) (by omega)).2⟩
theorem l1Below_ok (b : List Int) (i h n : Int) (hc : CurOk b i) : ∃ x i' h', spec_l1Below.f b i h n = some (x, i', h') ∧ CurOk b i' ∧ 0 ≤ x ∧ (0 < n → x < n) ∧ (n ≤ 0 → x = 0) := by
  unfold spec_l1Below.f
  by_cases c : n ≤ 0
  · rw [if_pos c]
    exact ⟨_, _, _, rfl, hc, by omega, by omega, fun _ => rfl⟩
  · rw [if_neg c]
    by_cases d : n ≤ 256
    · rw [if_pos d]
      obtain ⟨x, i1, h1, e, hc1, hx0, hx1⟩ := l1Byte_ok b i h hc
      rw [e]
      simp only [Option.bind_some]
      rw [if_neg (by omega)]
      refine ⟨_, _, _, rfl, hc1, ?_, fun _ => ?_, fun h => absurd h c⟩
      · exact Int.tmod_nonneg _ hx0
      · exact Int.tmod_lt_of_pos _ (by omega)
    · rw [if_neg d]
      obtain ⟨x, i1, h1, e, hc1, hx0, hx1⟩ := l1Byte_ok b i h hc
      rw [e]
      simp only [Option.bind_some]
      obtain ⟨y, i2, h2, e, hc2, hy0, hy1⟩ := l1Byte_ok b i1 h1 hc1
      rw [e]
      simp only [Option.bind_some]
      obtain ⟨z, i3, h3, e, hc3, hz0, hz1⟩ := l1Byte_ok b i2 h2 hc2
      rw [e]
      simp only [Option.bind_some]
      obtain ⟨w, i4, h4, e, hc4, hw0, hw1⟩ := l1Byte_ok b i3 h3 hc3
      rw [e]
      simp only [Option.bind_some]
      rw [if_neg (by omega)]
      refine ⟨_, _, _, rfl, hc4, ?_, fun _ => ?_, fun h => absurd h c⟩
      · refine Int.tmod_nonneg _ ?_
        rw [w64 (n := x * 16777216) (by omega) (by omega), w64 (n := y * 65536) (by omega) (by omega), w64 (n := z * 256) (by omega) (by omega), w64 (n := x * 16777216 + y * 65536) (by omega) (by omega), w64 (n := x * 16777216 + y * 65536 + z * 256) (by omega) (by omega), w64 (by omega) (by omega)]
        omega
      · exact Int.tmod_lt_of_pos _ (by omega)
theorem l1Once_ok (b : List Int) (i h n : Int) (hc : CurOk b i) : ∃ t i' h', spec_l1Once.f b i h n = some (t, i', h') ∧ CurOk b i' := by
  unfold spec_l1Once.f
  obtain ⟨x, i1, h1, e, hc1, _⟩ := l1Below_ok b i h n hc
  rw [e]
  exact ⟨_, _, _, rfl, hc1⟩

theorem l1PickInt_ok (b : List Int) (i h : Int) (l : List Int) (hl : 0 < l.length) (hc : CurOk b i) : ∃ x i' h', spec_l1PickInt.f b i h l = some (x, i', h') ∧ CurOk b i' ∧ x ∈ l := by
  unfold spec_l1PickInt.f
  obtain ⟨x, i1, h1, e, hc1, h0, hx, _⟩ := l1Below_ok b i h (l.length : Int) hc
  rw [e]
  simp only [Option.bind_some]
  have := hx (by omega)
  rw [if_pos h0, if_pos this]
  exact ⟨_, _, _, rfl, hc1, rd_mem h0 this⟩

theorem drawPrime_ok (b : List Int) (i h : Int) (hc : CurOk b i) : ∃ x i' h', spec_l6DrawPrime.f b i h = some (x, i', h') ∧ CurOk b i' ∧ -1 ≤ x ∧ x ≤ 998244354 := by
  unfold spec_l6DrawPrime.f
  obtain ⟨t, i1, h1, e, hc1⟩ := l1Once_ok b i h 25 hc
  rw [e]
  simp only [Option.bind_some]
  by_cases ht : t = true
  · rw [if_pos ht]
    obtain ⟨x, i2, h2, e2, hc2, hx⟩ := l1PickInt_ok b i1 h1 [0, 7, (-1), 998244354] (by simp) hc1
    rw [e2]
    simp only [List.mem_cons, List.not_mem_nil, or_false] at hx
    exact ⟨x, i2, h2, rfl, hc2, by omega, by omega⟩
  · rw [if_neg ht]
    obtain ⟨x, i2, h2, e2, hc2, hx⟩ := l1PickInt_ok b i1 h1 [998244353, 167772161, 469762049] (by simp) hc1
    rw [e2]
    simp only [List.mem_cons, List.not_mem_nil, or_false] at hx
    exact ⟨x, i2, h2, rfl, hc2, by omega, by omega⟩
theorem drawResidue_ok (b : List Int) (i h p : Int) (hc : CurOk b i) (h0 : -1 ≤ p) (h1 : p ≤ 998244354) : ∃ x i' h', spec_l6DrawResidue.f b i h p = some (x, i', h') ∧ CurOk b i' ∧ -5 ≤ x ∧ x ≤ 998244354 := by
  unfold spec_l6DrawResidue.f
  obtain ⟨t, i1, h1', e, hc1, _⟩ := l1Below_ok b i h 5 hc
  rw [e]
  simp only [Option.bind_some]
  by_cases c : t = 0
  · rw [if_pos c]
    obtain ⟨x, i2, h2, e2, hc2, hx0, hx, _⟩ := l1Below_ok b i1 h1' 5 hc1
    have := hx (by omega)
    rw [e2]
    exact ⟨x, i2, h2, rfl, hc2, by omega, by omega⟩
  · rw [if_neg c]
    by_cases d : t = 1
    · rw [if_pos d]
      obtain ⟨x, i2, h2, e2, hc2, hx0, hx, _⟩ := l1Below_ok b i1 h1' 3 hc1
      have := hx (by omega)
      rw [e2]
      simp only [Option.bind_some]
      rw [w64 (n := p - 1) (by omega) (by omega), w64 (by omega) (by omega)]
      exact ⟨_, i2, h2, rfl, hc2, by omega, by omega⟩
    · rw [if_neg d]
      obtain ⟨x, i2, h2, e2, hc2, hx0, hx, hz⟩ := l1Below_ok b i1 h1' p hc1
      rw [e2]
      refine ⟨x, i2, h2, rfl, hc2, by omega, ?_⟩
      by_cases q : 0 < p
      · have := hx q
        omega
      · have := hz (by omega)
        omega

theorem l1Size_eq (l : List Int) (m : Int) (hl : l.length ≤ 2000000) (hm : 2 ≤ m) : ∃ s, spec_l1Size.f l m = some s ∧ 2 ≤ s ∧ s ≤ m := by
  unfold spec_l1Size.f
  rw [w64 (n := (l.length : Int) / 20) (by omega) (by omega), w64 (by omega) (by omega)]
  by_cases h : 2 + (l.length : Int) / 20 > m
  · rw [if_pos h]
    exact ⟨m, rfl, hm, by omega⟩
  · rw [if_neg h]
    exact ⟨_, rfl, by omega, by omega⟩

theorem u64_small {n : Int} (h0 : 0 ≤ n) (h1 : n < 18446744073709551616) : IntKind.u64.wrap n = n := by
  have hs : IntKind.wrap .u64 n = (if (false && decide (n % (2 ^ 64 : Int) ≥ (2 ^ 63 : Int))) = true then n % (2 ^ 64 : Int) - (2 ^ 64 : Int) else n % (2 ^ 64 : Int)) := rfl
  have h4 : n % (2 ^ 64 : Int) = n := Int.emod_eq_of_lt h0 (by omega)
  rw [hs, h4]
  simp
theorem drawRowLoop (b : List Int) (p m : Int) (hp0 : -1 ≤ p) (hp1 : p ≤ 998244354) (hm : m ≤ 1000) : ∀ (d : Nat) (s : List Int) (i h : Int), CurOk b i → m - (s.length : Int) ≤ (d : Int) → s.length ≤ 1000 →
    ∃ r i' h', Ev (fun k => spec_l6DrawRow.l0 k p s m (s.length : Int) b i h) (r, i', h') ∧ CurOk b i' ∧ r.length ≤ 2000 := by
  intro d
  induction d with
  | zero =>
    intro s i h hc hd hs
    obtain ⟨t, i1, h1, e, hc1⟩ := l1Once_ok b i h 30 hc
    by_cases ht : t = true
    · by_cases c : m > 0
      · obtain ⟨x, i2, h2, e2, hc2, _⟩ := l1PickInt_ok b i1 h1 [(-1), p] (by simp) hc1
        refine ⟨s.set (0 : Int).toNat x, i2, h2, ?_, hc2, by rw [List.length_set]; omega⟩
        rw [ev_shift]
        simp only [spec_l6DrawRow.l0]
        rw [ev_neg (by omega), e, ev_sbind, ev_pos ht, ev_pos c, e2, ev_sbind, ev_pos (by omega)]
        exact Ev.now _
      · refine ⟨s, i1, h1, ?_, hc1, by omega⟩
        rw [ev_shift]
        simp only [spec_l6DrawRow.l0]
        rw [ev_neg (by omega), e, ev_sbind, ev_pos ht, ev_neg c]
        exact Ev.now _
    · refine ⟨s, i1, h1, ?_, hc1, by omega⟩
      rw [ev_shift]
      simp only [spec_l6DrawRow.l0]
      rw [ev_neg (by omega), e, ev_sbind, ev_neg ht]
      exact Ev.now _
  | succ d ih =>
    intro s i h hc hd hs
    by_cases c : (s.length : Int) < m
    · obtain ⟨x, i1, h1, e, hc1, _⟩ := drawResidue_ok b i h p hc hp0 hp1
      have el : (s ++ [x]).length = s.length + 1 := by simp
      obtain ⟨r, i2, h2, e2, hc2, hr⟩ := ih (s ++ [x]) i1 h1 hc1 (by omega) (by omega)
      refine ⟨r, i2, h2, ?_, hc2, hr⟩
      have e3 : (s.length : Int) + 1 = ((s ++ [x]).length : Int) := by omega
      rw [ev_shift]
      simp only [spec_l6DrawRow.l0]
      rw [ev_pos c, e, ev_sbind, ev_pos (by omega), w64 (by omega) (by omega), e3]
      exact e2
    · have hz : m - (s.length : Int) ≤ ((0 : Nat) : Int) := by omega
      obtain ⟨t, i1, h1, e, hc1⟩ := l1Once_ok b i h 30 hc
      by_cases ht : t = true
      · by_cases c2 : m > 0
        · obtain ⟨x, i2, h2, e2, hc2, _⟩ := l1PickInt_ok b i1 h1 [(-1), p] (by simp) hc1
          refine ⟨s.set (0 : Int).toNat x, i2, h2, ?_, hc2, by rw [List.length_set]; omega⟩
          rw [ev_shift]
          simp only [spec_l6DrawRow.l0]
          rw [ev_neg (by omega), e, ev_sbind, ev_pos ht, ev_pos c2, e2, ev_sbind, ev_pos (by omega)]
          exact Ev.now _
        · refine ⟨s, i1, h1, ?_, hc1, by omega⟩
          rw [ev_shift]
          simp only [spec_l6DrawRow.l0]
          rw [ev_neg (by omega), e, ev_sbind, ev_pos ht, ev_neg c2]
          exact Ev.now _
      · refine ⟨s, i1, h1, ?_, hc1, by omega⟩
        rw [ev_shift]
        simp only [spec_l6DrawRow.l0]
        rw [ev_neg (by omega), e, ev_sbind, ev_neg ht]
        exact Ev.now _
theorem shl_small (x : Int) (h0 : 0 ≤ x) (h1 : x ≤ 8) : ∃ m, shl .i64 1 x = m ∧ 0 ≤ m ∧ m ≤ 256 := by
  have h : x = 0 ∨ x = 1 ∨ x = 2 ∨ x = 3 ∨ x = 4 ∨ x = 5 ∨ x = 6 ∨ x = 7 ∨ x = 8 := by omega
  rcases h with h | h | h | h | h | h | h | h | h <;> subst h <;> exact ⟨_, rfl, by decide +kernel, by decide +kernel⟩
theorem drawRow_ev (b : List Int) (i h p : Int) (hb : b.length ≤ 2000000) (hp0 : -1 ≤ p) (hp1 : p ≤ 998244354) (hc : CurOk b i) : ∃ r i' h', Ev (fun k => spec_l6DrawRow.f k b i h b p) (r, i', h') ∧ CurOk b i' ∧ r.length ≤ 2000 := by
  unfold spec_l6DrawRow.f
  obtain ⟨s, e2, hs0, hs1⟩ := l1Size_eq b 5 hb (by omega)
  obtain ⟨x, i1, h1, e3, hc1, hx0, hx, _⟩ := l1Below_ok b i h (1 + s) hc
  have hx' := hx (by omega)
  obtain ⟨t, i2, h2, e4, hc2⟩ := l1Once_ok b i1 h1 20 hc1
  have tail : ∀ (m i h : Int), CurOk b i → m ≤ 256 → ∃ r i' h', Ev (fun k => spec_l6DrawRow.j0 k p [] m b i h) (r, i', h') ∧ CurOk b i' ∧ r.length ≤ 2000 := by
    intro m i h hc hm
    obtain ⟨o, i3, h3, e5, hc3⟩ := l1Once_ok b i h 150 hc
    by_cases ho : o = true
    · obtain ⟨r, i4, h4, e6, hc4, hr⟩ := drawRowLoop b p 256 hp0 hp1 (by omega) 300 [] i3 h3 hc3 (by simp) (by simp)
      refine ⟨r, i4, h4, ?_, hc4, hr⟩
      rw [ev_shift]
      simp only [spec_l6DrawRow.j0]
      rw [e5, ev_sbind, ev_pos ho, ev_shift]
      simp only [spec_l6DrawRow.j1]
      exact e6
    · obtain ⟨r, i4, h4, e6, hc4, hr⟩ := drawRowLoop b p m hp0 hp1 (by omega) 300 [] i3 h3 hc3 (by simp; omega) (by simp)
      refine ⟨r, i4, h4, ?_, hc4, hr⟩
      rw [ev_shift]
      simp only [spec_l6DrawRow.j0]
      rw [e5, ev_sbind, ev_neg ho, ev_shift]
      simp only [spec_l6DrawRow.j1]
      exact e6
  by_cases ht : t = true
  · obtain ⟨y, i3, h3, e5, hc3, hy0, hy, _⟩ := l1Below_ok b i2 h2 12 hc2
    have := hy (by omega)
    obtain ⟨r, i4, h4, e6, hc4, hr⟩ := tail y i3 h3 hc3 (by omega)
    refine ⟨r, i4, h4, ?_, hc4, hr⟩
    rw [ev_sbind, e2, ev_sbind, w64 (by omega) (by omega), e3, ev_sbind, u64_small hx0 (by omega), ev_pos hx0, e4, ev_sbind, ev_pos ht, e5, ev_sbind]
    exact e6
  · obtain ⟨m, em, hm0, hm1⟩ := shl_small x hx0 (by omega)
    obtain ⟨r, i4, h4, e6, hc4, hr⟩ := tail m i2 h2 hc2 hm1
    refine ⟨r, i4, h4, ?_, hc4, hr⟩
    rw [ev_sbind, e2, ev_sbind, w64 (by omega) (by omega), e3, ev_sbind, u64_small hx0 (by omega), ev_pos hx0, e4, ev_sbind, ev_neg ht, em]
    exact e6

theorem drawDft_ev (b : List Int) (hb : b.length ≤ 2000000) : ∃ l p o, Ev (fun k => spec_DrawDft.f k b) (l, p, o) ∧ l.length ≤ 2000 ∧ -1 ≤ p ∧ p ≤ 998244354 := by
  unfold spec_DrawDft.f
  obtain ⟨h, e1⟩ := l1New_ev b hb
  obtain ⟨p, i1, h1, e2, hc1, hp0, hp1⟩ := drawPrime_ok b 0 h ⟨by omega, by omega, hb⟩
  obtain ⟨l, i2, h2, e3, hc2, hl⟩ := drawRow_ev b i1 h1 p hb hp0 hp1 hc1
  obtain ⟨o, i3, h3, e4, hc3⟩ := l1Once_ok b i2 h2 2 hc2
  refine ⟨l, p, o, ?_, hl, hp0, hp1⟩
  rw [ev_bind e1]
  dsimp only
  rw [e2, ev_sbind]
  dsimp only
  rw [ev_bind e3]
  dsimp only
  rw [e4, ev_sbind]
  exact Ev.now _

theorem sameInts_ev (a b : List Int) (h : a.length ≤ 2000000) : Ev (fun k => laws_sameInts.f k a b) (decide (a = b)) := by
  unfold laws_sameInts.f
  by_cases e : a.length = b.length
  · rw [ev_pos (by omega)]
    rw [all_iff (fun k i => laws_sameInts.l0 k a b i) (fun i => decide (rd a (i : Int) = rd b (i : Int))) a.length _ false]
    · split
      · rename_i hp
        have : a = b := list_ext_rd e fun i hi => by simpa using range_all.1 hp i hi
        rw [decide_eq_true this]
        exact Ev.step (fun k => by simp only [laws_sameInts.l0]; rw [if_neg (by omega)]) (Ev.now _)
      · rename_i hp
        have : ¬ a = b := fun h => hp (by subst h; rw [range_all]; simp)
        simp [this]
    · intro i hi
      by_cases p : rd a (i : Int) = rd b (i : Int)
      · rw [if_pos (by simpa using p)]
        rw [ev_shift]
        simp only [laws_sameInts.l0]
        rw [ev_pos (by omega), ev_pos (by omega), ev_pos (by omega), ev_pos p, w64 (by omega) (by omega)]
      · rw [if_neg (by simpa using p)]
        rw [ev_shift]
        simp only [laws_sameInts.l0]
        rw [ev_pos (by omega), ev_pos (by omega), ev_pos (by omega), ev_neg p, ev_some_iff]
  · rw [ev_neg (by omega)]
    have : ¬ a = b := fun h => e (by rw [h])
    simp only [this, decide_false]
    exact Ev.now _
theorem big_eq (l : List Int) : laws_big.f l = some (decide ((l.length : Int) > 1048576)) := rfl


theorem isPrime_eq (p : Int) : impl_isPrime.f p = some (decide (IsP p)) := by
  unfold impl_isPrime.f
  by_cases h1 : p = 998244353
  · rw [if_pos h1, decide_eq_true (.inl h1)]
  · rw [if_neg h1]
    by_cases h2 : p = 167772161
    · rw [if_pos h2, decide_eq_true (.inr (.inl h2))]
    · rw [if_neg h2]
      by_cases h3 : p = 469762049
      · rw [decide_eq_true (.inr (.inr h3))]
        simp [h3]
      · have : ¬ IsP p := fun h => by unfold IsP at h; omega
        rw [decide_eq_false this]
        simp [h3]
theorem residue_eq (a p : Int) : impl_residue.f a p = some (decide (0 ≤ a ∧ a < p)) := by
  unfold impl_residue.f
  by_cases h : a ≥ 0
  · rw [if_pos h]
    congr 1
    rw [decide_eq_decide]
    omega
  · rw [if_neg h]
    congr 1
    symm
    rw [decide_eq_false_iff_not]
    omega
theorem implPow0_ev (p : Nat) (hp : GoodP p) : ∀ (f n a r : Nat), n < 2 ^ f → n < 9223372036854775808 → a < p → r < p → Ev (fun k => impl_power.l0 k (a : Int) (n : Int) (p : Int) (r : Int)) ((r * a ^ n % p : Nat) : Int) := by
  have hp0 := hp.gt
  have hp1 := hp.lt
  intro f
  induction f with
  | zero =>
    intro n a r hf _ ha hr
    have : n = 0 := by omega
    subst this
    rw [ev_shift]
    simp only [impl_power.l0]
    rw [ev_neg (by omega), Nat.pow_zero, Nat.mul_one, Nat.mod_eq_of_lt hr]
    exact Ev.now _
  | succ f ih =>
    intro n a r hf hn ha hr
    rw [ev_shift]
    simp only [impl_power.l0]
    by_cases c : n = 0
    · subst c
      rw [ev_neg (by omega), Nat.pow_zero, Nat.mul_one, Nat.mod_eq_of_lt hr]
      exact Ev.now _
    · have hm1 := Nat.mod_lt (a * a) (by omega : 0 < p)
      have hm2 := Nat.mod_lt (r * a) (by omega : 0 < p)
      have e2 : (n : Int) / 2 = ((n / 2 : Nat) : Int) := by omega
      have hs := pow_step r a n p
      have hf2 : n / 2 < 2 ^ f := by rw [Nat.pow_succ] at hf; omega
      rw [ev_pos (by omega), band_one n hn, mulmod (by omega) (by omega), mulmod (by omega) (by omega), e2]
      by_cases d : n % 2 = 1
      · rw [if_pos d] at hs
        have g := ih (n / 2) (a * a % p) (r * a % p) hf2 (by omega) hm1 hm2
        rw [hs] at g
        rw [ev_pos (by omega), ev_neg (by omega)]
        exact g
      · rw [if_neg d] at hs
        have g := ih (n / 2) (a * a % p) r hf2 (by omega) hm1 hr
        rw [hs] at g
        rw [ev_neg (by omega), ev_neg (by omega)]
        exact g
theorem implPow_ev (p n a : Nat) (hp : GoodP p) (hn : n < 9223372036854775808) (ha : a < p) : Ev (fun k => impl_power.f k (a : Int) (n : Int) (p : Int)) ((a ^ n % p : Nat) : Int) := by
  unfold impl_power.f
  have g := implPow0_ev p hp 63 n a 1 (by omega) hn ha hp.gt
  rw [Nat.one_mul] at g
  exact g

theorem implInv_ev (a p : Nat) (hi : IsP (p : Int)) (hp : GoodP p) (h0 : 0 < a) (h1 : a < p) : Ev (fun k => impl_InvMod.f k (a : Int) (p : Int)) ((invN a p : Nat) : Int) := by
  have hp0 := hp.gt
  have hp1 := hp.lt
  unfold impl_InvMod.f
  rw [isPrime_eq, decide_eq_true hi, ev_sbind, ev_pos rfl, residue_eq, decide_eq_true (by omega), ev_sbind, ev_pos rfl, ev_neg (by omega), w64 (by omega) (by omega)]
  have e : (p : Int) - 2 = ((p - 2 : Nat) : Int) := by omega
  rw [e, ev_bind (implPow_ev p (p - 2) a hp (by omega) h1)]
  exact Ev.now _


theorem band_whole : ∀ n : Fin 257, 1 ≤ n.val → ((n.val &&& (n.val - 1)) == 0) = decide (Whole n.val) := by decide +kernel
theorem implWhole_eq (n : Nat) : impl_whole.f (n : Int) = some (decide (Whole n)) := by
  unfold impl_whole.f
  by_cases h0 : (n : Int) ≥ 1
  · rw [if_pos h0]
    by_cases h1 : (n : Int) ≤ 256
    · rw [if_pos h1, w64 (by omega) (by omega)]
      have e : (n : Int) - 1 = ((n - 1 : Nat) : Int) := by omega
      rw [e, band_nat n (n - 1) (by omega) (by omega)]
      have := band_whole ⟨n, by omega⟩ (by show 1 ≤ n; omega)
      simp only at this
      rw [← this]
      congr 1
      rw [Bool.eq_iff_iff, beq_iff_eq, beq_iff_eq]
      omega
    · rw [if_neg h1, decide_eq_false (fun h => by have := whole_le h; omega)]
  · rw [if_neg h0, decide_eq_false (fun h => by have := whole_le h; omega)]

theorem implUnit_ev (n p : Nat) (hi : IsP (p : Int)) (hp : GoodP p) (hn : Whole n) : Ev (fun k => impl_Unit.f k (n : Int) (p : Int)) ((unitN n p : Nat) : Int) := by
  have hp0 := hp.gt
  have hp1 := hp.lt
  have hn1 := whole_le hn
  have h3 : 3 < p := by unfold IsP at hi; omega
  unfold impl_Unit.f
  rw [isPrime_eq, decide_eq_true hi, ev_sbind, ev_pos rfl, implWhole_eq, decide_eq_true hn, ev_sbind, ev_pos rfl, ev_neg (by omega), w64 (n := (p : Int) - 1) (by omega) (by omega)]
  have e : (p : Int) - 1 = ((p - 1 : Nat) : Int) := by omega
  have e2 : Int.tdiv ((p - 1 : Nat) : Int) (n : Int) = (((p - 1) / n : Nat) : Int) := (Int.ofNat_tdiv (p - 1) n).symm
  have hd : (p - 1) / n ≤ p - 1 := Nat.div_le_self _ _
  unfold unitN
  rw [e, e2]
  generalize (p - 1) / n = D at *
  have g : Ev (fun k => impl_power.f k 3 (D : Int) (p : Int)) ((3 ^ D % p : Nat) : Int) := implPow_ev p D 3 hp (by omega) h3
  rw [w64 (by omega) (by omega), ev_bind g]
  exact Ev.now _

theorem implRow_ev (l : List Int) (p : Int) (hl : l.length ≤ 2000000) (hp0 : 0 ≤ p) (hp1 : p ≤ 2000000000) : ∃ b, Ev (fun k => impl_row.f k l p) b ∧ (b = true ↔ l.length ≤ 256 ∧ RowOk p l) := by
  unfold impl_row.f
  refine ⟨(List.range l.length).all (fun i => decide (0 ≤ rd l (i : Int) ∧ rd l (i : Int) < p)) && decide (l.length ≤ 256), ?_, ?_⟩
  · rw [all_iff (fun k i => impl_row.l0 k l p l (l.length : Int) i) (fun i => decide (0 ≤ rd l (i : Int) ∧ rd l (i : Int) < p)) l.length _ false]
    · split
      · rename_i hq
        rw [hq, Bool.true_and, ev_shift]
        simp only [impl_row.l0]
        rw [ev_neg (by omega), ev_some_iff, decide_eq_decide]
        omega
      · rename_i hq
        simp only [Bool.not_eq_true] at hq
        rw [hq, Bool.false_and]
    · intro i hi
      by_cases c : 0 ≤ rd l (i : Int) ∧ rd l (i : Int) < p
      · rw [if_pos (by simpa using c), ev_shift]
        simp only [impl_row.l0]
        rw [ev_pos (by omega), ev_pos (by omega), ev_pos (by omega), residue_eq, ev_sbind, ev_pos (by simpa using c), w64 (by omega) (by omega)]
      · rw [if_neg (by simpa using c), ev_shift]
        simp only [impl_row.l0]
        rw [ev_pos (by omega), ev_pos (by omega), ev_pos (by omega), residue_eq, ev_sbind, ev_neg (by simpa using c), ev_some_iff]
  · rw [Bool.and_eq_true, range_all, decide_eq_true_eq]
    constructor
    · rintro ⟨h1, h2⟩
      exact ⟨h2, fun i hi => by simpa using h1 i hi⟩
    · rintro ⟨h1, h2⟩
      exact ⟨fun i hi => by simpa using h2 i hi, h1⟩
theorem implTurns_ev (l : List Int) (p w sc : Nat) (r : List Int × Bool) (hp : GoodP p) (hw : w < p) (hn0 : 0 < l.length) (hn : l.length ≤ 256)
    (h : Ev (fun k => impl_Dft.l0 k l (p : Int) (l.length : Int) (w : Int) (sc : Int) (tab l.length fun j => ((w ^ j % p : Nat) : Int)) (l.length : Int)) r) :
    Ev (fun k => impl_Dft.l0 k l (p : Int) (l.length : Int) (w : Int) (sc : Int) ((List.replicate l.length 0).set 0 1) 1) r := by
  have hp0 := hp.gt
  have hp1 := hp.lt
  have g := for_at (fun k s i => impl_Dft.l0 k l (p : Int) (l.length : Int) (w : Int) (sc : Int) s i) (fun i _ => tab l.length fun j => if j < i + 2 then ((w ^ j % p : Nat) : Int) else 0) (fun i s => s = tab l.length fun j => if j < i + 1 then ((w ^ j % p : Nat) : Int) else 0) 1 (l.length - 1) r ?_ ((List.replicate l.length 0).set 0 1) ?_
  · rw [g.2, g.1]
    have e : (1 : Int) + ((l.length - 1 : Nat) : Int) = (l.length : Int) := by omega
    rw [e]
    have e2 : (tab l.length fun j => if j < l.length - 1 + 1 then ((w ^ j % p : Nat) : Int) else 0) = tab l.length fun j => ((w ^ j % p : Nat) : Int) := tab_congr fun j hj => by rw [if_pos (by omega)]
    rw [e2]
    exact h
  · intro i s hi hs
    subst hs
    refine ⟨rfl, ?_⟩
    rw [ev_shift]
    simp only [impl_Dft.l0, tab_length]
    have e1 : (1 : Int) + (i : Int) - 1 = (i : Int) := by omega
    have hm := Nat.mod_lt (w ^ i) (by omega : 0 < p)
    rw [ev_pos (by omega), e1, w64 (n := (i : Int)) (by omega) (by omega), rd_tab' (by omega), if_pos (by omega), mulmod (by omega) (by omega), ev_pos (by omega), ev_pos (by omega), ev_neg (by omega), ev_pos (by omega), ev_pos (by omega), w64 (n := (1 : Int) + (i : Int) + 1) (by omega) (by omega)]
    have e2 : ((1 : Int) + (i : Int)).toNat = i + 1 := by omega
    rw [e2, set_tab _ _ (by omega)]
    have e3 : (tab l.length fun m => if m = i + 1 then ((w ^ i % p * w % p : Nat) : Int) else if m < i + 1 then ((w ^ m % p : Nat) : Int) else 0) = tab l.length fun j => if j < i + 2 then ((w ^ j % p : Nat) : Int) else 0 := by
      refine tab_congr fun j _ => ?_
      by_cases c : j = i + 1
      · subst c
        rw [if_pos rfl, if_pos (by omega), Nat.pow_succ, Nat.mod_mul_mod]
      · rw [if_neg c]
        by_cases d : j < i + 1
        · rw [if_pos d, if_pos (by omega)]
        · rw [if_neg d, if_neg (by omega)]
    rw [e3]
  · refine eq_tab (by simp) fun j hj => ?_
    have h := rd_set (l := List.replicate l.length (0 : Int)) (i := (j : Int)) (j := 0) (v := 1) (by omega) (by simp; omega) (by omega)
    have e0 : (0 : Int).toNat = 0 := rfl
    rw [e0] at h
    rw [h]
    by_cases c : j = 0
    · subst c
      simp [Nat.mod_eq_of_lt hp0]
    · rw [if_neg (by omega), if_neg (by omega), rd_replicate]
theorem implCore_ev (l : List Int) (p w sc : Nat) (hp : GoodP p) (hw : w < p) (hsc : sc < p) (hn0 : 0 < l.length) (hn : l.length ≤ 256) (hr : RowOk (p : Int) l) (hper : w ^ l.length % p = 1) :
    Ev (fun k => impl_Dft.j1 k l (p : Int) (l.length : Int) (w : Int) (sc : Int)) (dftV l p w sc, true) := by
  have hp0 := hp.gt
  have hp1 := hp.lt
  rw [ev_shift]
  simp only [impl_Dft.j1]
  have hrep : (List.replicate l.length (0 : Int)).length = l.length := by simp
  have e0 : (0 : Int).toNat = 0 := rfl
  rw [ev_pos (by omega), Int.toNat_natCast, ev_pos (by omega), ev_sbind, ev_pos (by omega), e0]
  refine implTurns_ev l p w sc _ hp hw hn0 hn ?_
  rw [ev_shift]
  simp only [impl_Dft.l0]
  rw [ev_neg (by omega), ev_pos (by omega), Int.toNat_natCast, ev_pos (by omega), ev_sbind, hrep]
  have hmap := map_loop (fun k s i => impl_Dft.l1 k l (p : Int) (l.length : Int) (sc : Int) (tab l.length fun j => ((w ^ j % p : Nat) : Int)) s (l.length : Int) i) (List.replicate l.length 0) (fun k => (dftN l p w sc k : Int)) (dftV l p w sc, true) ?_
  · rw [hmap, hrep, ev_shift]
    simp only [impl_Dft.l1]
    rw [ev_neg (by omega)]
    exact Ev.now _
  · intro k s hk hs _
    rw [hrep] at hk hs
    rw [ev_shift]
    simp only [impl_Dft.l1]
    rw [ev_pos (by omega)]
    have g := for_iff (fun q c i => impl_Dft.l2 q l (p : Int) (l.length : Int) (sc : Int) (tab l.length fun j => ((w ^ j % p : Nat) : Int)) s (k : Int) c (l.length : Int) (k : Int) l (l.length : Int) i) (fun i _ => ((sumN (fun i => (rd l (i : Int)).toNat * w ^ (i * k)) (i + 1) % p : Nat) : Int)) (fun i c => c = ((sumN (fun i => (rd l (i : Int)).toNat * w ^ (i * k)) i % p : Nat) : Int)) l.length (dftV l p w sc, true) ?_ 0 ?_
    · rw [g.2, g.1, ev_shift]
      simp only [impl_Dft.l2]
      have hm := Nat.mod_lt (sumN (fun i => (rd l (i : Int)).toNat * w ^ (i * k)) l.length) (by omega : 0 < p)
      rw [ev_neg (by omega), ev_neg (by omega), ev_pos (by omega), ev_pos (by omega), mulmod (by omega) (by omega), w64 (by omega) (by omega), Int.toNat_natCast, Nat.mod_mul_mod]
      exact Iff.rfl
    · intro i c hi hc
      subst hc
      refine ⟨rfl, ?_⟩
      rw [ev_shift]
      simp only [impl_Dft.l2, tab_length]
      have h256 : i * k ≤ 256 * 256 := Nat.mul_le_mul (by omega) (by omega)
      have e1 : (i : Int) * (k : Int) = ((i * k : Nat) : Int) := by simp
      have hmn := Nat.mod_lt (i * k) hn0
      have hm := Nat.mod_lt (sumN (fun i => (rd l (i : Int)).toNat * w ^ (i * k)) i) (by omega : 0 < p)
      have hm2 := Nat.mod_lt (w ^ (i * k % l.length)) (by omega : 0 < p)
      obtain ⟨x0, x1⟩ := hr i hi
      have ex : rd l (i : Int) = ((rd l (i : Int)).toNat : Int) := by omega
      rw [e1, w64 (n := ((i * k : Nat) : Int)) (by omega) (by omega), tmod_nat, rd_tab' hmn, ex, addmulmod (by omega) (by omega) (by omega), ev_pos (by omega), ev_pos (by omega), ev_pos (by omega), ev_neg (by omega), ev_pos (by omega), ev_pos (by omega), ev_neg (by omega), w64 (n := (i : Int) + 1) (by omega) (by omega)]
      have key : (sumN (fun i => (rd l (i : Int)).toNat * w ^ (i * k)) i % p + (rd l (i : Int)).toNat * (w ^ (i * k % l.length) % p)) % p = sumN (fun i => (rd l (i : Int)).toNat * w ^ (i * k)) (i + 1) % p := by
        have hq : w ^ l.length % p = 1 % p := by rw [hper, Nat.mod_eq_of_lt hp0]
        rw [← pow_period hq, sumN_succ, Nat.add_mod, Nat.mod_mod, Nat.mul_mod, Nat.mod_mod, ← Nat.mul_mod, ← Nat.add_mod]
      rw [key]
    · rfl
theorem implDft_ev (l : List Int) (p : Int) (back : Bool) (hl : l.length ≤ 2000000) : Ev (fun k => impl_Dft.f k l p back) (dftR l p back) := by
  unfold impl_Dft.f
  have no : ¬ (IsP p ∧ l.length ≤ 256 ∧ RowOk p l ∧ Whole l.length) → Ev (fun k => impl_Dft.j0 k l p back (l.length : Int) true) (dftR l p back) := by
    intro h
    rw [ev_shift, dftR, if_neg h]
    simp only [impl_Dft.j0, if_true]
    exact Ev.now _
  rw [isPrime_eq, ev_sbind]
  by_cases h1 : IsP p
  · obtain ⟨q, rfl, hq⟩ := good_of h1
    have hp0 := hq.gt
    have hp1 := hq.lt
    obtain ⟨b, hb, hiff⟩ := implRow_ev l (q : Int) hl (by omega) (by omega)
    rw [ev_pos (by simpa using h1), ev_bind hb]
    by_cases h2 : b = true
    · have h2' := hiff.1 h2
      rw [ev_pos h2, implWhole_eq, ev_sbind]
      by_cases h3 : Whole l.length
      · have hn := whole_le h3
        have hu := unit_one hq h3
        have hul : unitN l.length q < q := Nat.mod_lt _ (by omega)
        have hu0 : 0 < unitN l.length q := by
          apply Nat.pos_of_ne_zero
          intro e
          have hu' : unitN l.length q ^ l.length % q = 1 := hu
          rw [e, Nat.zero_pow (by omega), Nat.zero_mod] at hu'
          omega
        rw [decide_eq_true h3, ev_shift, dftR, if_pos ⟨h1, h2'.1, h2'.2, h3⟩, Int.toNat_natCast]
        simp only [impl_Dft.j0, Bool.not_true, Bool.false_eq_true, if_false]
        rw [ev_bind (implUnit_ev l.length q h1 hq h3)]
        have hlq : l.length < q := by unfold IsP at h1; omega
        cases back with
        | true =>
          rw [ev_pos rfl, ev_bind (implInv_ev (unitN l.length q) q h1 hq hu0 hul), ev_bind (implInv_ev l.length q h1 hq (by omega) hlq)]
          have h4 := inv_one (p := q) (n := l.length) (w := unitN l.length q) hu
          rw [Nat.mod_eq_of_lt hp0] at h4
          exact implCore_ev l q _ _ hq (Nat.mod_lt _ (by omega)) (Nat.mod_lt _ (by omega)) (by omega) (by omega) h2'.2 h4
        | false =>
          rw [ev_neg (by decide)]
          exact implCore_ev l q _ 1 hq hul (by omega) (by omega) (by omega) h2'.2 hu
      · rw [decide_eq_false h3]
        exact no (fun h => h3 h.2.2.2)
    · rw [ev_neg h2]
      exact no (fun h => h2 (hiff.2 ⟨h.2.1, h.2.2.1⟩))
  · rw [ev_neg (by simpa using h1)]
    exact no (fun h => h1 h.1)

theorem l1In_eq (a b c : Int) : spec_l1In.f a b c = some (decide (b ≤ a ∧ a ≤ c)) := by
  unfold spec_l1In.f
  by_cases h : a ≥ b
  · rw [if_pos h]
    congr 1
    rw [decide_eq_decide]
    omega
  · rw [if_neg h]
    congr 1
    symm
    rw [decide_eq_false_iff_not]
    omega

theorem l6Prime_eq (p : Int) : spec_l6Prime.f p = some (decide (IsP p)) := by
  unfold spec_l6Prime.f
  by_cases h1 : p = 998244353
  · rw [if_pos h1, decide_eq_true (.inl h1)]
  · rw [if_neg h1]
    by_cases h2 : p = 167772161
    · rw [if_pos h2, decide_eq_true (.inr (.inl h2))]
    · rw [if_neg h2]
      by_cases h3 : p = 469762049
      · rw [decide_eq_true (.inr (.inr h3))]
        simp [h3]
      · have : ¬ IsP p := fun h => by unfold IsP at h; omega
        rw [decide_eq_false this]
        simp [h3]
theorem specPow0_ev (p : Nat) (hp : GoodP p) : ∀ (f n a r : Nat), n < 2 ^ f → n < 9223372036854775808 → a < p → r < p → Ev (fun k => spec_PowMod.l0 k (a : Int) (n : Int) (p : Int) (r : Int)) ((r * a ^ n % p : Nat) : Int) := by
  have hp0 := hp.gt
  have hp1 := hp.lt
  intro f
  induction f with
  | zero =>
    intro n a r hf _ ha hr
    have : n = 0 := by omega
    subst this
    rw [ev_shift]
    simp only [spec_PowMod.l0]
    rw [ev_neg (by omega), Nat.pow_zero, Nat.mul_one, Nat.mod_eq_of_lt hr]
    exact Ev.now _
  | succ f ih =>
    intro n a r hf hn ha hr
    rw [ev_shift]
    simp only [spec_PowMod.l0]
    by_cases c : n = 0
    · subst c
      rw [ev_neg (by omega), Nat.pow_zero, Nat.mul_one, Nat.mod_eq_of_lt hr]
      exact Ev.now _
    · have hm1 := Nat.mod_lt (a * a) (by omega : 0 < p)
      have hm2 := Nat.mod_lt (r * a) (by omega : 0 < p)
      have e2 : Int.tdiv (n : Int) 2 = ((n / 2 : Nat) : Int) := (Int.ofNat_tdiv n 2).symm
      have e3 : Int.tmod (n : Int) 2 = ((n % 2 : Nat) : Int) := (Int.ofNat_tmod n 2).symm
      have hs := pow_step r a n p
      have hf2 : n / 2 < 2 ^ f := by rw [Nat.pow_succ] at hf; omega
      rw [ev_pos (by omega), e3, mulmod (by omega) (by omega), mulmod (by omega) (by omega), e2, w64 (n := ((n / 2 : Nat) : Int)) (by omega) (by omega)]
      by_cases d : n % 2 = 1
      · rw [if_pos d] at hs
        have g := ih (n / 2) (a * a % p) (r * a % p) hf2 (by omega) hm1 hm2
        rw [hs] at g
        rw [ev_pos (by omega), ev_neg (by omega)]
        exact g
      · rw [if_neg d] at hs
        have g := ih (n / 2) (a * a % p) r hf2 (by omega) hm1 hr
        rw [hs] at g
        rw [ev_neg (by omega), ev_neg (by omega)]
        exact g
theorem specPow_ev (p n a : Nat) (hi : IsP (p : Int)) (hp : GoodP p) (hn : n ≤ 4000000000000000000) (ha : a < p) : Ev (fun k => spec_PowMod.f k (a : Int) (n : Int) (p : Int)) ((a ^ n % p : Nat) : Int) := by
  have hp0 := hp.gt
  have hp1 := hp.lt
  unfold spec_PowMod.f
  rw [l6Prime_eq, decide_eq_true hi, ev_sbind, ev_pos rfl, w64 (by omega) (by omega), l1In_eq, decide_eq_true (by omega), ev_sbind, ev_pos rfl, l1In_eq, decide_eq_true (by omega), ev_sbind, ev_shift]
  simp only [spec_PowMod.j0, Bool.not_true, Bool.false_eq_true, if_false]
  have g := specPow0_ev p hp 63 n a 1 (by omega) (by omega) ha hp.gt
  rw [Nat.one_mul] at g
  exact g

theorem specInv_ev (a p : Nat) (hi : IsP (p : Int)) (hp : GoodP p) (h0 : 0 < a) (h1 : a < p) : Ev (fun k => spec_InvMod.f k (a : Int) (p : Int)) ((invN a p : Nat) : Int) := by
  have hp0 := hp.gt
  have hp1 := hp.lt
  unfold spec_InvMod.f
  rw [l6Prime_eq, decide_eq_true hi, ev_sbind, ev_pos rfl, w64 (n := (p : Int) - 1) (by omega) (by omega), l1In_eq, decide_eq_true (by omega), ev_sbind, ev_pos rfl, w64 (by omega) (by omega)]
  have e : (p : Int) - 2 = ((p - 2 : Nat) : Int) := by omega
  rw [e, ev_bind (specPow_ev p (p - 2) a hi hp (by omega) h1)]
  exact Ev.now _

theorem specWholeN_ev (n : Nat) : Ev (fun k => spec_l6Whole.f k (n : Int)) (decide (Whole n)) := by
  unfold spec_l6Whole.f
  have step : ∀ (w : Int) (b : Bool), 1 ≤ w → w ≤ 256 → (Ev (fun k => spec_l6Whole.l0 k (n : Int) w) b ↔ (if (n : Int) = w then true = b else Ev (fun k => spec_l6Whole.l0 k (n : Int) (2 * w)) b)) := by
    intro w b h0 h1
    rw [ev_shift]
    simp only [spec_l6Whole.l0]
    rw [ev_pos h1, w64 (by omega) (by omega)]
    by_cases c : (n : Int) = w
    · rw [ev_pos c, if_pos c, ev_some_iff]
    · rw [ev_neg c, if_neg c]
  by_cases h : Whole n
  · rw [decide_eq_true h]
    rcases h with h | h | h | h | h | h | h | h | h <;> subst h <;> (repeat (first | (rw [step _ _ (by omega) (by omega)]) | (rw [if_neg (by omega)]) | (rw [if_pos (by omega)])))
  · rw [decide_eq_false h]
    unfold Whole at h
    rw [step 1 _ (by omega) (by omega), if_neg (by omega), step _ _ (by omega) (by omega), if_neg (by omega), step _ _ (by omega) (by omega), if_neg (by omega), step _ _ (by omega) (by omega), if_neg (by omega), step _ _ (by omega) (by omega), if_neg (by omega), step _ _ (by omega) (by omega), if_neg (by omega), step _ _ (by omega) (by omega), if_neg (by omega), step _ _ (by omega) (by omega), if_neg (by omega), step _ _ (by omega) (by omega), if_neg (by omega), ev_shift]
    simp only [spec_l6Whole.l0]
    rw [ev_neg (by omega)]
    exact Ev.now _

theorem specUnit_ev (n p : Nat) (hi : IsP (p : Int)) (hp : GoodP p) (hn : Whole n) : Ev (fun k => spec_Unit.f k (n : Int) (p : Int)) ((unitN n p : Nat) : Int) := by
  have hp0 := hp.gt
  have hp1 := hp.lt
  have hn1 := whole_le hn
  have h3 : 3 < p := by unfold IsP at hi; omega
  unfold spec_Unit.f
  rw [l6Prime_eq, decide_eq_true hi, ev_sbind, ev_pos rfl, ev_bind (specWholeN_ev n), decide_eq_true hn, ev_pos rfl, ev_neg (by omega), w64 (n := (p : Int) - 1) (by omega) (by omega)]
  have e : (p : Int) - 1 = ((p - 1 : Nat) : Int) := by omega
  have e2 : Int.tdiv ((p - 1 : Nat) : Int) (n : Int) = (((p - 1) / n : Nat) : Int) := (Int.ofNat_tdiv (p - 1) n).symm
  have hd : (p - 1) / n ≤ p - 1 := Nat.div_le_self _ _
  unfold unitN
  rw [e, e2]
  generalize (p - 1) / n = D at *
  have g : Ev (fun k => spec_PowMod.f k 3 (D : Int) (p : Int)) ((3 ^ D % p : Nat) : Int) := specPow_ev p D 3 hi hp (by omega) h3
  rw [w64 (by omega) (by omega), ev_bind g]
  exact Ev.now _
theorem specRow_ev (l : List Int) (p : Int) (hl : l.length ≤ 2000000) (hp0 : 0 ≤ p) (hp1 : p ≤ 2000000000) : ∃ b, Ev (fun k => spec_l6Row.f k l p) b ∧ (b = true ↔ l.length ≤ 256 ∧ RowOk p l) := by
  unfold spec_l6Row.f
  refine ⟨(List.range l.length).all (fun i => decide (0 ≤ rd l (i : Int) ∧ rd l (i : Int) ≤ p - 1)) && decide (l.length ≤ 256), ?_, ?_⟩
  · rw [all_iff (fun k i => spec_l6Row.l0 k l p i) (fun i => decide (0 ≤ rd l (i : Int) ∧ rd l (i : Int) ≤ p - 1)) l.length _ false]
    · split
      · rename_i hq
        rw [hq, Bool.true_and, ev_shift]
        simp only [spec_l6Row.l0]
        rw [ev_neg (by omega), ev_some_iff, decide_eq_decide]
        omega
      · rename_i hq
        simp only [Bool.not_eq_true] at hq
        rw [hq, Bool.false_and]
    · intro i hi
      by_cases c : 0 ≤ rd l (i : Int) ∧ rd l (i : Int) ≤ p - 1
      · rw [if_pos (decide_eq_true c), ev_shift]
        simp only [spec_l6Row.l0]
        rw [ev_pos (by omega), ev_pos (by omega), w64 (n := p - 1) (by omega) (by omega), l1In_eq, ev_sbind, ev_pos (decide_eq_true c), w64 (by omega) (by omega)]
      · rw [if_neg (by rw [decide_eq_false c]; decide), ev_shift]
        simp only [spec_l6Row.l0]
        rw [ev_pos (by omega), ev_pos (by omega), w64 (n := p - 1) (by omega) (by omega), l1In_eq, ev_sbind, ev_neg (by rw [decide_eq_false c]; decide), ev_some_iff]
  · rw [Bool.and_eq_true, range_all, decide_eq_true_eq]
    constructor
    · rintro ⟨h1, h2⟩
      exact ⟨h2, fun i hi => by have := of_decide_eq_true (h1 i hi); omega⟩
    · rintro ⟨h1, h2⟩
      exact ⟨fun i hi => decide_eq_true (by have := h2 i hi; omega), h1⟩
theorem specCore_ev (l : List Int) (p w sc : Nat) (hp : GoodP p) (hw : w < p) (hsc : sc < p) (hn0 : 0 < l.length) (hn : l.length ≤ 256) (hr : RowOk (p : Int) l) :
    Ev (fun k => spec_Dft.j1 k l (p : Int) (l.length : Int) (w : Int) (sc : Int)) (dftV l p w sc, true) := by
  have hp0 := hp.gt
  have hp1 := hp.lt
  rw [ev_shift]
  simp only [spec_Dft.j1]
  have g := for_iff (fun q (s : List Int × Int) k => spec_Dft.l0 q l (p : Int) (l.length : Int) (w : Int) (sc : Int) s.1 s.2 k) (fun k s => (s.1 ++ [(dftN l p w sc k : Int)], ((w ^ (k + 1) % p : Nat) : Int))) (fun k s => s = (tab k (fun k => (dftN l p w sc k : Int)), ((w ^ k % p : Nat) : Int))) l.length (dftV l p w sc, true) ?_ ([], 1) (by simp [tab_zero, Nat.mod_eq_of_lt hp0])
  · rw [g.2, g.1, ev_shift]
    simp only [spec_Dft.l0]
    rw [ev_neg (by omega)]
    exact Ev.now _
  · intro k s hk hs
    subst hs
    refine ⟨by simp only [tab_succ], ?_⟩
    rw [ev_shift]
    simp only [spec_Dft.l0]
    rw [ev_pos (by omega)]
    have hwk := Nat.mod_lt (w ^ k) (by omega : 0 < p)
    have q := for_iff (fun q (c : Int × Int) i => spec_Dft.l1 q l (p : Int) (l.length : Int) (w : Int) (sc : Int) (tab k (fun k => (dftN l p w sc k : Int))) ((w ^ k % p : Nat) : Int) (k : Int) c.1 c.2 i) (fun i _ => (((sumN (fun i => (rd l (i : Int)).toNat * w ^ (i * k)) (i + 1) % p : Nat) : Int), ((w ^ ((i + 1) * k) % p : Nat) : Int))) (fun i c => c = (((sumN (fun i => (rd l (i : Int)).toNat * w ^ (i * k)) i % p : Nat) : Int), ((w ^ (i * k) % p : Nat) : Int))) l.length (dftV l p w sc, true) ?_ (0, 1) ?_
    · rw [q.2, q.1, ev_shift]
      simp only [spec_Dft.l1, tab_length]
      have hm := Nat.mod_lt (sumN (fun i => (rd l (i : Int)).toNat * w ^ (i * k)) l.length) (by omega : 0 < p)
      rw [ev_neg (by omega), ev_neg (by omega), ev_pos (by omega), mulmod (by omega) (by omega), mulmod (by omega) (by omega), w64 (by omega) (by omega), Nat.mod_mul_mod, Nat.mod_mul_mod, ← Nat.pow_succ]
      exact Iff.rfl
    · intro i c hi hc
      subst hc
      refine ⟨rfl, ?_⟩
      rw [ev_shift]
      simp only [spec_Dft.l1]
      have hm := Nat.mod_lt (sumN (fun i => (rd l (i : Int)).toNat * w ^ (i * k)) i) (by omega : 0 < p)
      have hm2 := Nat.mod_lt (w ^ (i * k)) (by omega : 0 < p)
      obtain ⟨x0, x1⟩ := hr i hi
      have ex : rd l (i : Int) = ((rd l (i : Int)).toNat : Int) := by omega
      rw [ex, addmulmod (by omega) (by omega) (by omega), mulmod (by omega) (by omega), ev_pos (by omega), ev_pos (by omega), ev_pos (by omega), ev_neg (by omega), w64 (n := (i : Int) + 1) (by omega) (by omega)]
      have key : (sumN (fun i => (rd l (i : Int)).toNat * w ^ (i * k)) i % p + (rd l (i : Int)).toNat * (w ^ (i * k) % p)) % p = sumN (fun i => (rd l (i : Int)).toNat * w ^ (i * k)) (i + 1) % p := by
        rw [sumN_succ, Nat.add_mod, Nat.mod_mod, Nat.mul_mod, Nat.mod_mod, ← Nat.mul_mod, ← Nat.add_mod]
      have key2 : w ^ (i * k) % p * (w ^ k % p) % p = w ^ ((i + 1) * k) % p := by
        rw [← Nat.mul_mod, ← Nat.pow_add, Nat.add_mul, Nat.one_mul]
      rw [key, key2]
    · simp [sumN, Nat.mod_eq_of_lt hp0]
theorem specDft_ev (l : List Int) (p : Int) (back : Bool) (hl : l.length ≤ 2000000) : Ev (fun k => spec_Dft.f k l p back) (dftR l p back) := by
  unfold spec_Dft.f
  have no : ¬ (IsP p ∧ l.length ≤ 256 ∧ RowOk p l ∧ Whole l.length) → Ev (fun k => spec_Dft.j0 k l p back (l.length : Int) true) (dftR l p back) := by
    intro h
    rw [ev_shift, dftR, if_neg h]
    simp only [spec_Dft.j0, if_true]
    exact Ev.now _
  rw [l6Prime_eq, ev_sbind]
  by_cases h1 : IsP p
  · obtain ⟨q, rfl, hq⟩ := good_of h1
    have hp0 := hq.gt
    have hp1 := hq.lt
    obtain ⟨b, hb, hiff⟩ := specRow_ev l (q : Int) hl (by omega) (by omega)
    rw [ev_pos (by simpa using h1), ev_bind hb]
    by_cases h2 : b = true
    · have h2' := hiff.1 h2
      rw [ev_pos h2, ev_bind (specWholeN_ev l.length)]
      by_cases h3 : Whole l.length
      · have hn := whole_le h3
        have hu := unit_one hq h3
        have hul : unitN l.length q < q := Nat.mod_lt _ (by omega)
        have hu0 : 0 < unitN l.length q := by
          apply Nat.pos_of_ne_zero
          intro e
          have hu' : unitN l.length q ^ l.length % q = 1 := hu
          rw [e, Nat.zero_pow (by omega), Nat.zero_mod] at hu'
          omega
        rw [decide_eq_true h3, ev_shift, dftR, if_pos ⟨h1, h2'.1, h2'.2, h3⟩, Int.toNat_natCast]
        simp only [spec_Dft.j0, Bool.not_true, Bool.false_eq_true, if_false]
        rw [ev_bind (specUnit_ev l.length q h1 hq h3)]
        have hlq : l.length < q := by unfold IsP at h1; omega
        cases back with
        | true =>
          rw [ev_pos rfl, ev_bind (specInv_ev (unitN l.length q) q h1 hq hu0 hul), ev_bind (specInv_ev l.length q h1 hq (by omega) hlq)]
          exact specCore_ev l q _ _ hq (Nat.mod_lt _ (by omega)) (Nat.mod_lt _ (by omega)) (by omega) (by omega) h2'.2
        | false =>
          rw [ev_neg (by decide)]
          exact specCore_ev l q _ 1 hq hul (by omega) (by omega) (by omega) h2'.2
      · rw [decide_eq_false h3]
        exact no (fun h => h3 h.2.2.2)
    · rw [ev_neg h2]
      exact no (fun h => h2 (hiff.2 ⟨h.2.1, h.2.2.1⟩))
  · rw [ev_neg (by simpa using h1)]
    exact no (fun h => h1 h.1)

theorem sumLoop (l : List Int) (p : Nat) (f back : List Int) (hp : GoodP p) (hr : RowOk (p : Int) l) (hl : l.length ≤ 256) (h : Ev (fun k => laws_FnDftBack.l0 k l (p : Int) f back true ((sumN (fun i => (rd l (i : Int)).toNat) l.length % p : Nat) : Int) (l.length : Int)) true) :
    Ev (fun k => laws_FnDftBack.l0 k l (p : Int) f back true 0 0) true := by
  have h0 := hp.gt
  have h1 := hp.lt
  have g := for_iff (fun k c i => laws_FnDftBack.l0 k l (p : Int) f back true c i) (fun i _ => ((sumN (fun i => (rd l (i : Int)).toNat) (i + 1) % p : Nat) : Int)) (fun i c => c = ((sumN (fun i => (rd l (i : Int)).toNat) i % p : Nat) : Int)) l.length true ?_ 0 ?_
  · rw [g.2, g.1]
    exact h
  · intro i c hi hc
    subst hc
    refine ⟨rfl, ?_⟩
    obtain ⟨x0, x1⟩ := hr i hi
    have hm := Nat.mod_lt (sumN (fun i => (rd l (i : Int)).toNat) i) (by omega : 0 < p)
    have ex : rd l (i : Int) = ((rd l (i : Int)).toNat : Int) := by omega
    rw [ev_shift]
    simp only [laws_FnDftBack.l0]
    have e : ((sumN (fun i => (rd l (i : Int)).toNat) i % p : Nat) : Int) + rd l (i : Int) = ((sumN (fun i => (rd l (i : Int)).toNat) i % p + (rd l (i : Int)).toNat : Nat) : Int) := by omega
    rw [e, w64 (n := ((sumN (fun i => (rd l (i : Int)).toNat) i % p + (rd l (i : Int)).toNat : Nat) : Int)) (by omega) (by omega), tmod_nat, ev_pos (by omega), ev_pos (by omega), ev_neg (by omega), w64 (n := (i : Int) + 1) (by omega) (by omega)]
    have key : (sumN (fun i => (rd l (i : Int)).toNat) i % p + (rd l (i : Int)).toNat) % p = sumN (fun i => (rd l (i : Int)).toNat) (i + 1) % p := by
      rw [Nat.mod_add_mod]
      rfl
    rw [key]
  · simp [sumN]
theorem dft_small : dftR [1, 2] 167772161 false = ([3, 167772160], true) := by
  have h : IsP 167772161 ∧ [(1 : Int), 2].length ≤ 256 ∧ RowOk 167772161 [1, 2] ∧ Whole [(1 : Int), 2].length := by
    refine ⟨.inr (.inl rfl), by decide, ?_, by decide⟩
    intro i hi
    have hi' : i < 2 := hi
    have h2 : i = 0 ∨ i = 1 := by omega
    rcases h2 with h2 | h2 <;> subst h2 <;> decide
  have hu : unitN 2 167772161 = 167772161 - 1 := unitN_two goodB
  have e : (167772161 : Int).toNat = 167772161 := rfl
  unfold dftR
  rw [if_pos h, e]
  have e2 : dftFull [1, 2] 167772161 false = dftV [1, 2] 167772161 (unitN 2 167772161) 1 := rfl
  rw [e2, hu]
  decide +kernel
theorem FnDftBack : laws_FnDftBack.Pure := by
  intro l0 _ _ _
  refine Ev.rounds (g := fun k => laws_FnDftBack.f k l0) ?_
  simp only [laws_FnDftBack.f, big_eq, Option.bind_some]
  by_cases hlen : (l0.length : Int) > 1048576
  · rw [ev_pos (by simpa using hlen)]
    exact Ev.now _
  rw [ev_neg (by simpa using hlen)]
  obtain ⟨l, p, o, hd, hl, hp0, hp1⟩ := drawDft_ev l0 (by omega)
  rw [ev_bind hd]
  simp only
  rw [ev_bind (implDft_ev l p false (by omega)), ev_bind (specDft_ev l p false (by omega))]
  simp only [bne_self_eq_false, Bool.false_eq_true, if_false]
  have hlen2 := dftR_length l p false
  by_cases h : IsP p ∧ l.length ≤ 256 ∧ RowOk p l ∧ Whole l.length
  · obtain ⟨q, rfl, hq⟩ := good_of h.1
    have h0 := hq.gt
    have hr : dftR l (q : Int) false = (dftV l q (unitN l.length q) 1, true) := by
      unfold dftR
      rw [if_pos h]
      rfl
    have hb : dftR (dftV l q (unitN l.length q) 1) (q : Int) true = (l, true) := by
      have hl2 : (dftV l q (unitN l.length q) 1).length = l.length := by simp [dftV]
      unfold dftR
      rw [hl2, if_pos ⟨h.1, h.2.1, dftV_row l q _ _ (by omega), h.2.2.2⟩, Int.toNat_natCast]
      have e : dftFull (dftV l q (unitN l.length q) 1) q true = dftV (dftV l q (unitN l.length q) 1) q (invN (unitN (dftV l q (unitN l.length q) 1).length q) q) (invN (dftV l q (unitN l.length q) 1).length q) := rfl
      rw [e, hl2, dft_back l q hq h.2.2.2 h.2.2.1]
    rw [hr]
    simp only [if_true]
    rw [ev_bind (implDft_ev _ (q : Int) true (by simp [dftV]; omega)), hb]
    simp only
    refine sumLoop l q _ _ hq h.2.2.1 h.2.1 ?_
    have hw := whole_le h.2.2.2
    have hl2 : (dftV l q (unitN l.length q) 1).length = l.length := by simp [dftV]
    rw [ev_shift]
    simp only [laws_FnDftBack.l0]
    rw [ev_neg (by omega), ev_pos trivial, ev_bind (sameInts_ev l l (by omega)), decide_eq_true rfl, ev_pos rfl, ev_pos (by omega), ev_some_iff, beq_iff_eq]
    have e : rd (dftV l q (unitN l.length q) 1) 0 = (dftN l q (unitN l.length q) 1 0 : Int) := by
      unfold dftV
      rw [rd_tab (by omega) (by omega)]
      rfl
    rw [e]
    unfold dftN
    congr 2
    rw [Nat.mul_one]
    refine sumN_congr fun i _ => ?_
    simp
  · have hr : dftR l p false = ([], false) := by
      unfold dftR
      rw [if_neg h]
    rw [hr]
    simp only [Bool.false_eq_true, if_false]
    rw [ev_bind (implDft_ev [1, 2] 167772161 false (by simp)), dft_small]
    simp only [if_true]
    rw [ev_bind (sameInts_ev [3, 167772160] [3, 167772160] (by simp)), decide_eq_true rfl]
    exact Ev.now _

end Go.Proofs.Ytilcnbommpncgaa.Pure
