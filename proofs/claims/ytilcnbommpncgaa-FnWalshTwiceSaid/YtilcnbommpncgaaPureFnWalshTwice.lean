/- The pure part of FnWalshTwice: two Walsh transforms give n times the row. No conditions. -/
import Derived.Test.YtilcnbommpncgaaQFnWalshTwicex4
import Derived.Test.YtilcnbommpncgaaBase
import Derived.Test.YtilcnbommpncgaaWal
import Derived.Test.YtilcnbommpncgaaMod
namespace Go.Proofs.Ytilcnbommpncgaa.Pure
open Go.RowKit Go.Proofs.Ytilcnbommpncgaa.QFnWalshTwice Go.Proofs.YtilcnbommpncgaaW.PrintWords Go.Proofs.YtilcnbommpncgaaW.PrintLast
open Go.Proofs.Ytilcnbommpncgaa.Base Go.Proofs.Ytilcnbommpncgaa.Wal Go.Proofs.Ytilcnbommpncgaa.Mod
set_option linter.unusedVariables false
set_option linter.unusedSimpArgs false
/-! ### the cursor of a draw -/
def CurOk (b : List Int) (i : Int) : Prop := 0 ≤ i ∧ i ≤ (b.length : Int) ∧ b.length ≤ 2000000
theorem l1New_ev (b : List Int) (hb : b.length ≤ 2000000) : ∃ h, Ev (fun k => spec_l1New.f k b) (b, 0, h) := by
  unfold spec_l1New.f
  refine ⟨iter (fun i h => Go.bits .and .i64 (wrap64 ((wrap64 ((wrap64 (h * 131)) + (wrap64 (rd b (i : Int))))) + 7)) 1073741823) (min b.length 4000) (wrap64 (71933 + (b.length : Int))), ?_⟩
  rw [(for_iff (fun k h i => spec_l1New.l0 k b h i) (fun i h => Go.bits .and .i64 (wrap64 ((wrap64 ((wrap64 (h * 131)) + (wrap64 (rd b (i : Int))))) + 7)) 1073741823) (fun _ _ => True) (min b.length 4000) _ ?_ _ trivial).2]
  · rw [ev_shift]
    simp only [spec_l1New.l0]
    by_cases h : ((min b.length 4000 : Nat) : Int) < (b.length : Int)
    · rw [ev_pos h, ev_neg (by omega)]
      exact Ev.now _
    · rw [ev_neg h]
      exact Ev.now _
  · intro i s hi _
    refine ⟨trivial, ?_⟩
    rw [ev_shift]
    simp only [spec_l1New.l0]
    rw [ev_pos (by omega), ev_pos (by omega), ev_pos (by omega), w64 (n := (i : Int) + 1) (by omega) (by omega)]
theorem l1Byte_ok (b : List Int) (i h : Int) (hc : CurOk b i) : ∃ x i' h', spec_l1Byte.f b i h = some (x, i', h') ∧ CurOk b i' ∧ 0 ≤ x ∧ x ≤ 255 := by
  obtain ⟨h0, h1, h2⟩ := hc
  unfold spec_l1Byte.f
  by_cases c : i < (b.length : Int)
  · rw [if_pos c, if_pos h0]
    have := band_range
    refine ⟨_, _, _, rfl, ⟨?_, ?_, h2⟩, (band_range _ 255 (by omega) (by omega)).1, (band_range _ 255 (by omega) (by omega)).2⟩
    · rw [w64 (by omega) (by omega)]; omega
    · rw [w64 (by omega) (by omega)]; omega
  · rw [if_neg c]
    exact ⟨_, _, _, rfl, ⟨h0, h1, h2⟩, (band_range _ 255 (by omega) (by omega)).1, (band_range _ 255 (by omega) (by omega)).2⟩
theorem l1Below_ok (b : List Int) (i h n : Int) (hc : CurOk b i) : ∃ x i' h', spec_l1Below.f b i h n = some (x, i', h') ∧ CurOk b i' ∧ 0 ≤ x ∧ (0 < n → x < n) ∧ (n ≤ 0 → x = 0) := by
  unfold spec_l1Below.f
  by_cases c : n ≤ 0
  · rw [if_pos c]
    exact ⟨_, _, _, rfl, hc, by omega, by omega, fun _ => rfl⟩
  · rw [if_neg c]
    by_cases d : n ≤ 256
    · rw [if_pos d]
      obtain ⟨x, i1, h1, e, hc1, hx0, hx1⟩ := l1Byte_ok b i h hc
      rw [e]
      simp only [Option.bind_some]
      rw [if_neg (by omega)]
      refine ⟨_, _, _, rfl, hc1, ?_, fun _ => ?_, fun h => absurd h c⟩
      · exact Int.tmod_nonneg _ hx0
      · exact Int.tmod_lt_of_pos _ (by omega)
    · rw [if_neg d]
      obtain ⟨x, i1, h1, e, hc1, hx0, hx1⟩ := l1Byte_ok b i h hc
      rw [e]
      simp only [Option.bind_some]
      obtain ⟨y, i2, h2, e, hc2, hy0, hy1⟩ := l1Byte_ok b i1 h1 hc1
      rw [e]
      simp only [Option.bind_some]
      obtain ⟨z, i3, h3, e, hc3, hz0, hz1⟩ := l1Byte_ok b i2 h2 hc2
      rw [e]
      simp only [Option.bind_some]
      obtain ⟨w, i4, h4, e, hc4, hw0, hw1⟩ := l1Byte_ok b i3 h3 hc3
      rw [e]
      simp only [Option.bind_some]
      rw [if_neg (by omega)]
      refine ⟨_, _, _, rfl, hc4, ?_, fun _ => ?_, fun h => absurd h c⟩
      · refine Int.tmod_nonneg _ ?_
        rw [w64 (n := x * 16777216) (by omega) (by omega), w64 (n := y * 65536) (by omega) (by omega), w64 (n := z * 256) (by omega) (by omega), w64 (n := x * 16777216 + y * 65536) (by omega) (by omega), w64 (n := x * 16777216 + y * 65536 + z * 256) (by omega) (by omega), w64 (by omega) (by omega)]
        omega
      · exact Int.tmod_lt_of_pos _ (by omega)
theorem l1Once_ok (b : List Int) (i h n : Int) (hc : CurOk b i) : ∃ t i' h', spec_l1Once.f b i h n = some (t, i', h') ∧ CurOk b i' := by
  unfold spec_l1Once.f
  obtain ⟨x, i1, h1, e, hc1, _⟩ := l1Below_ok b i h n hc
  rw [e]
  exact ⟨_, _, _, rfl, hc1⟩

theorem l1PickInt_ok (b : List Int) (i h : Int) (l : List Int) (hl : 0 < l.length) (hc : CurOk b i) : ∃ x i' h', spec_l1PickInt.f b i h l = some (x, i', h') ∧ CurOk b i' ∧ x ∈ l := by
  unfold spec_l1PickInt.f
  obtain ⟨x, i1, h1, e, hc1, h0, hx, _⟩ := l1Below_ok b i h (l.length : Int) hc
  rw [e]
  simp only [Option.bind_some]
  have := hx (by omega)
  rw [if_pos h0, if_pos this]
  exact ⟨_, _, _, rfl, hc1, rd_mem h0 this⟩

theorem l5DrawSample_ok (b : List Int) (i h : Int) (hc : CurOk b i) : ∃ x i' h', spec_l5DrawSample.f b i h = some (x, i', h') ∧ CurOk b i' ∧ -1000000000 ≤ x ∧ x ≤ 1000000000 := by
  unfold spec_l5DrawSample.f
  obtain ⟨x, i1, h1, e, hc1, h0, hx, _⟩ := l1Below_ok b i h 5 hc
  rw [e]
  simp only [Option.bind_some]
  by_cases c0 : x = 0
  · rw [if_pos c0]
    obtain ⟨y, i2, h2, e, hc2, hy0, hy, _⟩ := l1Below_ok b i1 h1 21 hc1
    rw [e]
    simp only [Option.bind_some]
    have := hy (by omega)
    exact ⟨_, _, _, rfl, hc2, by rw [w64 (by omega) (by omega)]; omega, by rw [w64 (by omega) (by omega)]; omega⟩
  · rw [if_neg c0]
    have last : ∀ i1 h1, CurOk b i1 → ∃ x i' h', ((spec_l1Below.f b i1 h1 2001).bind fun t => (some (wrap64 (t.1 - 1000), t.2.1, t.2.2))) = some (x, i', h') ∧ CurOk b i' ∧ -1000000000 ≤ x ∧ x ≤ 1000000000 := by
      intro i1 h1 hc1
      obtain ⟨y, i2, h2, e, hc2, hy0, hy, _⟩ := l1Below_ok b i1 h1 2001 hc1
      rw [e]
      simp only [Option.bind_some]
      have := hy (by omega)
      exact ⟨_, _, _, rfl, hc2, by rw [w64 (by omega) (by omega)]; omega, by rw [w64 (by omega) (by omega)]; omega⟩
    by_cases c1 : x = 1
    · rw [if_pos c1]
      obtain ⟨y, i2, h2, e, hc2, hy0, hy, _⟩ := l1Below_ok b i1 h1 65536 hc1
      rw [e]
      simp only [Option.bind_some]
      have := hy (by omega)
      exact ⟨_, _, _, rfl, hc2, by rw [w64 (by omega) (by omega)]; omega, by rw [w64 (by omega) (by omega)]; omega⟩
    · rw [if_neg c1]
      by_cases c2 : x = 2
      · rw [if_pos c2]
        obtain ⟨t, i2, h2, e, hc2⟩ := l1Once_ok b i1 h1 12 hc1
        rw [e]
        simp only [Option.bind_some]
        by_cases c3 : t = true
        · rw [if_pos c3]
          obtain ⟨y, i3, h3, e, hc3, hy⟩ := l1PickInt_ok b i2 h2 [1000000000, (-1000000000), 0] (by simp) hc2
          rw [e]
          simp only [Option.bind_some]
          refine ⟨_, _, _, rfl, hc3, ?_⟩
          simp only [List.mem_cons, List.not_mem_nil, or_false] at hy
          omega
        · rw [if_neg c3]
          exact last _ _ hc2
      · rw [if_neg c2]
        exact last _ _ hc1
/-- A loop that counts down and appends what it draws. -/

theorem l1Size_eq (l : List Int) (m : Int) (hl : l.length ≤ 2000000) (hm : 2 ≤ m) : ∃ s, spec_l1Size.f l m = some s ∧ 2 ≤ s ∧ s ≤ m := by
  unfold spec_l1Size.f
  rw [w64 (n := (l.length : Int) / 20) (by omega) (by omega), w64 (by omega) (by omega)]
  by_cases h : 2 + (l.length : Int) / 20 > m
  · rw [if_pos h]
    exact ⟨m, rfl, hm, by omega⟩
  · rw [if_neg h]
    exact ⟨_, rfl, by omega, by omega⟩

theorem u64_small {n : Int} (h0 : 0 ≤ n) (h1 : n < 18446744073709551616) : IntKind.u64.wrap n = n := by
  have hs : IntKind.wrap .u64 n = (if (false && decide (n % (2 ^ 64 : Int) ≥ (2 ^ 63 : Int))) = true then n % (2 ^ 64 : Int) - (2 ^ 64 : Int) else n % (2 ^ 64 : Int)) := rfl
  have h4 : n % (2 ^ 64 : Int) = n := Int.emod_eq_of_lt h0 (by omega)
  rw [hs, h4]
  simp

theorem shl_small (x : Int) (h0 : 0 ≤ x) (h1 : x ≤ 8) : ∃ m, shl .i64 1 x = m ∧ 0 ≤ m ∧ m ≤ 256 := by
  have h : x = 0 ∨ x = 1 ∨ x = 2 ∨ x = 3 ∨ x = 4 ∨ x = 5 ∨ x = 6 ∨ x = 7 ∨ x = 8 := by omega
  rcases h with h | h | h | h | h | h | h | h | h <;> subst h <;> exact ⟨_, rfl, by decide +kernel, by decide +kernel⟩
theorem drawWalshLoop (b : List Int) (m : Int) (hm : m ≤ 1000) : ∀ (d : Nat) (s : List Int) (i h : Int), CurOk b i → m - (s.length : Int) ≤ (d : Int) → s.length ≤ 1000 →
    ∃ r, Ev (fun k => spec_DrawWalsh.l0 k s m (s.length : Int) b i h) r ∧ r.length ≤ 1000 := by
  intro d
  induction d with
  | zero =>
    intro s i h hc hd hs
    refine ⟨s, ?_, hs⟩
    rw [ev_shift]
    simp only [spec_DrawWalsh.l0]
    rw [ev_neg (by omega)]
    exact Ev.now _
  | succ d ih =>
    intro s i h hc hd hs
    by_cases c : (s.length : Int) < m
    · obtain ⟨x, i1, h1, e, hc1, _⟩ := l5DrawSample_ok b i h hc
      obtain ⟨r, er, hr⟩ := ih (s ++ [x]) i1 h1 hc1 (by simp; omega) (by simp; omega)
      have hl : ((s ++ [x]).length : Int) = (s.length : Int) + 1 := by simp
      rw [hl] at er
      refine ⟨r, ?_, hr⟩
      rw [ev_shift]
      simp only [spec_DrawWalsh.l0]
      rw [ev_pos c, e, ev_sbind]
      dsimp only
      rw [ev_pos (by omega), w64 (by omega) (by omega)]
      exact er
    · refine ⟨s, ?_, hs⟩
      rw [ev_shift]
      simp only [spec_DrawWalsh.l0]
      rw [ev_neg c]
      exact Ev.now _
theorem drawWalsh_ev (b : List Int) (hb : b.length ≤ 2000000) : ∃ r, Ev (fun k => spec_DrawWalsh.f k b) r ∧ r.length ≤ 1000 := by
  unfold spec_DrawWalsh.f
  obtain ⟨h, e1⟩ := l1New_ev b hb
  obtain ⟨s, e2, hs0, hs1⟩ := l1Size_eq b 5 hb (by omega)
  obtain ⟨x, i1, h1, e3, hc1, hx0, hx, _⟩ := l1Below_ok b 0 h (1 + s) ⟨by omega, by omega, hb⟩
  have hx' := hx (by omega)
  obtain ⟨t, i2, h2, e4, hc2⟩ := l1Once_ok b i1 h1 15 hc1
  by_cases ht : t = true
  · obtain ⟨y, i3, h3, e5, hc3, hy0, hy, _⟩ := l1Below_ok b i2 h2 9 hc2
    have := hy (by omega)
    obtain ⟨r, e6, hr⟩ := drawWalshLoop b y (by omega) 300 [] i3 h3 hc3 (by simp; omega) (by simp)
    refine ⟨r, ?_, hr⟩
    rw [ev_bind e1]
    dsimp only
    rw [ev_sbind, e2, ev_sbind, w64 (by omega) (by omega), e3, ev_sbind]
    dsimp only
    rw [u64_small hx0 (by omega), ev_pos hx0, e4, ev_sbind, ev_pos ht]
    dsimp only
    rw [e5, ev_sbind, ev_shift]
    simp only [spec_DrawWalsh.j0]
    exact e6
  · obtain ⟨m, em, hm0, hm1⟩ := shl_small x hx0 (by omega)
    obtain ⟨r, e6, hr⟩ := drawWalshLoop b m (by omega) 300 [] i2 h2 hc2 (by simp; omega) (by simp)
    refine ⟨r, ?_, hr⟩
    rw [ev_bind e1]
    dsimp only
    rw [ev_sbind, e2, ev_sbind, w64 (by omega) (by omega), e3, ev_sbind]
    dsimp only
    rw [u64_small hx0 (by omega), ev_pos hx0, e4, ev_sbind, ev_neg ht, em, ev_shift]
    simp only [spec_DrawWalsh.j0]
    exact e6

theorem big_eq (l : List Int) : laws_big.f l = some (decide ((l.length : Int) > 1048576)) := rfl

theorem sameInts_ev (a b : List Int) (h : a.length ≤ 2000000) : Ev (fun k => laws_sameInts.f k a b) (decide (a = b)) := by
  unfold laws_sameInts.f
  by_cases e : a.length = b.length
  · rw [ev_pos (by omega)]
    rw [all_iff (fun k i => laws_sameInts.l0 k a b i) (fun i => decide (rd a (i : Int) = rd b (i : Int))) a.length _ false]
    · split
      · rename_i hp
        have : a = b := list_ext_rd e fun i hi => by simpa using range_all.1 hp i hi
        rw [decide_eq_true this]
        exact Ev.step (fun k => by simp only [laws_sameInts.l0]; rw [if_neg (by omega)]) (Ev.now _)
      · rename_i hp
        have : ¬ a = b := fun h => hp (by subst h; rw [range_all]; simp)
        simp [this]
    · intro i hi
      by_cases p : rd a (i : Int) = rd b (i : Int)
      · rw [if_pos (by simpa using p)]
        rw [ev_shift]
        simp only [laws_sameInts.l0]
        rw [ev_pos (by omega), ev_pos (by omega), ev_pos (by omega), ev_pos p, w64 (by omega) (by omega)]
      · rw [if_neg (by simpa using p)]
        rw [ev_shift]
        simp only [laws_sameInts.l0]
        rw [ev_pos (by omega), ev_pos (by omega), ev_pos (by omega), ev_neg p, ev_some_iff]
  · rw [ev_neg (by omega)]
    have : ¬ a = b := fun h => e (by rw [h])
    simp only [this, decide_false]
    exact Ev.now _


theorem within_ev (l : List Int) (m : Int) (hl : l.length ≤ 2000000) (h0 : 0 ≤ m) (h1 : m ≤ 1000000000000) : Ev (fun k => impl_within.f k l m) (inB m l) := by
  unfold impl_within.f
  rw [inB_range]
  rw [all_iff (fun k i => impl_within.l0 k m l (l.length : Int) i) (fun i => decide (-m ≤ rd l (i : Int)) && decide (rd l (i : Int) ≤ m)) l.length _ false]
  · split
    · rename_i hp
      rw [hp]
      exact Ev.step (fun k => by simp only [impl_within.l0]; rw [if_neg (by omega)]) (Ev.now _)
    · rename_i hp
      simpa using hp
  · intro i hi
    by_cases p : -m ≤ rd l (i : Int) ∧ rd l (i : Int) ≤ m
    · rw [if_pos (by simpa using p)]
      rw [ev_shift]
      simp only [impl_within.l0]
      rw [ev_pos (by omega), ev_pos (by omega), ev_pos (by omega), w64 (n := -m) (by omega) (by omega), ev_neg (by omega), ev_neg (by omega), w64 (by omega) (by omega)]
    · rw [if_neg (by simpa using p)]
      rw [ev_shift]
      simp only [impl_within.l0]
      rw [ev_pos (by omega), ev_pos (by omega), ev_pos (by omega), w64 (n := -m) (by omega) (by omega)]
      by_cases q : rd l (i : Int) < -m
      · rw [ev_pos q, ev_some_iff]
      · rw [ev_neg q, ev_pos (by omega), ev_some_iff]

theorem implSig_ev (l : List Int) (hl : l.length ≤ 2000000) : Ev (fun k => impl_SignalOk.f k l) (sigB l) := by
  unfold impl_SignalOk.f
  by_cases h : (l.length : Int) ≤ 512
  · rw [ev_pos h]
    rw [ev_bind (within_ev l 1000000000 hl (by omega) (by omega)), ev_some_iff, sigB, decide_eq_true (by omega : l.length ≤ 512), Bool.true_and]
  · rw [ev_neg h]
    rw [ev_some_iff, sigB, decide_eq_false (by omega : ¬ l.length ≤ 512), Bool.false_and]

theorem band_whole : ∀ n : Fin 257, 1 ≤ n.val → ((n.val &&& (n.val - 1)) == 0) = decide (Whole n.val) := by decide +kernel
theorem implWhole_eq (n : Nat) : impl_whole.f (n : Int) = some (decide (Whole n)) := by
  unfold impl_whole.f
  by_cases h0 : (n : Int) ≥ 1
  · rw [if_pos h0]
    by_cases h1 : (n : Int) ≤ 256
    · rw [if_pos h1, w64 (by omega) (by omega)]
      have e : (n : Int) - 1 = ((n - 1 : Nat) : Int) := by omega
      rw [e, band_nat n (n - 1) (by omega) (by omega)]
      have := band_whole ⟨n, by omega⟩ (by show 1 ≤ n; omega)
      simp only at this
      rw [← this]
      congr 1
      rw [Bool.eq_iff_iff, beq_iff_eq, beq_iff_eq]
      omega
    · rw [if_neg h1, decide_eq_false (fun h => by have := whole_le h; omega)]
  · rw [if_neg h0, decide_eq_false (fun h => by have := whole_le h; omega)]


theorem ones_all : ∀ n : Fin 256, (bits_OnesCount64.f ((n.val : Nat) : Int)).map (fun t => Int.tmod t 2) = some ((par 9 n.val : Nat) : Int) := by decide +kernel
theorem ones_ev (n : Nat) (h : n < 256) : ∃ t, bits_OnesCount.f (n : Int) = some t ∧ Int.tmod t 2 = ((par 9 n : Nat) : Int) := by
  have := ones_all ⟨n, h⟩
  dsimp only at this
  unfold bits_OnesCount.f
  cases e : bits_OnesCount64.f (n : Int) with
  | none => rw [e] at this; exact absurd this (by simp)
  | some t => rw [e] at this; exact ⟨t, rfl, by simpa using this⟩
def walPart (l : List Int) (k m : Nat) : List Int := tab l.length fun j => if j < k then walN l j else if j = k then sumI (fun i => sgn (i &&& k) * rd l (i : Int)) m else 0
theorem walPart_zero (l : List Int) (k : Nat) : (tab l.length fun j => if j < k then walN l j else 0) = walPart l k 0 := by
  refine tab_congr fun j _ => ?_
  by_cases c : j < k
  · rw [if_pos c, if_pos c]
  · rw [if_neg c, if_neg c]
    split <;> rfl
theorem walPart_all (l : List Int) (k : Nat) : walPart l k l.length = tab l.length fun j => if j < k + 1 then walN l j else 0 := by
  refine tab_congr fun j _ => ?_
  by_cases c : j < k
  · rw [if_pos c, if_pos (by omega)]
  · rw [if_neg c]
    by_cases d : j = k
    · rw [if_pos d, if_pos (by omega), d]; rfl
    · rw [if_neg d, if_neg (by omega)]
theorem walPart_set (l : List Int) (k m : Nat) (hk : k < l.length) (v : Int) (hv : v = sumI (fun i => sgn (i &&& k) * rd l (i : Int)) (m + 1)) : (walPart l k m).set k v = walPart l k (m + 1) := by
  unfold walPart
  rw [set_tab _ _ hk]
  refine tab_congr fun j _ => ?_
  by_cases d : j = k
  · subst d
    rw [if_pos rfl, if_neg (by omega), if_pos rfl, hv]
  · rw [if_neg d]
    by_cases c : j < k
    · rw [if_pos c, if_pos c]
    · rw [if_neg c, if_neg c, if_neg d, if_neg d]
theorem walInner (l : List Int) (k : Nat) (hs : sigB l = true) (hl : l.length ≤ 256) (hk : k < l.length) (r : List Int × Bool) :
    Ev (fun f => impl_Walsh.l1 f l (walPart l k 0) (k : Int) (l.length : Int) (k : Int) l (l.length : Int) 0) r ↔
    Ev (fun f => impl_Walsh.l0 f l (walPart l k l.length) (l.length : Int) ((k : Int) + 1)) r := by
  have g := for_iff (fun f s i => impl_Walsh.l1 f l s (k : Int) (l.length : Int) (k : Int) l (l.length : Int) i) (fun i _ => walPart l k (i + 1)) (fun i s => s = walPart l k i) l.length r ?_ (walPart l k 0) rfl
  · rw [g.2, g.1, ev_shift]
    simp only [impl_Walsh.l1]
    rw [ev_neg (by omega), w64 (by omega) (by omega)]
  · intro i s hi he
    subst he
    refine ⟨rfl, ?_⟩
    have hand : i &&& k < 256 := Nat.lt_of_le_of_lt Nat.and_le_left (by omega)
    obtain ⟨t, et, e2⟩ := ones_ev (i &&& k) hand
    have pb := part_bound l hs k i (by omega)
    have sb := step_bound l hs k i
    have rb : rd (walPart l k i) (k : Int) = sumI (fun i => sgn (i &&& k) * rd l (i : Int)) i := by
      unfold walPart
      rw [rd_tab' hk, if_neg (by omega), if_pos rfl]
    have hx := inB_rd (sigB_iff.1 hs).2 (by omega) (i : Int)
    have hlen : (walPart l k i).length = l.length := by simp [walPart]
    rw [ev_shift]
    simp only [impl_Walsh.l1]
    rw [ev_pos (by omega), ev_pos (by omega), ev_pos (by omega), band_nat i k (by omega) (by omega), u64_small (by omega) (by omega), et, ev_sbind, e2, rb, hlen, Int.toNat_natCast, w64 (n := (i : Int) + 1) (by omega) (by omega)]
    by_cases c : par 9 (i &&& k) = 1
    · have sg : sgn (i &&& k) * rd l (i : Int) = - rd l (i : Int) := by unfold sgn; rw [if_pos c]; omega
      rw [sg] at sb
      rw [ev_pos (by omega), ev_pos (by omega), ev_pos (by omega), w64 (n := - rd l (i : Int)) (by omega) (by omega), w64 (by omega) (by omega), walPart_set l k i hk _ (by rw [sumI_succ, sg])]
    · have sg : sgn (i &&& k) * rd l (i : Int) = rd l (i : Int) := by unfold sgn; rw [if_neg c]; omega
      rw [ev_neg (by omega), ev_pos (by omega), ev_pos (by omega), w64 (by omega) (by omega), walPart_set l k i hk _ (by rw [sumI_succ, sg])]
theorem implWalsh_ev (l : List Int) (hl : l.length ≤ 2000000) : Ev (fun k => impl_Walsh.f k l) (walR l (Whole l.length)) := by
  unfold impl_Walsh.f walR
  rw [ev_bind (implSig_ev l hl)]
  by_cases hs : sigB l = true
  · rw [ev_pos hs, implWhole_eq, ev_sbind]
    by_cases hw : Whole l.length
    · have hle := (whole_le hw).2
      rw [if_pos ⟨hs, hw⟩, decide_eq_true hw, ev_shift]
      simp only [impl_Walsh.j0, Bool.not_true, Bool.false_eq_true, if_false]
      rw [ev_pos (by omega), Int.toNat_natCast, ev_pos (by omega), ev_sbind]
      have g := for_iff (fun f s i => impl_Walsh.l0 f l s (l.length : Int) i) (fun i _ => tab l.length fun j => if j < i + 1 then walN l j else 0) (fun i s => s = tab l.length fun j => if j < i then walN l j else 0) l.length (walV l, true) ?_ (List.replicate l.length 0) ?_
      · rw [List.length_replicate, g.2, g.1, ev_shift]
        simp only [impl_Walsh.l0]
        rw [ev_neg (by omega)]
        refine ev_some ?_
        congr 1
        exact tab_congr fun j hj => if_pos hj
      · intro i s hi he
        subst he
        refine ⟨rfl, ?_⟩
        rw [ev_shift]
        simp only [impl_Walsh.l0]
        rw [ev_pos (by omega), walPart_zero, walInner l i hs hle hi, walPart_all]
      · refine eq_tab (by simp) fun i hi => ?_
        rw [rd_replicate, if_neg (by omega)]
    · rw [if_neg (fun h => hw h.2), decide_eq_false hw, ev_shift]
      simp only [impl_Walsh.j0, Bool.not_false, if_true]
      exact Ev.now _
  · rw [ev_neg hs, if_neg (fun h => hs h.1), ev_shift]
    simp only [impl_Walsh.j0, if_true]
    exact Ev.now _

theorem l1In_eq (a b c : Int) : spec_l1In.f a b c = some (decide (b ≤ a ∧ a ≤ c)) := by
  unfold spec_l1In.f
  by_cases h : a ≥ b
  · rw [if_pos h]
    congr 1
    rw [decide_eq_decide]
    omega
  · rw [if_neg h]
    congr 1
    symm
    rw [decide_eq_false_iff_not]
    omega

theorem l5Sample_eq (a : Int) : spec_l5Sample.f a = some (decide (-1000000000 ≤ a ∧ a ≤ 1000000000)) := by
  unfold spec_l5Sample.f
  rw [l1In_eq]
  rfl
theorem specSig_ev (l : List Int) (hl : l.length ≤ 2000000) : Ev (fun k => spec_SignalOk.f k l) (sigB l) := by
  unfold spec_SignalOk.f
  rw [sigB, inB_range]
  rw [all_iff (fun k i => spec_SignalOk.l0 k l i) (fun i => decide (-1000000000 ≤ rd l (i : Int)) && decide (rd l (i : Int) ≤ 1000000000)) l.length _ false]
  · split
    · rename_i hp
      rw [hp, Bool.and_true]
      exact Ev.step (f := fun _ => some (decide (l.length ≤ 512))) (fun k => by simp only [spec_SignalOk.l0]; rw [if_neg (by omega)]; congr 1; rw [decide_eq_decide]; omega) (Ev.now _)
    · rename_i hp
      simp only [Bool.not_eq_true] at hp
      rw [hp, Bool.and_false]
  · intro i hi
    by_cases p : -1000000000 ≤ rd l (i : Int) ∧ rd l (i : Int) ≤ 1000000000
    · rw [if_pos (by simpa using p)]
      rw [ev_shift]
      simp only [spec_SignalOk.l0]
      rw [ev_pos (by omega), ev_pos (by omega), l5Sample_eq]
      simp only [Option.bind_some]
      rw [ev_pos (by simpa using p), w64 (by omega) (by omega)]
    · rw [if_neg (by simpa using p)]
      rw [ev_shift]
      simp only [spec_SignalOk.l0]
      rw [ev_pos (by omega), ev_pos (by omega), l5Sample_eq]
      simp only [Option.bind_some]
      rw [ev_neg (by simpa using p), ev_some_iff]

theorem specWholeN_ev (n : Nat) : Ev (fun k => spec_l6Whole.f k (n : Int)) (decide (Whole n)) := by
  unfold spec_l6Whole.f
  have step : ∀ (w : Int) (b : Bool), 1 ≤ w → w ≤ 256 → (Ev (fun k => spec_l6Whole.l0 k (n : Int) w) b ↔ (if (n : Int) = w then true = b else Ev (fun k => spec_l6Whole.l0 k (n : Int) (2 * w)) b)) := by
    intro w b h0 h1
    rw [ev_shift]
    simp only [spec_l6Whole.l0]
    rw [ev_pos h1, w64 (by omega) (by omega)]
    by_cases c : (n : Int) = w
    · rw [ev_pos c, if_pos c, ev_some_iff]
    · rw [ev_neg c, if_neg c]
  by_cases h : Whole n
  · rw [decide_eq_true h]
    rcases h with h | h | h | h | h | h | h | h | h <;> subst h <;> (repeat (first | (rw [step _ _ (by omega) (by omega)]) | (rw [if_neg (by omega)]) | (rw [if_pos (by omega)])))
  · rw [decide_eq_false h]
    unfold Whole at h
    rw [step 1 _ (by omega) (by omega), if_neg (by omega), step _ _ (by omega) (by omega), if_neg (by omega), step _ _ (by omega) (by omega), if_neg (by omega), step _ _ (by omega) (by omega), if_neg (by omega), step _ _ (by omega) (by omega), if_neg (by omega), step _ _ (by omega) (by omega), if_neg (by omega), step _ _ (by omega) (by omega), if_neg (by omega), step _ _ (by omega) (by omega), if_neg (by omega), step _ _ (by omega) (by omega), if_neg (by omega), ev_shift]
    simp only [spec_l6Whole.l0]
    rw [ev_neg (by omega)]
    exact Ev.now _

theorem specParity (l s : List Int) (k i : Nat) (sum : Int) (r : List Int × Bool) : ∀ (f m : Nat) (b : Bool), m < 2 ^ f → m < 1000 →
    (Ev (fun q => spec_Walsh.l2 q l s (k : Int) sum (i : Int) b (m : Int)) r ↔ Ev (fun q => spec_Walsh.l2 q l s (k : Int) sum (i : Int) (b != (par f m == 1)) 0) r) := by
  intro f
  induction f with
  | zero =>
    intro m b h _
    have : m = 0 := by omega
    subst this
    have e : (b != (par 0 0 == 1)) = b := by cases b <;> rfl
    rw [e]
    exact Iff.rfl
  | succ f ih =>
    intro m b h hm
    rw [Nat.pow_succ] at h
    by_cases c : m = 0
    · subst c
      have z : par (f + 1) 0 = 0 := by
        have : ∀ f, par f 0 = 0 := by
          intro f
          induction f with
          | zero => rfl
          | succ f ih => simp [par, ih]
        exact this _
      rw [z]
      have e : (b != ((0 : Nat) == 1)) = b := by cases b <;> rfl
      rw [e]
      exact Iff.rfl
    · have e2 : Int.tdiv (m : Int) 2 = ((m / 2 : Nat) : Int) := (Int.ofNat_tdiv m 2).symm
      have e3 : Int.tmod (m : Int) 2 = ((m % 2 : Nat) : Int) := (Int.ofNat_tmod m 2).symm
      rw [ev_shift]
      simp only [spec_Walsh.l2]
      rw [ev_pos (by omega), e2, e3, w64 (by omega) (by omega), ih (m / 2) _ (by omega) (by omega)]
      have key : ((b != (((m % 2 : Nat) : Int) == 1)) != (par f (m / 2) == 1)) = (b != (par (f + 1) m == 1)) := by
        simp only [par]
        rcases par_two f (m / 2) with x | x <;> rcases Nat.mod_two_eq_zero_or_one m with y | y <;> rw [x, y] <;> cases b <;> rfl
      rw [key]
theorem specInner (l s : List Int) (k : Nat) (hs : sigB l = true) (hl : l.length ≤ 256) (hk : k < l.length) (hsl : s.length ≤ 1000) (r : List Int × Bool) :
    Ev (fun q => spec_Walsh.l1 q l s (k : Int) 0 0) r ↔ Ev (fun q => spec_Walsh.l0 q l (s ++ [walN l k]) ((k : Int) + 1)) r := by
  have g := for_iff (fun q c i => spec_Walsh.l1 q l s (k : Int) c i) (fun i _ => sumI (fun i => sgn (i &&& k) * rd l (i : Int)) (i + 1)) (fun i c => c = sumI (fun i => sgn (i &&& k) * rd l (i : Int)) i) l.length r ?_ 0 rfl
  · rw [g.2, g.1, ev_shift]
    simp only [spec_Walsh.l1]
    rw [ev_neg (by omega), ev_pos (by omega), w64 (by omega) (by omega)]
    exact Iff.rfl
  · intro i c hi he
    subst he
    refine ⟨rfl, ?_⟩
    have hand : i &&& k < 256 := Nat.lt_of_le_of_lt Nat.and_le_left (by omega)
    have pb := part_bound l hs k i (by omega)
    have sb := step_bound l hs k i
    rw [ev_shift]
    simp only [spec_Walsh.l1]
    rw [ev_pos (by omega), band_nat i k (by omega) (by omega), specParity l s k i _ r 9 (i &&& k) false (by omega) (by omega), ev_shift]
    simp only [spec_Walsh.l2]
    rw [ev_neg (by omega), sumI_succ, w64 (n := (i : Int) + 1) (by omega) (by omega)]
    by_cases c : par 9 (i &&& k) = 1
    · have sg : sgn (i &&& k) * rd l (i : Int) = - rd l (i : Int) := by unfold sgn; rw [if_pos c]; omega
      rw [sg] at sb
      rw [ev_pos (by rw [c]; rfl), ev_pos (by omega), ev_pos (by omega), sg, w64 (by omega) (by omega), Int.sub_eq_add_neg]
    · have sg : sgn (i &&& k) * rd l (i : Int) = rd l (i : Int) := by unfold sgn; rw [if_neg c]; omega
      rw [sg] at sb
      have z : par 9 (i &&& k) = 0 := by rcases par_two 9 (i &&& k) with h | h <;> omega
      rw [ev_neg (by rw [z]; decide), ev_pos (by omega), ev_pos (by omega), sg, w64 (by omega) (by omega)]
theorem specWalsh_ev (l : List Int) (hl : l.length ≤ 2000000) : Ev (fun k => spec_Walsh.f k l) (walR l (Whole l.length)) := by
  unfold spec_Walsh.f walR
  rw [ev_bind (specSig_ev l hl)]
  by_cases hs : sigB l = true
  · rw [ev_pos hs, ev_bind (specWholeN_ev l.length)]
    by_cases hw : Whole l.length
    · have hle := (whole_le hw).2
      rw [if_pos ⟨hs, hw⟩, decide_eq_true hw, ev_shift]
      simp only [spec_Walsh.j0, Bool.not_true, Bool.false_eq_true, if_false]
      have g := for_iff (fun q s i => spec_Walsh.l0 q l s i) (fun i _ => tab (i + 1) fun j => walN l j) (fun i s => s = tab i fun j => walN l j) l.length (walV l, true) ?_ [] rfl
      · rw [g.2, g.1, ev_shift]
        simp only [spec_Walsh.l0]
        rw [ev_neg (by omega)]
        exact Ev.now _
      · intro i s hi he
        subst he
        refine ⟨rfl, ?_⟩
        rw [ev_shift]
        simp only [spec_Walsh.l0]
        rw [ev_pos (by omega), specInner l _ i hs hle hi (by simp; omega), tab_succ]
    · rw [if_neg (fun h => hw h.2), decide_eq_false hw, ev_shift]
      simp only [spec_Walsh.j0, Bool.not_false, if_true]
      exact Ev.now _
  · rw [ev_neg hs, if_neg (fun h => hs h.1), ev_shift]
    simp only [spec_Walsh.j0, if_true]
    exact Ev.now _

theorem wal_small : walR [1, 2] (Whole [(1 : Int), 2].length) = ([3, -1], true) := by
  unfold walR
  rw [if_pos (by decide)]
  decide +kernel
theorem FnWalshTwice : laws_FnWalshTwice.Pure := by
  intro l0 _ _ _
  refine Ev.rounds (g := fun k => laws_FnWalshTwice.f k l0) ?_
  simp only [laws_FnWalshTwice.f]
  rw [big_eq, ev_sbind]
  by_cases hlen : (l0.length : Int) > 1048576
  · rw [ev_pos (by simpa using hlen)]
    exact Ev.now _
  rw [ev_neg (by simpa using hlen)]
  obtain ⟨l, hd, hl⟩ := drawWalsh_ev l0 (by omega)
  rw [ev_bind hd, ev_bind (implWalsh_ev l (by omega)), ev_bind (specWalsh_ev l (by omega))]
  have hRl := walR_length l (Whole l.length) (by omega)
  rw [ev_neg (by simp), ev_bind (specSig_ev _ hRl)]
  have other : Ev (fun k => laws_FnWalshTwice.j0 k l (walR l (Whole l.length)).1 true) true := by
    rw [ev_shift]
    simp only [laws_FnWalshTwice.j0, if_true]
    rw [ev_bind (implWalsh_ev [1, 2] (by simp)), wal_small]
    dsimp only
    rw [ev_pos rfl, ev_bind (sameInts_ev [3, -1] [3, -1] (by simp)), decide_eq_true rfl]
    exact Ev.now _
  by_cases h : sigB l = true ∧ Whole l.length
  · have hR : walR l (Whole l.length) = (walV l, true) := by
      unfold walR
      rw [if_pos h]
    rw [hR] at other ⊢
    dsimp only at other ⊢
    by_cases hs : sigB (walV l) = true
    · rw [ev_pos hs, ev_shift]
      simp only [laws_FnWalshTwice.j0, Bool.not_true, Bool.false_eq_true, if_false]
      rw [ev_bind (implWalsh_ev (walV l) (walV_le l (by omega)))]
      have hR2 : walR (walV l) (Whole (walV l).length) = (walV (walV l), true) := by
        unfold walR
        rw [if_pos ⟨hs, by rw [walV_length]; exact h.2⟩]
      rw [hR2]
      dsimp only
      obtain ⟨m, hm, e⟩ := whole_pow h.2
      have hle := (whole_le h.2).2
      have hlen2 : (walV (walV l)).length = l.length := by rw [walV_length, walV_length]
      have g := for_iff (fun q (_ : Unit) i => laws_FnWalshTwice.l0 q l (walV (walV l)) true i) (fun _ s => s) (fun _ _ => True) l.length true ?_ () trivial
      · rw [g.2, ev_shift]
        simp only [laws_FnWalshTwice.l0]
        rw [ev_neg (by omega), ev_shift]
        simp only [laws_FnWalshTwice.j2, Bool.false_eq_true, if_false]
        exact Ev.now _
      · intro i _ hi _
        refine ⟨trivial, ?_⟩
        have hx := inB_rd (sigB_iff.1 h.1).2 (by omega) (i : Int)
        have hb : -(1000000000 * 256) ≤ rd l (i : Int) * (l.length : Int) ∧ rd l (i : Int) * (l.length : Int) ≤ 1000000000 * 256 := by
          have a := Int.mul_le_mul_of_nonneg_right hx.1 (by omega : (0 : Int) ≤ (l.length : Int))
          have b := Int.mul_le_mul_of_nonneg_right hx.2 (by omega : (0 : Int) ≤ (l.length : Int))
          omega
        have key : rd (walV (walV l)) (i : Int) = rd l (i : Int) * (l.length : Int) := by
          have : rd (walV (walV l)) (i : Int) = walN (walV l) i := by
            unfold walV
            rw [rd_tab' (by simp; omega)]
          rw [this, wal_twice l m hm e i hi, Int.mul_comm]
        rw [ev_shift]
        simp only [laws_FnWalshTwice.l0]
        rw [ev_pos (by omega), ev_shift]
        simp only [laws_FnWalshTwice.j2, if_true]
        rw [ev_pos (by omega), ev_pos (by omega), ev_pos (by omega), ev_pos (by omega), w64 (n := rd l (i : Int) * (l.length : Int)) (by omega) (by omega), ev_pos key, w64 (by omega) (by omega)]
    · rw [ev_neg hs]
      exact other
  · have hR : walR l (Whole l.length) = ([], false) := by
      unfold walR
      rw [if_neg h]
    rw [hR] at other ⊢
    dsimp only at other ⊢
    by_cases hs : sigB [] = true
    · rw [ev_pos hs]
      exact other
    · rw [ev_neg hs]
      exact other

end Go.Proofs.Ytilcnbommpncgaa.Pure
