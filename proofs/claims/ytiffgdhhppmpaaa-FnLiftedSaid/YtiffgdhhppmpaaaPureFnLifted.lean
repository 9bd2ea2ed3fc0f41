/- The pure part of FnLifted: a signal comes back from what it is lifted to, by each kind, once and over any levels. No conditions. -/
import Derived.Test.YtiffgdhhppmpaaaQFnLiftedx11
import Derived.Test.YtiffgdhhppmpaaaBase
namespace Go.Proofs.Ytiffgdhhppmpaaa.Pure
open Go.RowKit Go.Proofs.Ytiffgdhhppmpaaa.QFnLifted Go.Proofs.YtiffgdhhppmpaaaW.PrintWords Go.Proofs.YtiffgdhhppmpaaaW.PrintLast
open Go.Proofs.Ytiffgdhhppmpaaa.Base
set_option linter.unusedVariables false
set_option linter.unusedSimpArgs false
/-! ### the cursor of a draw -/
def CurOk (b : List Int) (i : Int) : Prop := 0 ≤ i ∧ i ≤ (b.length : Int) ∧ b.length ≤ 2000000
theorem l1New_ev (b : List Int) (hb : b.length ≤ 2000000) : ∃ h, Ev (fun k => spec_l1New.f k b) (b, 0, h) := by
  unfold spec_l1New.f
  refine ⟨iter (fun i h => Go.bits .and .i64 (wrap64 ((wrap64 ((wrap64 (h * 131)) + (wrap64 (rd b (i : Int))))) + 7)) 1073741823) (min b.length 4000) (wrap64 (71933 + (b.length : Int))), ?_⟩
  rw [(for_iff (fun k h i => spec_l1New.l0 k b h i) (fun i h => Go.bits .and .i64 (wrap64 ((wrap64 ((wrap64 (h * 131)) + (wrap64 (rd b (i : Int))))) + 7)) 1073741823) (fun _ _ => True) (min b.length 4000) _ ?_ _ trivial).2]
  · rw [ev_shift]
    simp only [spec_l1New.l0]
    by_cases h : ((min b.length 4000 : Nat) : Int) < (b.length : Int)
    · rw [ev_pos h, ev_neg (by omega)]
      exact Ev.now _
    · rw [ev_neg h]
      exact Ev.now _
  · intro i s hi _
    refine ⟨trivial, ?_⟩
    rw [ev_shift]
    simp only [spec_l1New.l0]
    rw [ev_pos (by omega), ev_pos (by omega), ev_pos (by omega), w64 (n := (i : Int) + 1) (by omega) (by omega)]
theorem l1Byte_ok (b : List Int) (i h : Int) (hc : CurOk b i) : ∃ x i' h', spec_l1Byte.f b i h = some (x, i', h') ∧ CurOk b i' ∧ 0 ≤ x ∧ x ≤ 255 := by
  obtain ⟨h0, h1, h2⟩ := hc
  unfold spec_l1Byte.f
  by_cases c : i < (b.length : Int)
  · rw [if_pos c, if_pos h0]
    have := band_range
    refine ⟨_, _, _, rfl, ⟨?_, ?_, h2⟩, (band_range _ 255 (by omega) (by omega)).1, (band_range _ 255 (by omega) (by omega)).2⟩
    · rw [w64 (by omega) (by omega)]; omega
    · rw [w64 (by omega) (by omega)]; omega
  · rw [if_neg c]
    exact ⟨_, _, _, rfl, ⟨h0, h1, h2⟩, (band_range _ 255 (by omega) (by omega)).1, (band_range _ 255 (by omega) (by omega)).2⟩
theorem l1Below_ok (b : List Int) (i h n : Int) (hc : CurOk b i) : ∃ x i' h', spec_l1Below.f b i h n = some (x, i', h') ∧ CurOk b i' ∧ 0 ≤ x ∧ (0 < n → x < n) ∧ (n ≤ 0 → x = 0) := by
  unfold spec_l1Below.f
  by_cases c : n ≤ 0
  · rw [if_pos c]
    exact ⟨_, _, _, rfl, hc, by omega, by omega, fun _ => rfl⟩
  · rw [if_neg c]
    by_cases d : n ≤ 256
    · rw [if_pos d]
      obtain ⟨x, i1, h1, e, hc1, hx0, hx1⟩ := l1Byte_ok b i h hc
      rw [e]
      simp only [Option.bind_some]
      rw [if_neg (by omega)]
      refine ⟨_, _, _, rfl, hc1, ?_, fun _ => ?_, fun h => absurd h c⟩
      · exact Int.tmod_nonneg _ hx0
      · exact Int.tmod_lt_of_pos _ (by omega)
    · rw [if_neg d]
      obtain ⟨x, i1, h1, e, hc1, hx0, hx1⟩ := l1Byte_ok b i h hc
      rw [e]
      simp only [Option.bind_some]
      obtain ⟨y, i2, h2, e, hc2, hy0, hy1⟩ := l1Byte_ok b i1 h1 hc1
      rw [e]
      simp only [Option.bind_some]
      obtain ⟨z, i3, h3, e, hc3, hz0, hz1⟩ := l1Byte_ok b i2 h2 hc2
      rw [e]
      simp only [Option.bind_some]
      obtain ⟨w, i4, h4, e, hc4, hw0, hw1⟩ := l1Byte_ok b i3 h3 hc3
      rw [e]
      simp only [Option.bind_some]
      rw [if_neg (by omega)]
      refine ⟨_, _, _, rfl, hc4, ?_, fun _ => ?_, fun h => absurd h c⟩
      · refine Int.tmod_nonneg _ ?_
        rw [w64 (n := x * 16777216) (by omega) (by omega), w64 (n := y * 65536) (by omega) (by omega), w64 (n := z * 256) (by omega) (by omega), w64 (n := x * 16777216 + y * 65536) (by omega) (by omega), w64 (n := x * 16777216 + y * 65536 + z * 256) (by omega) (by omega), w64 (by omega) (by omega)]
        omega
      · exact Int.tmod_lt_of_pos _ (by omega)
theorem l1Once_ok (b : List Int) (i h n : Int) (hc : CurOk b i) : ∃ t i' h', spec_l1Once.f b i h n = some (t, i', h') ∧ CurOk b i' := by
  unfold spec_l1Once.f
  obtain ⟨x, i1, h1, e, hc1, _⟩ := l1Below_ok b i h n hc
  rw [e]
  exact ⟨_, _, _, rfl, hc1⟩

theorem l1PickInt_ok (b : List Int) (i h : Int) (l : List Int) (hl : 0 < l.length) (hc : CurOk b i) : ∃ x i' h', spec_l1PickInt.f b i h l = some (x, i', h') ∧ CurOk b i' ∧ x ∈ l := by
  unfold spec_l1PickInt.f
  obtain ⟨x, i1, h1, e, hc1, h0, hx, _⟩ := l1Below_ok b i h (l.length : Int) hc
  rw [e]
  simp only [Option.bind_some]
  have := hx (by omega)
  rw [if_pos h0, if_pos this]
  exact ⟨_, _, _, rfl, hc1, rd_mem h0 this⟩

theorem l1Size_eq (l : List Int) (m : Int) (hl : l.length ≤ 2000000) (hm : 2 ≤ m) : ∃ s, spec_l1Size.f l m = some s ∧ 2 ≤ s ∧ s ≤ m := by
  unfold spec_l1Size.f
  rw [w64 (n := (l.length : Int) / 20) (by omega) (by omega), w64 (by omega) (by omega)]
  by_cases h : 2 + (l.length : Int) / 20 > m
  · rw [if_pos h]
    exact ⟨m, rfl, hm, by omega⟩
  · rw [if_neg h]
    exact ⟨_, rfl, by omega, by omega⟩

theorem l5DrawSample_ok (b : List Int) (i h : Int) (hc : CurOk b i) : ∃ x i' h', spec_l5DrawSample.f b i h = some (x, i', h') ∧ CurOk b i' ∧ -1000000000 ≤ x ∧ x ≤ 1000000000 := by
  unfold spec_l5DrawSample.f
  obtain ⟨x, i1, h1, e, hc1, h0, hx, _⟩ := l1Below_ok b i h 5 hc
  rw [e]
  simp only [Option.bind_some]
  by_cases c0 : x = 0
  · rw [if_pos c0]
    obtain ⟨y, i2, h2, e, hc2, hy0, hy, _⟩ := l1Below_ok b i1 h1 21 hc1
    rw [e]
    simp only [Option.bind_some]
    have := hy (by omega)
    exact ⟨_, _, _, rfl, hc2, by rw [w64 (by omega) (by omega)]; omega, by rw [w64 (by omega) (by omega)]; omega⟩
  · rw [if_neg c0]
    have last : ∀ i1 h1, CurOk b i1 → ∃ x i' h', ((spec_l1Below.f b i1 h1 2001).bind fun t => (some (wrap64 (t.1 - 1000), t.2.1, t.2.2))) = some (x, i', h') ∧ CurOk b i' ∧ -1000000000 ≤ x ∧ x ≤ 1000000000 := by
      intro i1 h1 hc1
      obtain ⟨y, i2, h2, e, hc2, hy0, hy, _⟩ := l1Below_ok b i1 h1 2001 hc1
      rw [e]
      simp only [Option.bind_some]
      have := hy (by omega)
      exact ⟨_, _, _, rfl, hc2, by rw [w64 (by omega) (by omega)]; omega, by rw [w64 (by omega) (by omega)]; omega⟩
    by_cases c1 : x = 1
    · rw [if_pos c1]
      obtain ⟨y, i2, h2, e, hc2, hy0, hy, _⟩ := l1Below_ok b i1 h1 65536 hc1
      rw [e]
      simp only [Option.bind_some]
      have := hy (by omega)
      exact ⟨_, _, _, rfl, hc2, by rw [w64 (by omega) (by omega)]; omega, by rw [w64 (by omega) (by omega)]; omega⟩
    · rw [if_neg c1]
      by_cases c2 : x = 2
      · rw [if_pos c2]
        obtain ⟨t, i2, h2, e, hc2⟩ := l1Once_ok b i1 h1 12 hc1
        rw [e]
        simp only [Option.bind_some]
        by_cases c3 : t = true
        · rw [if_pos c3]
          obtain ⟨y, i3, h3, e, hc3, hy⟩ := l1PickInt_ok b i2 h2 [1000000000, (-1000000000), 0] (by simp) hc2
          rw [e]
          simp only [Option.bind_some]
          refine ⟨_, _, _, rfl, hc3, ?_⟩
          simp only [List.mem_cons, List.not_mem_nil, or_false] at hy
          omega
        · rw [if_neg c3]
          exact last _ _ hc2
      · rw [if_neg c2]
        exact last _ _ hc1
/-- A loop that counts down and appends what it draws. -/
theorem l5DrawLoop (b : List Int) : ∀ (n : Nat) (s : List Int) (i h : Int), CurOk b i → s.length + n ≤ 1000000 → (∀ x ∈ s, -1000000000 ≤ x ∧ x ≤ 1000000000) →
    ∃ r i' h', Ev (fun k => spec_l5Draw.l0 k s (n : Int) b i h) (r, i', h') ∧ CurOk b i' ∧ r.length ≤ s.length + n ∧ (∀ x ∈ r, -1000000000 ≤ x ∧ x ≤ 1000000000) := by
  intro n
  induction n with
  | zero =>
    intro s i h hc _ hs
    refine ⟨s, i, h, ?_, hc, by omega, hs⟩
    rw [ev_shift]
    simp only [spec_l5Draw.l0]
    rw [ev_neg (by omega)]
    exact Ev.now _
  | succ n ih =>
    intro s i h hc hn hs
    obtain ⟨x, i1, h1, e, hc1, hx⟩ := l5DrawSample_ok b i h hc
    · obtain ⟨r, i2, h2, e2, hc2, hr, hr2⟩ := ih (s ++ [x]) i1 h1 hc1 (by simp; omega) (by
        intro y hy
        rw [List.mem_append, List.mem_singleton] at hy
        rcases hy with hy | hy
        · exact hs y hy
        · subst hy
          exact hx)
      refine ⟨r, i2, h2, ?_, hc2, by simp at hr; omega, hr2⟩
      rw [ev_shift]
      simp only [spec_l5Draw.l0, e, Option.bind_some]
      rw [ev_pos (by omega), ev_pos (by omega), w64 (by omega) (by omega)]
      have e3 : ((n + 1 : Nat) : Int) - 1 = (n : Int) := by omega
      rw [e3]
      exact e2
theorem l5Draw_ev (b : List Int) (i h m : Int) (hc : CurOk b i) (h0 : 0 ≤ m) (h1 : m ≤ 1000) :
    ∃ r i' h', Ev (fun k => spec_l5Draw.f k b i h m) (r, i', h') ∧ CurOk b i' ∧ (r.length : Int) ≤ m ∧ (∀ x ∈ r, -1000000000 ≤ x ∧ x ≤ 1000000000) := by
  unfold spec_l5Draw.f
  rw [w64 (by omega) (by omega)]
  obtain ⟨x, i1, h1', e, hc1, hx0, hx, _⟩ := l1Below_ok b i h (m + 1) hc
  rw [e]
  simp only [Option.bind_some]
  have := hx (by omega)
  obtain ⟨r, i2, h2, e2, hc2, hr, hr2⟩ := l5DrawLoop b x.toNat [] i1 h1' hc1 (by simp; omega) (by simp)
  rw [Int.toNat_of_nonneg hx0] at e2
  exact ⟨r, i2, h2, e2, hc2, by simp at hr; omega, hr2⟩
theorem l5DrawAny_ev (b : List Int) (i h m : Int) (hc : CurOk b i) (h0 : 0 ≤ m) (h1 : m ≤ 1000) :
    ∃ r i' h', Ev (fun k => spec_l5DrawAny.f k b i h m) (r, i', h') ∧ CurOk b i' ∧ r.length ≤ 2000 ∧ (∀ x ∈ r, -1000000001 ≤ x ∧ x ≤ 1000000001) := by
  unfold spec_l5DrawAny.f
  obtain ⟨r, i1, h1', e, hc1, hr, hr2⟩ := l5Draw_ev b i h m hc h0 h1
  have tail : ∀ (s : List Int) (i h : Int), CurOk b i → s.length ≤ 2000 → (∀ x ∈ s, -1000000001 ≤ x ∧ x ≤ 1000000001) →
      ∃ r i' h', Ev (fun k => spec_l5DrawAny.j0 k s b i h) (r, i', h') ∧ CurOk b i' ∧ r.length ≤ 2000 ∧ (∀ x ∈ r, -1000000001 ≤ x ∧ x ≤ 1000000001) := by
    intro s i h hc hs hs2
    obtain ⟨t, i2, h2, e, hc2⟩ := l1Once_ok b i h 80 hc
    by_cases ht : t = true
    · obtain ⟨x, i3, h3, e3, hc3, hx0, hx, _⟩ := l1Below_ok b i2 h2 2 hc2
      have := hx (by omega)
      refine ⟨List.replicate (512 + x).toNat 0, i3, h3, ?_, hc3, by simp; omega, ?_⟩
      · rw [ev_shift]
        simp only [spec_l5DrawAny.j0, e, Option.bind_some]
        rw [ev_pos ht]
        simp only [e3, Option.bind_some]
        rw [w64 (by omega) (by omega), ev_pos (by omega), ev_pos (by omega)]
        exact Ev.now _
      · intro y hy
        rw [List.mem_replicate] at hy
        omega
    · refine ⟨s, i2, h2, ?_, hc2, hs, hs2⟩
      rw [ev_shift]
      simp only [spec_l5DrawAny.j0, e, Option.bind_some]
      rw [ev_neg ht]
      exact Ev.now _
  obtain ⟨t, i2, h2, e2, hc2⟩ := l1Once_ok b i1 h1' 25 hc1
  have hr3 : ∀ x ∈ r, -1000000001 ≤ x ∧ x ≤ 1000000001 := fun x hx => by have := hr2 x hx; omega
  by_cases ht : t = true
  · obtain ⟨x, i3, h3, e3, hc3, hx⟩ := l1PickInt_ok b i2 h2 [1000000001, (-1000000001)] (by simp) hc2
    simp only [List.mem_cons, List.not_mem_nil, or_false] at hx
    obtain ⟨q, i4, h4, e4, hc4, hq⟩ := tail (r ++ [x]) i3 h3 hc3 (by simp; omega) (by
      intro y hy
      rw [List.mem_append, List.mem_singleton] at hy
      rcases hy with hy | hy
      · exact hr3 y hy
      · omega)
    refine ⟨q, i4, h4, ?_, hc4, hq⟩
    rw [ev_bind e]
    simp only [e2, Option.bind_some]
    rw [ev_pos ht]
    simp only [e3, Option.bind_some]
    rw [ev_pos (by omega)]
    exact e4
  · obtain ⟨q, i4, h4, e4, hc4, hq⟩ := tail r i2 h2 hc2 (by omega) hr3
    refine ⟨q, i4, h4, ?_, hc4, hq⟩
    rw [ev_bind e]
    simp only [e2, Option.bind_some]
    rw [ev_neg ht]
    exact e4

theorem DrawLift_ev (b : List Int) (hb : b.length ≤ 2000000) : ∃ a l n, Ev (fun k => spec_DrawLift.f k b) (a, l, n) ∧ l.length ≤ 2000 := by
  unfold spec_DrawLift.f
  obtain ⟨h, e1⟩ := l1New_ev b hb
  obtain ⟨x, i1, h1, e2, hc1, hx0, _⟩ := l1Below_ok b 0 h 40 ⟨by omega, by omega, hb⟩
  obtain ⟨s, e3, hs0, hs1⟩ := l1Size_eq b 40 hb (by omega)
  obtain ⟨l, i2, h2, e4, hc2, hl, _⟩ := l5DrawAny_ev b i1 h1 s hc1 (by omega) (by omega)
  obtain ⟨n, i3, h3, e5, hc3, _⟩ := l1PickInt_ok b i2 h2 [0, 1, 2, 3, 8, 9, (-1), 5] (by simp) hc2
  refine ⟨Int.tmod x 5, l, n, ?_, hl⟩
  rw [ev_bind e1]
  simp only [e2, e3, Option.bind_some]
  rw [ev_bind e4]
  simp only [e5, Option.bind_some]
  exact Ev.now _

theorem sameInts_ev (a b : List Int) (h : a.length ≤ 2000000) : Ev (fun k => laws_sameInts.f k a b) (decide (a = b)) := by
  unfold laws_sameInts.f
  by_cases e : a.length = b.length
  · rw [ev_pos (by omega)]
    rw [all_iff (fun k i => laws_sameInts.l0 k a b i) (fun i => decide (rd a (i : Int) = rd b (i : Int))) a.length _ false]
    · split
      · rename_i hp
        have : a = b := list_ext_rd e fun i hi => by simpa using range_all.1 hp i hi
        rw [decide_eq_true this]
        exact Ev.step (fun k => by simp only [laws_sameInts.l0]; rw [if_neg (by omega)]) (Ev.now _)
      · rename_i hp
        have : ¬ a = b := fun h => hp (by subst h; rw [range_all]; simp)
        simp [this]
    · intro i hi
      by_cases p : rd a (i : Int) = rd b (i : Int)
      · rw [if_pos (by simpa using p)]
        rw [ev_shift]
        simp only [laws_sameInts.l0]
        rw [ev_pos (by omega), ev_pos (by omega), ev_pos (by omega), ev_pos p, w64 (by omega) (by omega)]
      · rw [if_neg (by simpa using p)]
        rw [ev_shift]
        simp only [laws_sameInts.l0]
        rw [ev_pos (by omega), ev_pos (by omega), ev_pos (by omega), ev_neg p, ev_some_iff]
  · rw [ev_neg (by omega)]
    have : ¬ a = b := fun h => e (by rw [h])
    simp only [this, decide_false]
    exact Ev.now _
theorem big_eq (l : List Int) : laws_big.f l = some (decide ((l.length : Int) > 1048576)) := rfl


theorem l1In_eq (a b c : Int) : spec_l1In.f a b c = some (decide (b ≤ a ∧ a ≤ c)) := by
  unfold spec_l1In.f
  by_cases h : a ≥ b
  · rw [if_pos h]
    congr 1
    rw [decide_eq_decide]
    omega
  · rw [if_neg h]
    congr 1
    symm
    rw [decide_eq_false_iff_not]
    omega

theorem l5Sample_eq (a : Int) : spec_l5Sample.f a = some (decide (-1000000000 ≤ a ∧ a ≤ 1000000000)) := by
  unfold spec_l5Sample.f
  rw [l1In_eq]
  rfl
theorem specSig_ev (l : List Int) (hl : l.length ≤ 2000000) : Ev (fun k => spec_SignalOk.f k l) (sigB l) := by
  unfold spec_SignalOk.f
  rw [sigB, inB_range]
  rw [all_iff (fun k i => spec_SignalOk.l0 k l i) (fun i => decide (-1000000000 ≤ rd l (i : Int)) && decide (rd l (i : Int) ≤ 1000000000)) l.length _ false]
  · split
    · rename_i hp
      rw [hp, Bool.and_true]
      exact Ev.step (f := fun _ => some (decide (l.length ≤ 512))) (fun k => by simp only [spec_SignalOk.l0]; rw [if_neg (by omega)]; congr 1; rw [decide_eq_decide]; omega) (Ev.now _)
    · rename_i hp
      simp only [Bool.not_eq_true] at hp
      rw [hp, Bool.and_false]
  · intro i hi
    by_cases p : -1000000000 ≤ rd l (i : Int) ∧ rd l (i : Int) ≤ 1000000000
    · rw [if_pos (by simpa using p)]
      rw [ev_shift]
      simp only [spec_SignalOk.l0]
      rw [ev_pos (by omega), ev_pos (by omega), l5Sample_eq]
      simp only [Option.bind_some]
      rw [ev_pos (by simpa using p), w64 (by omega) (by omega)]
    · rw [if_neg (by simpa using p)]
      rw [ev_shift]
      simp only [spec_SignalOk.l0]
      rw [ev_pos (by omega), ev_pos (by omega), l5Sample_eq]
      simp only [Option.bind_some]
      rw [ev_neg (by simpa using p), ev_some_iff]

theorem within_ev (l : List Int) (m : Int) (hl : l.length ≤ 2000000) (h0 : 0 ≤ m) (h1 : m ≤ 1000000000000) : Ev (fun k => impl_within.f k l m) (inB m l) := by
  unfold impl_within.f
  rw [inB_range]
  rw [all_iff (fun k i => impl_within.l0 k m l (l.length : Int) i) (fun i => decide (-m ≤ rd l (i : Int)) && decide (rd l (i : Int) ≤ m)) l.length _ false]
  · split
    · rename_i hp
      rw [hp]
      exact Ev.step (fun k => by simp only [impl_within.l0]; rw [if_neg (by omega)]) (Ev.now _)
    · rename_i hp
      simpa using hp
  · intro i hi
    by_cases p : -m ≤ rd l (i : Int) ∧ rd l (i : Int) ≤ m
    · rw [if_pos (by simpa using p)]
      rw [ev_shift]
      simp only [impl_within.l0]
      rw [ev_pos (by omega), ev_pos (by omega), ev_pos (by omega), w64 (n := -m) (by omega) (by omega), ev_neg (by omega), ev_neg (by omega), w64 (by omega) (by omega)]
    · rw [if_neg (by simpa using p)]
      rw [ev_shift]
      simp only [impl_within.l0]
      rw [ev_pos (by omega), ev_pos (by omega), ev_pos (by omega), w64 (n := -m) (by omega) (by omega)]
      by_cases q : rd l (i : Int) < -m
      · rw [ev_pos q, ev_some_iff]
      · rw [ev_neg q, ev_pos (by omega), ev_some_iff]

theorem implSig_ev (l : List Int) (hl : l.length ≤ 2000000) : Ev (fun k => impl_SignalOk.f k l) (sigB l) := by
  unfold impl_SignalOk.f
  by_cases h : (l.length : Int) ≤ 512
  · rw [ev_pos h]
    rw [ev_bind (within_ev l 1000000000 hl (by omega) (by omega)), ev_some_iff, sigB, decide_eq_true (by omega : l.length ≤ 512), Bool.true_and]
  · rw [ev_neg h]
    rw [ev_some_iff, sigB, decide_eq_false (by omega : ¬ l.length ≤ 512), Bool.false_and]

/-! ### lifting: the numbers -/
def atV (l : List Int) (i : Int) : Int := if i < 0 then rd l 0 else if i ≥ (l.length : Int) then rd l ((l.length : Int) - 1) else rd l i
def guessV (kind : Int) (e : List Int) (i : Int) : Int :=
  if kind = 1 then rd e i else if kind = 2 then (wrap64 (rd e i + atV e (i + 1))) / 2
  else (wrap64 (9 * (rd e i + atV e (i + 1)) - atV e (i - 1) - atV e (i + 2) + 8)) / 16
def moreV (kind : Int) (h : List Int) (i : Int) : Int :=
  if h.length = 0 then 0 else if kind = 1 then (if i = (h.length : Int) then 0 else rd h i / 2) else (wrap64 (atV h (i - 1) + atV h i + 2)) / 4
def evenV (l : List Int) : List Int := tab ((l.length + 1) / 2) fun j => rd l ((2 * j : Nat) : Int)
def oddV (l : List Int) : List Int := tab (l.length / 2) fun j => rd l ((2 * j + 1 : Nat) : Int)
def highV (kind : Int) (l : List Int) : List Int := tab (oddV l).length fun i => wrap64 (rd (oddV l) (i : Int) - guessV kind (evenV l) (i : Int))
def lowV (kind : Int) (l : List Int) : List Int := tab (evenV l).length fun i => wrap64 (rd (evenV l) (i : Int) + moreV kind (highV kind l) (i : Int))
@[simp] theorem evenV_length (l : List Int) : (evenV l).length = (l.length + 1) / 2 := by simp [evenV]
@[simp] theorem oddV_length (l : List Int) : (oddV l).length = l.length / 2 := by simp [oddV]
@[simp] theorem highV_length (kind : Int) (l : List Int) : (highV kind l).length = l.length / 2 := by simp [highV]
@[simp] theorem lowV_length (kind : Int) (l : List Int) : (lowV kind l).length = (l.length + 1) / 2 := by simp [lowV]
theorem split_loop {α : Type} (L : Nat → List Int → List Int → Int → Option α) (l : List Int) (r : α)
    (step : ∀ (i : Nat) (e o : List Int), i < l.length → e.length ≤ i → o.length ≤ i →
      (Ev (fun k => L k e o (i : Int)) r ↔ if i % 2 = 0 then Ev (fun k => L k (e ++ [rd l (i : Int)]) o ((i : Int) + 1)) r else Ev (fun k => L k e (o ++ [rd l (i : Int)]) ((i : Int) + 1)) r)) :
    Ev (fun k => L k [] [] 0) r ↔ Ev (fun k => L k (evenV l) (oddV l) (l.length : Int)) r := by
  have h := for_iff (fun k (s : List Int × List Int) i => L k s.1 s.2 i) (fun i s => if i % 2 = 0 then (s.1 ++ [rd l (i : Int)], s.2) else (s.1, s.2 ++ [rd l (i : Int)])) (fun i s => s = (tab ((i + 1) / 2) fun j => rd l ((2 * j : Nat) : Int), tab (i / 2) fun j => rd l ((2 * j + 1 : Nat) : Int))) l.length r (fun i s hi hs => by
    subst hs
    by_cases c : i % 2 = 0
    · refine ⟨?_, ?_⟩
      · have e1 : (i + 1 + 1) / 2 = (i + 1) / 2 + 1 := by omega
        have e2 : (i + 1) / 2 = i / 2 := by omega
        have e3 : 2 * ((i + 1) / 2) = i := by omega
        simp only [if_pos c]
        rw [e1, e2]
        refine congrArg (fun x => (x, _)) ?_
        rw [tab_succ]
        have e4 : 2 * (i / 2) = i := by omega
        rw [e4]
      · have := step i (tab ((i + 1) / 2) fun j => rd l ((2 * j : Nat) : Int)) (tab (i / 2) fun j => rd l ((2 * j + 1 : Nat) : Int)) hi (by simp; omega) (by simp; omega)
        rw [if_pos c] at this
        simpa only [if_pos c] using this
    · refine ⟨?_, ?_⟩
      · have e1 : (i + 1 + 1) / 2 = (i + 1) / 2 := by omega
        have e2 : (i + 1) / 2 = i / 2 + 1 := by omega
        have e3 : 2 * (i / 2) + 1 = i := by omega
        simp only [if_neg c]
        rw [e1]
        refine congrArg (Prod.mk _) ?_
        have e4 : (i + 1) / 2 = i / 2 + 1 := e2
        rw [e4, tab_succ, e3]
      · have := step i (tab ((i + 1) / 2) fun j => rd l ((2 * j : Nat) : Int)) (tab (i / 2) fun j => rd l ((2 * j + 1 : Nat) : Int)) hi (by simp; omega) (by simp; omega)
        rw [if_neg c] at this
        simpa only [if_neg c] using this) ([], []) rfl
  have h1 := h.1
  have h2 := h.2
  rw [h1] at h2
  exact h2
theorem tmod2 (i : Nat) : Int.tmod (i : Int) 2 = ((i % 2 : Nat) : Int) := (Int.ofNat_tmod i 2).symm
theorem wrap9 (a b c d : Int) : wrap64 (wrap64 (wrap64 (9 * wrap64 (a + b)) - wrap64 (c + d)) + 8) = wrap64 (9 * (a + b) - c - d + 8) := by
  unfold wrap64
  omega
theorem wrap9s (a b c d : Int) : wrap64 (wrap64 (wrap64 (wrap64 (9 * wrap64 (a + b)) - c) - d) + 8) = wrap64 (9 * (a + b) - c - d + 8) := by
  unfold wrap64
  omega
theorem wrap4 (a b : Int) : wrap64 (wrap64 (a + b) + 2) = wrap64 (a + b + 2) := wrap_add_l _ _
/-! putting back -/
def interV (ev od : List Int) : List Int := iter (fun i s => if i < od.length then (s ++ [rd ev (i : Int)]) ++ [rd od (i : Int)] else s ++ [rd ev (i : Int)]) ev.length []
def evenB (kind : Int) (low high : List Int) : List Int := tab low.length fun i => wrap64 (rd low (i : Int) - moreV kind high (i : Int))
def oddB (kind : Int) (low high : List Int) : List Int := tab high.length fun i => wrap64 (rd high (i : Int) + guessV kind (evenB kind low high) (i : Int))
def backV (kind : Int) (low high : List Int) : List Int := interV (evenB kind low high) (oddB kind low high)
theorem interV_length (ev od : List Int) (h : od.length ≤ ev.length) : (interV ev od).length = ev.length + od.length := by
  unfold interV
  have := iter_inv (f := fun i s => if i < od.length then (s ++ [rd ev (i : Int)]) ++ [rd od (i : Int)] else s ++ [rd ev (i : Int)]) (fun i (s : List Int) => s.length = i + min i od.length) ev.length [] (by simp) fun i s hi hs => by
    by_cases c : i < od.length
    · simp only [if_pos c, List.length_append, List.length_cons, List.length_nil, hs]
      omega
    · simp only [if_neg c, List.length_append, List.length_cons, List.length_nil, hs]
      omega
  rw [this]
  omega
theorem backV_length (kind : Int) (low high : List Int) (h : high.length ≤ low.length) : (backV kind low high).length = low.length + high.length := by
  unfold backV
  rw [interV_length _ _ (by simpa [evenB, oddB] using h)]
  simp [evenB, oddB]

theorem implAt_eq (l : List Int) (i : Int) (h0 : 0 < l.length) (hl : l.length ≤ 2000000) : impl_at.f l i = some (atV l i) := by
  unfold impl_at.f impl_nearer.f atV
  simp only [Option.bind_some]
  rw [w64 (by omega) (by omega)]
  by_cases h1 : i < 0
  · have e : mn (mx i 0) ((l.length : Int) - 1) = 0 := by unfold mn mx; rw [if_pos h1, if_neg (by omega)]
    rw [e, if_pos h1, if_pos (by omega), if_pos (by omega)]
  · by_cases h2 : i ≥ (l.length : Int)
    · have e : mn (mx i 0) ((l.length : Int) - 1) = (l.length : Int) - 1 := by unfold mn mx; rw [if_neg h1, if_pos (by omega)]
      rw [e, if_neg h1, if_pos h2, if_pos (by omega), if_pos (by omega)]
    · have e : mn (mx i 0) ((l.length : Int) - 1) = i := by unfold mn mx; rw [if_neg h1, if_neg (by omega)]
      rw [e, if_neg h1, if_neg h2, if_pos (by omega), if_pos (by omega)]
theorem implGuess_eq (kind : Int) (e : List Int) (i : Nat) (hi : i < e.length) (hl : e.length ≤ 2000000) : impl_guess.f kind e (i : Int) = some (guessV kind e (i : Int)) := by
  unfold impl_guess.f guessV
  rw [w64 (n := (i : Int) + 1) (by omega) (by omega), w64 (n := (i : Int) - 1) (by omega) (by omega), w64 (n := (i : Int) + 2) (by omega) (by omega), implAt_eq e _ (by omega) hl, implAt_eq e _ (by omega) hl, implAt_eq e _ (by omega) hl]
  simp only [Option.bind_some]
  by_cases h1 : kind = 1
  · rw [if_pos h1, if_pos h1, if_pos (by omega), if_pos (by omega)]
  · rw [if_neg h1, if_neg h1]
    by_cases h2 : kind = 2
    · rw [if_pos h2, if_pos h2, if_pos (by omega), if_pos (by omega)]
    · rw [if_neg h2, if_neg h2, if_pos (by omega), if_pos (by omega), wrap9]
theorem implMore_eq (kind : Int) (h : List Int) (i : Nat) (hi : i ≤ h.length) (hl : h.length ≤ 2000000) : impl_more.f kind h (i : Int) = some (moreV kind h (i : Int)) := by
  unfold impl_more.f moreV
  by_cases h0 : h.length = 0
  · rw [if_pos (by omega), if_pos h0]
  · rw [if_neg (by omega), if_neg h0]
    by_cases h1 : kind = 1
    · rw [if_pos h1, if_pos h1]
      by_cases h2 : (i : Int) = (h.length : Int)
      · rw [if_pos h2, if_pos h2]
      · rw [if_neg h2, if_neg h2, if_pos (by omega), if_pos (by omega)]
    · rw [if_neg h1, if_neg h1, w64 (n := (i : Int) - 1) (by omega) (by omega), implAt_eq h _ (by omega) hl, implAt_eq h _ (by omega) hl]
      simp only [Option.bind_some]
      rw [wrap4]

theorem isLift_eq (a : Int) : impl_isLift.f a = some (decide (1 ≤ a ∧ a ≤ 3)) := by
  unfold impl_isLift.f
  by_cases h : a ≥ 1
  · rw [if_pos h]
    congr 1
    rw [decide_eq_decide]
    omega
  · rw [if_neg h]
    congr 1
    symm
    rw [decide_eq_false_iff_not]
    omega

theorem implOnce_ev (kind : Int) (l : List Int) (hl : l.length ≤ 2000000) : Ev (fun k => impl_liftOnce.f k kind l) (lowV kind l, highV kind l) := by
  unfold impl_liftOnce.f
  rw [split_loop (fun k e o i => impl_liftOnce.l0 k kind e o l (l.length : Int) i) l]
  · rw [ev_shift]
    simp only [impl_liftOnce.l0]
    rw [ev_neg (by omega)]
    rw [map_loop (fun k s i => impl_liftOnce.l1 k kind (evenV l) s ((oddV l).length : Int) i) (oddV l) (fun i => wrap64 (rd (oddV l) (i : Int) - guessV kind (evenV l) (i : Int)))]
    · have eH : (tab (oddV l).length fun i => wrap64 (rd (oddV l) (i : Int) - guessV kind (evenV l) (i : Int))) = highV kind l := rfl
      rw [eH, ev_shift]
      simp only [impl_liftOnce.l1]
      rw [ev_neg (by omega)]
      rw [map_loop (fun k s i => impl_liftOnce.l2 k kind s (highV kind l) ((evenV l).length : Int) i) (evenV l) (fun i => wrap64 (rd (evenV l) (i : Int) + moreV kind (highV kind l) (i : Int)))]
      · rw [ev_shift]
        simp only [impl_liftOnce.l2]
        rw [ev_neg (by omega)]
        exact Ev.now _
      · intro i s hi hs hr
        rw [evenV_length] at hi hs
        rw [ev_shift]
        simp only [impl_liftOnce.l2, evenV_length]
        rw [implMore_eq kind (highV kind l) i (by rw [highV_length]; omega) (by rw [highV_length]; omega), ev_pos (by omega), ev_pos (by omega), ev_pos (by omega), w64 (n := (i : Int) + 1) (by omega) (by omega), hr, Int.toNat_natCast]
        exact Iff.rfl
    · intro i s hi hs hr
      rw [oddV_length] at hi hs
      rw [ev_shift]
      simp only [impl_liftOnce.l1, oddV_length]
      rw [implGuess_eq kind (evenV l) i (by rw [evenV_length]; omega) (by rw [evenV_length]; omega), ev_pos (by omega), ev_pos (by omega), ev_pos (by omega), w64 (n := (i : Int) + 1) (by omega) (by omega), hr, Int.toNat_natCast]
      exact Iff.rfl
  · intro i e o hi he ho
    rw [ev_shift]
    simp only [impl_liftOnce.l0]
    rw [ev_pos (by omega), ev_pos (by omega), ev_pos (by omega), w64 (n := (i : Int) + 1) (by omega) (by omega), tmod2]
    by_cases c : i % 2 = 0
    · rw [ev_pos (by omega), ev_pos (by omega), if_pos c]
    · rw [ev_neg (by omega), ev_pos (by omega), if_neg c]

open Classical in
noncomputable def onceR (kind : Int) (l : List Int) : List Int × List Int × Bool := if 1 ≤ kind ∧ kind ≤ 3 ∧ sigB l = true then (lowV kind l, highV kind l, true) else ([], [], false)
theorem onceR_length (kind : Int) (l : List Int) (hl : l.length ≤ 2000000) : (onceR kind l).1.length ≤ 2000000 ∧ (onceR kind l).2.1.length ≤ 2000000 := by
  unfold onceR
  split
  · exact ⟨by rw [lowV_length]; omega, by show (highV kind l).length ≤ _; rw [highV_length]; omega⟩
  · exact ⟨by simp, by simp⟩
theorem implLiftOnce_ev (kind : Int) (l : List Int) (hl : l.length ≤ 2000000) : Ev (fun k => impl_LiftOnce.f k kind l) (onceR kind l) := by
  unfold impl_LiftOnce.f onceR
  rw [isLift_eq, ev_sbind]
  by_cases h1 : 1 ≤ kind ∧ kind ≤ 3
  · rw [ev_pos (by simpa using h1), ev_bind (implSig_ev l hl)]
    by_cases h2 : sigB l = true
    · rw [ev_pos h2, if_pos ⟨h1.1, h1.2, h2⟩, ev_bind (implOnce_ev kind l hl)]
      exact Ev.now _
    · rw [ev_neg h2, if_neg (fun h => h2 h.2.2)]
      exact Ev.now _
  · rw [ev_neg (by simpa using h1), if_neg (fun h => h1 ⟨h.1, h.2.1⟩)]
    exact Ev.now _



theorem clone_eq (l : List Int) (h : l.length ≤ 2000000) : slices_Clone_int_int.f l = some l := by
  unfold slices_Clone_int_int.f
  simp only [Option.bind_some, List.nil_append, List.length_nil]
  rw [if_pos (by omega)]


theorem implBack_ev (kind : Int) (low high : List Int) (hl : low.length ≤ 1000000) (h0 : high.length ≤ low.length) (h1 : low.length ≤ high.length + 1) : Ev (fun k => impl_liftBack.f k kind low high) (backV kind low high) := by
  unfold impl_liftBack.f
  rw [clone_eq low (by omega), clone_eq high (by omega), ev_sbind, ev_sbind]
  rw [map_loop (fun k s i => impl_liftBack.l0 k kind high s high (low.length : Int) i) low (fun i => wrap64 (rd low (i : Int) - moreV kind high (i : Int)))]
  · have eE : (tab low.length fun i => wrap64 (rd low (i : Int) - moreV kind high (i : Int))) = evenB kind low high := rfl
    have lE : (evenB kind low high).length = low.length := by simp [evenB]
    rw [eE, ev_shift]
    simp only [impl_liftBack.l0]
    rw [ev_neg (by omega)]
    rw [map_loop (fun k s i => impl_liftBack.l1 k kind (evenB kind low high) s (high.length : Int) i) high (fun i => wrap64 (rd high (i : Int) + guessV kind (evenB kind low high) (i : Int)))]
    · have eO : (tab high.length fun i => wrap64 (rd high (i : Int) + guessV kind (evenB kind low high) (i : Int))) = oddB kind low high := rfl
      have lO : (oddB kind low high).length = high.length := by simp [oddB]
      rw [eO, ev_shift]
      simp only [impl_liftBack.l1]
      rw [ev_neg (by omega)]
      have h := for_iff (fun k s i => impl_liftBack.l2 k (oddB kind low high) s (evenB kind low high) ((evenB kind low high).length : Int) i) (fun i s => if i < (oddB kind low high).length then (s ++ [rd (evenB kind low high) (i : Int)]) ++ [rd (oddB kind low high) (i : Int)] else s ++ [rd (evenB kind low high) (i : Int)]) (fun i s => s.length ≤ 2 * i) (evenB kind low high).length (backV kind low high) ?_ [] (by simp)
      · rw [h.2, ev_shift]
        simp only [impl_liftBack.l2]
        rw [ev_neg (by omega)]
        exact Ev.now _
      · intro i s hi hs
        have es : (s ++ [rd (evenB kind low high) (i : Int)]).length = s.length + 1 := by simp
        refine ⟨?_, ?_⟩
        · by_cases c : i < (oddB kind low high).length
          · simp only [if_pos c, List.length_append, List.length_cons, List.length_nil]
            omega
          · simp only [if_neg c, List.length_append, List.length_cons, List.length_nil]
            omega
        · rw [ev_shift]
          simp only [impl_liftBack.l2]
          rw [ev_pos (by omega), ev_pos (by omega), ev_pos (by omega), ev_pos (by omega), ev_sbind, w64 (n := (i : Int) + 1) (by omega) (by omega)]
          by_cases c : i < (oddB kind low high).length
          · rw [ev_pos (by omega), ev_pos (by omega), if_pos c]
          · rw [ev_neg (by omega), if_neg c]
    · intro i s hi hs hr
      rw [ev_shift]
      simp only [impl_liftBack.l1]
      rw [implGuess_eq kind (evenB kind low high) i (by omega) (by omega), ev_pos (by omega), ev_pos (by omega), ev_pos (by omega), w64 (n := (i : Int) + 1) (by omega) (by omega), hr, Int.toNat_natCast]
      exact Iff.rfl
  · intro i s hi hs hr
    rw [ev_shift]
    simp only [impl_liftBack.l0]
    rw [implMore_eq kind high i (by omega) (by omega), ev_pos (by omega), ev_pos (by omega), ev_pos (by omega), w64 (n := (i : Int) + 1) (by omega) (by omega), hr, Int.toNat_natCast]
    exact Iff.rfl

open Classical in
noncomputable def backR (kind : Int) (low high : List Int) : List Int × Bool :=
  if 1 ≤ kind ∧ kind ≤ 3 ∧ high.length ≤ low.length ∧ low.length ≤ high.length + 1 ∧ low.length + high.length ≤ 512 ∧ inB 8000000000 low = true ∧ inB 8000000000 high = true then (backV kind low high, true) else ([], false)
theorem backR_length (kind : Int) (low high : List Int) : (backR kind low high).1.length ≤ 2000000 := by
  unfold backR
  split
  · rename_i h
    show (backV kind low high).length ≤ _
    rw [backV_length kind low high h.2.2.1]
    omega
  · simp
theorem implLiftBack_ev (kind : Int) (low high : List Int) (hl : low.length ≤ 2000000) (hh : high.length ≤ 2000000) : Ev (fun k => impl_LiftBack.f k kind low high) (backR kind low high) := by
  unfold impl_LiftBack.f backR
  rw [isLift_eq, ev_sbind, w64 (n := (low.length : Int) - (high.length : Int)) (by omega) (by omega), w64 (n := (low.length : Int) + (high.length : Int)) (by omega) (by omega)]
  by_cases h1 : 1 ≤ kind ∧ kind ≤ 3
  · rw [ev_pos (by simpa using h1)]
    by_cases h2 : (low.length : Int) - (high.length : Int) < 0
    · rw [ev_pos h2, if_neg (by omega)]
      exact Ev.now _
    rw [ev_neg h2]
    by_cases h3 : (low.length : Int) - (high.length : Int) > 1
    · rw [ev_pos h3, if_neg (by omega)]
      exact Ev.now _
    rw [ev_neg h3]
    by_cases h4 : (low.length : Int) + (high.length : Int) > 512
    · rw [ev_pos h4, if_neg (by omega)]
      exact Ev.now _
    rw [ev_neg h4, ev_bind (within_ev low 8000000000 hl (by omega) (by omega))]
    by_cases h5 : inB 8000000000 low = true
    · rw [ev_pos h5, ev_bind (within_ev high 8000000000 hh (by omega) (by omega))]
      by_cases h6 : inB 8000000000 high = true
      · rw [ev_pos h6, if_pos ⟨h1.1, h1.2, by omega, by omega, by omega, h5, h6⟩, ev_bind (implBack_ev kind low high (by omega) (by omega) (by omega))]
        exact Ev.now _
      · rw [ev_neg h6, if_neg (fun h => h6 h.2.2.2.2.2.2)]
        exact Ev.now _
    · rw [ev_neg h5, if_neg (fun h => h5 h.2.2.2.2.2.1)]
      exact Ev.now _
  · rw [ev_neg (by simpa using h1), if_neg (fun h => h1 ⟨h.1, h.2.1⟩)]
    exact Ev.now _


theorem l9Kind_eq (a : Int) : spec_l9Kind.f a = some (decide (1 ≤ a ∧ a ≤ 3)) := by
  unfold spec_l9Kind.f
  rw [l1In_eq]
  rfl


theorem l9Wide_ev (l : List Int) (m : Int) (hl : l.length ≤ 2000000) (h0 : 0 ≤ m) (h1 : m ≤ 1000000000000) : Ev (fun k => spec_l9Wide.f k l m) (inB m l) := by
  unfold spec_l9Wide.f
  rw [inB_range]
  rw [all_iff (fun k i => spec_l9Wide.l0 k l m i) (fun i => decide (-m ≤ rd l (i : Int)) && decide (rd l (i : Int) ≤ m)) l.length _ false]
  · split
    · rename_i hp
      rw [hp]
      exact Ev.step (fun k => by simp only [spec_l9Wide.l0]; rw [if_neg (by omega)]) (Ev.now _)
    · rename_i hp
      simpa using hp
  · intro i hi
    by_cases p : -m ≤ rd l (i : Int) ∧ rd l (i : Int) ≤ m
    · rw [if_pos (by simpa using p)]
      rw [ev_shift]
      simp only [spec_l9Wide.l0]
      rw [ev_pos (by omega), ev_pos (by omega), w64 (n := -m) (by omega) (by omega), l1In_eq]
      simp only [Option.bind_some]
      rw [ev_pos (by simpa using p), w64 (by omega) (by omega)]
    · rw [if_neg (by simpa using p)]
      rw [ev_shift]
      simp only [spec_l9Wide.l0]
      rw [ev_pos (by omega), ev_pos (by omega), w64 (n := -m) (by omega) (by omega), l1In_eq]
      simp only [Option.bind_some]
      rw [ev_neg (by simpa using p), ev_some_iff]


theorem floor_eq (a b : Int) (hb : 0 < b) (h0 : -4611686018427387904 ≤ a / b) (h1 : a / b ≤ 4611686018427387904) : spec_l5Floor.f a b = some (a / b) := by
  unfold spec_l5Floor.f
  rw [if_neg (by omega)]
  have e1 := Int.tdiv_eq_ediv (a := a) (b := b)
  have e2 := Int.tmod_eq_emod (a := a) (b := b)
  have h2 := Int.emod_nonneg a (by omega : b ≠ 0)
  have h3 := Int.emod_lt_of_pos a hb
  by_cases c : 0 ≤ a ∨ b ∣ a
  · rw [if_pos c] at e1 e2
    rw [e1, e2, if_neg (by omega), w64 (by omega) (by omega), Int.add_zero]
  · rw [if_neg c] at e1 e2
    have s : b.sign = 1 := Int.sign_eq_one_of_pos hb
    have n : (b.natAbs : Int) = b := by omega
    rw [e1, e2, if_pos (by omega), s, w64 (n := a / b + 1) (by omega) (by omega), w64 (by omega) (by omega), Int.add_sub_cancel]

theorem specAt_eq (l : List Int) (i : Int) (h0 : 0 < l.length) (hl : l.length ≤ 2000000) : spec_l9At.f l i = some (atV l i) := by
  unfold spec_l9At.f atV
  rw [w64 (by omega) (by omega)]
  by_cases h1 : i < 0
  · rw [if_pos h1, if_pos h1, if_neg (by omega), if_pos (by omega)]
  · rw [if_neg h1, if_neg h1]
    by_cases h2 : i ≥ (l.length : Int)
    · rw [if_pos h2, if_pos h2, if_pos (by omega), if_pos (by omega)]
    · rw [if_neg h2, if_neg h2, if_pos (by omega), if_pos (by omega)]
theorem specGuess_eq (kind : Int) (e : List Int) (i : Nat) (hi : i < e.length) (hl : e.length ≤ 2000000) : spec_l9Guess.f kind e (i : Int) = some (guessV kind e (i : Int)) := by
  unfold spec_l9Guess.f guessV
  rw [w64 (n := (i : Int) + 1) (by omega) (by omega), w64 (n := (i : Int) - 1) (by omega) (by omega), w64 (n := (i : Int) + 2) (by omega) (by omega), specAt_eq e _ (by omega) hl, specAt_eq e _ (by omega) hl, specAt_eq e _ (by omega) hl]
  simp only [Option.bind_some]
  by_cases h1 : kind = 1
  · rw [if_pos h1, if_pos h1, if_pos (by omega), if_pos (by omega)]
  · rw [if_neg h1, if_neg h1]
    by_cases h2 : kind = 2
    · have := wrap_range (rd e (i : Int) + atV e ((i : Int) + 1))
      rw [if_pos h2, if_pos h2, if_pos (by omega), if_pos (by omega), floor_eq _ 2 (by omega) (by omega) (by omega)]
      rfl
    · rw [if_neg h2, if_neg h2, if_pos (by omega), if_pos (by omega), wrap9s]
      have := wrap_range (9 * (rd e (i : Int) + atV e ((i : Int) + 1)) - atV e ((i : Int) - 1) - atV e ((i : Int) + 2) + 8)
      rw [floor_eq _ 16 (by omega) (by omega) (by omega)]
      rfl
theorem specMend_ev (kind : Int) (h : List Int) (i : Nat) (hi : i ≤ h.length) (hl : h.length ≤ 2000000) (hw : ∀ j : Int, -9223372036854775808 ≤ rd h j ∧ rd h j ≤ 9223372036854775807) : Ev (fun k => spec_l9Mend.f k kind h (i : Int)) (moreV kind h (i : Int)) := by
  unfold spec_l9Mend.f moreV
  by_cases h0 : h.length = 0
  · rw [ev_pos (by omega), if_pos h0, ev_shift]
    simp only [spec_l9Mend.j0, if_true]
    exact Ev.now _
  · rw [ev_neg (by omega), if_neg h0]
    by_cases h1 : kind = 1
    · rw [ev_pos h1, if_pos h1]
      by_cases h2 : (i : Int) = (h.length : Int)
      · rw [decide_eq_true (by omega), if_pos h2, ev_shift]
        simp only [spec_l9Mend.j0, if_true]
        exact Ev.now _
      · rw [decide_eq_false (by omega), if_neg h2, ev_shift]
        simp only [spec_l9Mend.j0, Bool.false_eq_true, if_false]
        have := hw (i : Int)
        rw [ev_pos h1, ev_pos (by omega), ev_pos (by omega), floor_eq _ 2 (by omega) (by omega) (by omega)]
        exact Ev.now _
    · rw [ev_neg h1, if_neg h1, ev_shift]
      simp only [spec_l9Mend.j0, Bool.false_eq_true, if_false]
      have := wrap_range (atV h ((i : Int) - 1) + atV h (i : Int) + 2)
      rw [ev_neg h1, w64 (n := (i : Int) - 1) (by omega) (by omega), specAt_eq h _ (by omega) hl, specAt_eq h _ (by omega) hl, ev_sbind, ev_sbind, wrap4, floor_eq _ 4 (by omega) (by omega) (by omega)]
      exact Ev.now _

theorem specBack_ev (kind : Int) (low high : List Int) (hl : low.length ≤ 1000000) (h0 : high.length ≤ low.length) (h1 : low.length ≤ high.length + 1) (hw : inB 9000000000 high = true) : Ev (fun k => spec_l9Back.f k kind low high) (backV kind low high) := by
  unfold spec_l9Back.f
  rw [push_loop (fun k s i => spec_l9Back.l0 k kind low high s i) low.length (fun i => wrap64 (rd low (i : Int) - moreV kind high (i : Int)))]
  · have eE : (tab low.length fun i => wrap64 (rd low (i : Int) - moreV kind high (i : Int))) = evenB kind low high := rfl
    have lE : (evenB kind low high).length = low.length := by simp [evenB]
    have lO : (oddB kind low high).length = high.length := by simp [oddB]
    rw [eE, ev_shift]
    simp only [spec_l9Back.l0]
    rw [ev_neg (by omega)]
    have h := for_iff (fun k s i => spec_l9Back.l1 k kind high (evenB kind low high) s i) (fun i s => if i < (oddB kind low high).length then (s ++ [rd (evenB kind low high) (i : Int)]) ++ [rd (oddB kind low high) (i : Int)] else s ++ [rd (evenB kind low high) (i : Int)]) (fun i s => s.length ≤ 2 * i) (evenB kind low high).length (backV kind low high) ?_ [] (by simp)
    · rw [h.2, ev_shift]
      simp only [spec_l9Back.l1]
      rw [ev_neg (by omega)]
      exact Ev.now _
    · intro i s hi hs
      have es : (s ++ [rd (evenB kind low high) (i : Int)]).length = s.length + 1 := by simp
      refine ⟨?_, ?_⟩
      · by_cases c : i < (oddB kind low high).length
        · simp only [if_pos c, List.length_append, List.length_cons, List.length_nil]
          omega
        · simp only [if_neg c, List.length_append, List.length_cons, List.length_nil]
          omega
      · rw [ev_shift]
        simp only [spec_l9Back.l1]
        rw [ev_pos (by omega), ev_pos (by omega), ev_pos (by omega), ev_sbind, w64 (n := (i : Int) + 1) (by omega) (by omega)]
        by_cases c : i < (oddB kind low high).length
        · have er : rd (oddB kind low high) (i : Int) = wrap64 (rd high (i : Int) + guessV kind (evenB kind low high) (i : Int)) := by
            unfold oddB
            rw [rd_tab' (by omega)]
          rw [ev_pos (by omega), specGuess_eq kind (evenB kind low high) i (by omega) (by omega), ev_sbind, ev_pos (by omega), if_pos c, er]
        · rw [ev_neg (by omega), if_neg c]
  · intro i s hi hs
    rw [ev_shift]
    simp only [spec_l9Back.l0]
    have hm := specMend_ev kind high i (by omega) (by omega) (fun j => by have := inB_rd hw (by omega) j; omega)
    rw [ev_pos (by omega), ev_pos (by omega), ev_bind hm, ev_pos (by omega), w64 (n := (i : Int) + 1) (by omega) (by omega)]

theorem specLiftBack_ev (kind : Int) (low high : List Int) (hl : low.length ≤ 2000000) (hh : high.length ≤ 2000000) : Ev (fun k => spec_LiftBack.f k kind low high) (backR kind low high) := by
  unfold spec_LiftBack.f backR
  rw [l9Kind_eq, ev_sbind, l1In_eq, w64 (n := (low.length : Int) - (high.length : Int)) (by omega) (by omega), w64 (n := (low.length : Int) + (high.length : Int)) (by omega) (by omega)]
  by_cases h1 : 1 ≤ kind ∧ kind ≤ 3
  · rw [ev_pos (by simpa using h1), ev_sbind]
    by_cases h2 : 0 ≤ (low.length : Int) - (high.length : Int) ∧ (low.length : Int) - (high.length : Int) ≤ 1
    · rw [ev_pos (by simpa using h2)]
      by_cases h4 : (low.length : Int) + (high.length : Int) > 512
      · rw [ev_pos h4, if_neg (by omega)]
        exact Ev.now _
      rw [ev_neg h4, ev_bind (l9Wide_ev low 8000000000 hl (by omega) (by omega))]
      by_cases h5 : inB 8000000000 low = true
      · rw [ev_pos h5, ev_bind (l9Wide_ev high 8000000000 hh (by omega) (by omega))]
        by_cases h6 : inB 8000000000 high = true
        · have h7 : inB 9000000000 high = true := inB_iff.2 fun x hx => by have := inB_iff.1 h6 x hx; omega
          rw [ev_pos h6, if_pos ⟨h1.1, h1.2, by omega, by omega, by omega, h5, h6⟩, ev_bind (specBack_ev kind low high (by omega) (by omega) (by omega) h7)]
          exact Ev.now _
        · rw [ev_neg h6, if_neg (fun h => h6 h.2.2.2.2.2.2)]
          exact Ev.now _
      · rw [ev_neg h5, if_neg (fun h => h5 h.2.2.2.2.2.1)]
        exact Ev.now _
    · rw [ev_neg (by simpa using h2), if_neg (by omega)]
      exact Ev.now _
  · rw [ev_neg (by simpa using h1), if_neg (fun h => h1 ⟨h.1, h.2.1⟩)]
    exact Ev.now _




/-! ### Lift over levels -/
def liftN (kind : Int) : Nat → List Int → List Int → List Int
  | 0, low, rest => low ++ rest
  | n + 1, low, rest => if low.length ≤ 1 then low ++ rest else liftN kind n (lowV kind low) (highV kind low ++ rest)
theorem liftN_length (kind : Int) : ∀ (n : Nat) (low rest : List Int), (liftN kind n low rest).length = low.length + rest.length := by
  intro n
  induction n with
  | zero => intro low rest; simp [liftN]
  | succ n ih =>
    intro low rest
    unfold liftN
    split
    · simp
    · rw [ih, lowV_length, List.length_append, highV_length]
      omega
theorem isLevels_eq (a : Int) : impl_isLevels.f a = some (decide (0 ≤ a ∧ a ≤ 8)) := by
  unfold impl_isLevels.f
  by_cases h : a ≥ 0
  · rw [if_pos h]
    congr 1
    rw [decide_eq_decide]
    omega
  · rw [if_neg h]
    congr 1
    symm
    rw [decide_eq_false_iff_not]
    omega

theorem implLiftN_ev (kind : Int) (L : Nat) : ∀ (d i : Nat) (low rest : List Int), i + d = L → L ≤ 1000 → low.length + rest.length ≤ 1000000 → Ev (fun k => impl_Lift.l0 k kind low rest (L : Int) (i : Int)) (liftN kind d low rest, true) := by
  intro d
  induction d with
  | zero =>
    intro i low rest hi hL hl
    rw [ev_shift]
    simp only [impl_Lift.l0]
    rw [ev_neg (by omega), ev_pos (by omega)]
    exact Ev.now _
  | succ d ih =>
    intro i low rest hi hL hl
    rw [ev_shift]
    simp only [impl_Lift.l0]
    unfold liftN
    rw [ev_pos (by omega)]
    by_cases c : (low.length : Int) ≤ 1
    · rw [ev_pos c, ev_pos (by omega), if_pos (by omega)]
      exact Ev.now _
    · have hh := highV_length kind low
      have hw := lowV_length kind low
      have g := ih (i + 1) (lowV kind low) (highV kind low ++ rest) (by omega) hL (by rw [List.length_append]; omega)
      have e : ((i + 1 : Nat) : Int) = (i : Int) + 1 := by omega
      rw [e] at g
      rw [ev_neg c, if_neg (by omega), ev_bind (implOnce_ev kind low (by omega)), ev_pos (by show (highV kind low).length + rest.length < _; omega), w64 (n := (i : Int) + 1) (by omega) (by omega)]
      exact g
open Classical in
noncomputable def liftR (kind : Int) (l : List Int) (n : Int) : List Int × Bool := if 1 ≤ kind ∧ kind ≤ 3 ∧ sigB l = true ∧ 0 ≤ n ∧ n ≤ 8 then (liftN kind n.toNat l [], true) else ([], false)
theorem liftR_length (kind : Int) (l : List Int) (n : Int) (hl : l.length ≤ 2000000) : (liftR kind l n).1.length ≤ 2000000 := by
  unfold liftR
  split
  · show (liftN kind n.toNat l []).length ≤ _
    rw [liftN_length]
    simpa using hl
  · simp
theorem implLift_ev (kind : Int) (l : List Int) (n : Int) (hl : l.length ≤ 2000000) : Ev (fun k => impl_Lift.f k kind l n) (liftR kind l n) := by
  unfold impl_Lift.f
  have no : ¬ (1 ≤ kind ∧ kind ≤ 3 ∧ sigB l = true ∧ 0 ≤ n ∧ n ≤ 8) → Ev (fun k => impl_Lift.j0 k kind l n true) (liftR kind l n) := by
    intro h
    rw [ev_shift, liftR, if_neg h]
    simp only [impl_Lift.j0, if_true]
    exact Ev.now _
  rw [isLift_eq, ev_sbind, isLevels_eq]
  by_cases h1 : 1 ≤ kind ∧ kind ≤ 3
  · rw [ev_pos (by simpa using h1), ev_bind (implSig_ev l hl)]
    by_cases h2 : sigB l = true
    · rw [ev_pos h2, ev_sbind]
      by_cases h3 : 0 ≤ n ∧ n ≤ 8
      · have hl5 := (sigB_iff.1 h2).1
        rw [decide_eq_true h3, ev_shift, liftR, if_pos ⟨h1.1, h1.2, h2, h3.1, h3.2⟩]
        simp only [impl_Lift.j0, Bool.not_true, Bool.false_eq_true, if_false]
        rw [clone_eq l hl, ev_sbind]
        have g := implLiftN_ev kind n.toNat n.toNat 0 l [] (by omega) (by omega) (by simp; omega)
        rw [Int.toNat_of_nonneg h3.1] at g
        exact g
      · rw [decide_eq_false h3]
        exact no (by omega)
    · rw [ev_neg h2]
      exact no (fun h => h2 h.2.2.1)
  · rw [ev_neg (by simpa using h1)]
    exact no (fun h => h1 ⟨h.1, h.2.1⟩)





/-! ### Unlift over levels -/
def unl (kind : Int) (l : List Int) : Nat → Nat → List Int
  | 0, n => l.take n
  | d + 1, n => if n ≤ 1 then l.take n else backV kind (unl kind l d ((n + 1) / 2)) ((l.take n).drop ((n + 1) / 2))
theorem unl_length (kind : Int) (l : List Int) : ∀ (d n : Nat), n ≤ l.length → (unl kind l d n).length = n := by
  intro d
  induction d with
  | zero => intro n hn; simp [unl]; omega
  | succ d ih =>
    intro n hn
    unfold unl
    split
    · simp; omega
    · have h1 := ih ((n + 1) / 2) (by omega)
      have h2 : ((l.take n).drop ((n + 1) / 2)).length = n / 2 := by rw [List.length_drop, List.length_take]; omega
      rw [backV_length _ _ _ (by omega), h1, h2]
      omega
def szV (n : Nat) : Nat → Nat
  | 0 => n
  | j + 1 => (szV n j + 1) / 2
theorem szV_le (n : Nat) : ∀ j, szV n j ≤ n := by
  intro j
  induction j with
  | zero => exact Nat.le_refl _
  | succ j ih =>
    show (szV n j + 1) / 2 ≤ n
    cases h : szV n j with
    | zero => omega
    | succ m => omega
def szL (n j : Nat) : List Int := tab (j + 1) fun i => (szV n i : Int)
theorem szL_length (n j : Nat) : (szL n j).length = j + 1 := by simp [szL]
theorem szL_at {n j i : Nat} (h : i ≤ j) : rd (szL n j) (i : Int) = (szV n i : Int) := by unfold szL; rw [rd_tab' (by omega)]
theorem szL_succ (n j : Nat) : szL n (j + 1) = szL n j ++ [(szV n (j + 1) : Int)] := by unfold szL; rw [tab_succ]
theorem unl_step (kind : Int) (l : List Int) (L t : Nat) (h1 : 1 < szV l.length t) (ht : t < L) :
    unl kind l (L - t) (szV l.length t) = backV kind (unl kind l (L - (t + 1)) (szV l.length (t + 1))) ((l.take (szV l.length t)).drop (szV l.length (t + 1))) := by
  have e : L - t = (L - (t + 1)) + 1 := by omega
  rw [e]
  show (if szV l.length t ≤ 1 then _ else _) = _
  rw [if_neg (by omega)]
  rfl
theorem unl_stop (kind : Int) (l : List Int) (L t : Nat) (h : t = L ∨ szV l.length t ≤ 1) : unl kind l (L - t) (szV l.length t) = l.take (szV l.length t) := by
  cases e : L - t with
  | zero => rfl
  | succ d =>
    show (if szV l.length t ≤ 1 then _ else _) = _
    rw [if_pos (by omega)]
theorem implUnlDown_ev (kind : Int) (l : List Int) (L j : Nat) (hl : l.length ≤ 512) (hj : j ≤ L) (hL : L ≤ 100) (hs : ∀ i, i < j → 1 < szV l.length i) : ∀ t, t ≤ j →
    Ev (fun k => impl_Unlift.l1 k kind l (szL l.length j) (unl kind l (L - t) (szV l.length t)) ((t : Int) - 1)) (unl kind l L l.length, true) := by
  intro t
  induction t with
  | zero =>
    intro _
    rw [ev_shift]
    simp only [impl_Unlift.l1]
    rw [ev_neg (by omega)]
    exact Ev.now _
  | succ t ih =>
    intro ht
    have g := ih (by omega)
    have h1 := hs t (by omega)
    have hle := szV_le l.length t
    have e0 : szV l.length (t + 1) = (szV l.length t + 1) / 2 := rfl
    have ul := unl_length kind l (L - (t + 1)) (szV l.length (t + 1)) (szV_le l.length (t + 1))
    have el : ((l.take (szV l.length t)).drop (szV l.length (t + 1))).length = szV l.length t / 2 := by rw [List.length_drop, List.length_take]; omega
    rw [unl_step kind l L t h1 (by omega)] at g
    rw [ev_shift]
    simp only [impl_Unlift.l1]
    have e1 : ((t + 1 : Nat) : Int) - 1 = (t : Int) := by omega
    have e2 : (t : Int) + 1 = ((t + 1 : Nat) : Int) := by omega
    rw [e1, w64 (n := (t : Int) + 1) (by omega) (by omega), w64 (n := (t : Int) - 1) (by omega) (by omega), e2, szL_length, szL_at (by omega : t + 1 ≤ j), szL_at (by omega : t ≤ j)]
    simp only [Int.toNat_natCast]
    rw [ev_pos (by omega), ev_pos (by omega), ev_pos (by omega), ev_pos (by omega), ev_pos (by omega), ev_pos (by omega), ev_pos (by omega), ev_pos (by omega), ev_bind (implBack_ev kind _ _ (by omega) (by omega) (by omega))]
    exact g
theorem implUnlJ2_ev (kind : Int) (l : List Int) (L j : Nat) (hl : l.length ≤ 512) (hj : j ≤ L) (hL : L ≤ 100) (hs : ∀ i, i < j → 1 < szV l.length i) (hstop : j = L ∨ szV l.length j ≤ 1) :
    Ev (fun k => impl_Unlift.j2 k kind l (szL l.length j)) (unl kind l L l.length, true) := by
  have hle := szV_le l.length j
  have g := implUnlDown_ev kind l L j hl hj hL hs j (Nat.le_refl _)
  rw [unl_stop kind l L j hstop] at g
  rw [ev_shift]
  simp only [impl_Unlift.j2]
  have e1 : ((szL l.length j).length : Int) - 1 = (j : Int) := by rw [szL_length]; omega
  have e2 : ((szL l.length j).length : Int) - 2 = (j : Int) - 1 := by rw [szL_length]; omega
  rw [e1, e2, w64 (n := (j : Int)) (by omega) (by omega), w64 (n := (j : Int) - 1) (by omega) (by omega), szL_at (Nat.le_refl _), szL_length]
  simp only [Int.toNat_natCast]
  rw [ev_pos (by omega), ev_pos (by omega), ev_pos (by omega), ev_pos (by omega), clone_eq _ (by rw [List.length_take]; omega), ev_sbind]
  exact g
theorem tdiv2 (n : Nat) (h : n ≤ 100000) : wrap64 (Int.tdiv (wrap64 ((n : Int) + 1)) 2) = (((n + 1) / 2 : Nat) : Int) := by
  rw [w64 (n := (n : Int) + 1) (by omega) (by omega)]
  have e : Int.tdiv ((n : Int) + 1) 2 = (((n + 1) / 2 : Nat) : Int) := by
    have e2 : (n : Int) + 1 = ((n + 1 : Nat) : Int) := by omega
    rw [e2]
    exact (Int.ofNat_tdiv (n + 1) 2).symm
  rw [e, w64 (by omega) (by omega)]
theorem implUnlUp_ev (kind : Int) (l : List Int) (L : Nat) (hl : l.length ≤ 512) (hL : L ≤ 100) : ∀ d j, j + d = L → (∀ i, i < j → 1 < szV l.length i) →
    Ev (fun k => impl_Unlift.l0 k kind l (szL l.length j) (L : Int) (j : Int)) (unl kind l L l.length, true) := by
  intro d
  induction d with
  | zero =>
    intro j hj hs
    rw [ev_shift]
    simp only [impl_Unlift.l0]
    rw [ev_neg (by omega)]
    exact implUnlJ2_ev kind l L j hl (by omega) hL hs (.inl (by omega))
  | succ d ih =>
    intro j hj hs
    have hle := szV_le l.length j
    rw [ev_shift]
    simp only [impl_Unlift.l0]
    have e1 : ((szL l.length j).length : Int) - 1 = (j : Int) := by rw [szL_length]; omega
    rw [e1, w64 (n := (j : Int)) (by omega) (by omega), szL_at (Nat.le_refl _), szL_length, ev_pos (by omega), ev_pos (by omega), ev_pos (by omega)]
    by_cases c : (szV l.length j : Int) ≤ 1
    · rw [ev_pos c]
      exact implUnlJ2_ev kind l L j hl (by omega) hL hs (.inr (by omega))
    · rw [ev_neg c, ev_pos (by omega), tdiv2 _ (by omega), w64 (n := (j : Int) + 1) (by omega) (by omega)]
      have g := ih (j + 1) (by omega) (fun i hi => by
        by_cases q : i = j
        · subst q
          omega
        · exact hs i (by omega))
      rw [szL_succ] at g
      exact g
open Classical in
noncomputable def unlR (kind : Int) (l : List Int) (n : Int) : List Int × Bool := if 1 ≤ kind ∧ kind ≤ 3 ∧ l.length ≤ 512 ∧ inB 8000000000 l = true ∧ 0 ≤ n ∧ n ≤ 8 then (unl kind l n.toNat l.length, true) else ([], false)
theorem unlR_length (kind : Int) (l : List Int) (n : Int) : (unlR kind l n).1.length ≤ 2000000 := by
  unfold unlR
  split
  · rename_i h
    show (unl kind l n.toNat l.length).length ≤ _
    rw [unl_length kind l _ _ (Nat.le_refl _)]
    omega
  · simp
theorem implUnlift_ev (kind : Int) (l : List Int) (n : Int) (hl : l.length ≤ 2000000) : Ev (fun k => impl_Unlift.f k kind l n) (unlR kind l n) := by
  unfold impl_Unlift.f
  have no : ¬ (1 ≤ kind ∧ kind ≤ 3 ∧ l.length ≤ 512 ∧ inB 8000000000 l = true ∧ 0 ≤ n ∧ n ≤ 8) → Ev (fun k => impl_Unlift.j0 k kind l n true) (unlR kind l n) := by
    intro h
    rw [ev_shift, unlR, if_neg h]
    simp only [impl_Unlift.j0, if_true]
    exact Ev.now _
  rw [isLift_eq, ev_sbind, isLevels_eq]
  by_cases h1 : 1 ≤ kind ∧ kind ≤ 3
  · rw [ev_pos (by simpa using h1)]
    by_cases h4 : (l.length : Int) > 512
    · rw [ev_pos h4]
      exact no (by omega)
    rw [ev_neg h4, ev_bind (within_ev l 8000000000 hl (by omega) (by omega))]
    by_cases h2 : inB 8000000000 l = true
    · rw [ev_pos h2, ev_sbind]
      by_cases h3 : 0 ≤ n ∧ n ≤ 8
      · rw [decide_eq_true h3, ev_shift, unlR, if_pos ⟨h1.1, h1.2, by omega, h2, h3.1, h3.2⟩]
        simp only [impl_Unlift.j0, Bool.not_true, Bool.false_eq_true, if_false]
        have g := implUnlUp_ev kind l n.toNat (by omega) (by omega) n.toNat 0 (by omega) (fun i hi => absurd hi (by omega))
        rw [Int.toNat_of_nonneg h3.1] at g
        exact g
      · rw [decide_eq_false h3]
        exact no (by omega)
    · rw [ev_neg h2]
      exact no (fun h => h2 h.2.2.2.1)
  · rw [ev_neg (by simpa using h1)]
    exact no (fun h => h1 ⟨h.1, h.2.1⟩)

/-! ### there and back -/
def ok64 (l : List Int) : Prop := ∀ i : Nat, i < l.length → wrap64 (rd l (i : Int)) = rd l (i : Int)
theorem ok64_tab (n : Nat) (g : Nat → Int) : ok64 (tab n fun i => wrap64 (g i)) := by
  intro i hi
  rw [tab_length] at hi
  rw [rd_tab' hi]
  have := wrap_range (g i)
  exact w64 this.1 this.2
theorem ok64_sig {l : List Int} (h : inB 8000000000 l = true) : ok64 l := by
  intro i _
  have := inB_rd h (by omega) (i : Int)
  exact w64 (by omega) (by omega)
theorem even_back (kind : Int) (l : List Int) (h : ok64 l) : evenB kind (lowV kind l) (highV kind l) = evenV l := by
  unfold evenB
  rw [lowV_length]
  conv => rhs; unfold evenV
  refine tab_congr fun i hi => ?_
  have e : rd (lowV kind l) (i : Int) = wrap64 (rd (evenV l) (i : Int) + moreV kind (highV kind l) (i : Int)) := by
    unfold lowV
    rw [rd_tab' (by rw [evenV_length]; exact hi)]
  have e2 : rd (evenV l) (i : Int) = rd l ((2 * i : Nat) : Int) := by
    unfold evenV
    rw [rd_tab' hi]
  rw [e, wrap_sub_l, Int.add_sub_cancel, e2]
  exact h _ (by omega)
theorem odd_back (kind : Int) (l : List Int) (h : ok64 l) : oddB kind (lowV kind l) (highV kind l) = oddV l := by
  unfold oddB
  rw [even_back kind l h, highV_length]
  conv => rhs; unfold oddV
  refine tab_congr fun i hi => ?_
  have e : rd (highV kind l) (i : Int) = wrap64 (rd (oddV l) (i : Int) - guessV kind (evenV l) (i : Int)) := by
    unfold highV
    rw [rd_tab' (by rw [oddV_length]; exact hi)]
  have e2 : rd (oddV l) (i : Int) = rd l ((2 * i + 1 : Nat) : Int) := by
    unfold oddV
    rw [rd_tab' hi]
  rw [e, wrap_add_l, Int.sub_add_cancel, e2]
  exact h _ (by omega)
theorem inter_split (l : List Int) : interV (evenV l) (oddV l) = l := by
  unfold interV
  rw [evenV_length, oddV_length]
  have := iter_inv (f := fun i s => if i < l.length / 2 then (s ++ [rd (evenV l) (i : Int)]) ++ [rd (oddV l) (i : Int)] else s ++ [rd (evenV l) (i : Int)]) (fun i (s : List Int) => s = tab (min (2 * i) l.length) fun j => rd l (j : Int)) ((l.length + 1) / 2) [] (by simp [tab]) fun i s hi hs => by
    have e2 : rd (evenV l) (i : Int) = rd l ((2 * i : Nat) : Int) := by
      unfold evenV
      rw [rd_tab' hi]
    have m1 : min (2 * i) l.length = 2 * i := by omega
    rw [m1] at hs
    by_cases c : i < l.length / 2
    · have e3 : rd (oddV l) (i : Int) = rd l ((2 * i + 1 : Nat) : Int) := by
        unfold oddV
        rw [rd_tab' c]
      have m2 : min (2 * (i + 1)) l.length = 2 * i + 1 + 1 := by omega
      simp only [if_pos c]
      rw [hs, e2, e3, m2, tab_succ, tab_succ]
    · have m2 : min (2 * (i + 1)) l.length = 2 * i + 1 := by omega
      simp only [if_neg c]
      rw [hs, e2, m2, tab_succ]
  rw [this]
  have m : min (2 * ((l.length + 1) / 2)) l.length = l.length := by omega
  rw [m, tab_rd]
theorem back_once (kind : Int) (l : List Int) (h : ok64 l) : backV kind (lowV kind l) (highV kind l) = l := by
  unfold backV
  rw [even_back kind l h, odd_back kind l h, inter_split]
theorem liftN_rest (kind : Int) : ∀ (d : Nat) (low rest : List Int), ∃ P : List Int, P.length = low.length ∧ ∀ r, liftN kind d low (rest ++ r) = P ++ (rest ++ r) := by
  intro d
  induction d with
  | zero => intro low rest; exact ⟨low, rfl, fun r => rfl⟩
  | succ d ih =>
    intro low rest
    by_cases c : low.length ≤ 1
    · refine ⟨low, rfl, fun r => ?_⟩
      unfold liftN
      rw [if_pos c]
    · obtain ⟨P, hP, e⟩ := ih (lowV kind low) (highV kind low)
      refine ⟨P ++ highV kind low, by rw [List.length_append, hP, lowV_length, highV_length]; omega, fun r => ?_⟩
      unfold liftN
      rw [if_neg c, e (rest ++ r), List.append_assoc]
theorem unl_lift (kind : Int) : ∀ (d : Nat) (l rest : List Int), ok64 l → unl kind (liftN kind d l rest) d l.length = l := by
  intro d
  induction d with
  | zero =>
    intro l rest _
    show (l ++ rest).take l.length = l
    simp
  | succ d ih =>
    intro l rest h
    unfold unl liftN
    by_cases c : l.length ≤ 1
    · rw [if_pos c, if_pos c]
      simp
    · rw [if_neg c, if_neg c]
      have h1 := ih (lowV kind l) (highV kind l ++ rest) (ok64_tab _ _)
      rw [lowV_length] at h1
      rw [h1]
      obtain ⟨P, hP, e⟩ := liftN_rest kind d (lowV kind l) (highV kind l)
      rw [e rest]
      have e2 : ((P ++ (highV kind l ++ rest)).take l.length).drop ((l.length + 1) / 2) = highV kind l := by
        have e3 : P ++ (highV kind l ++ rest) = (P ++ highV kind l) ++ rest := by rw [List.append_assoc]
        have e4 : (P ++ highV kind l).length = l.length := by rw [List.length_append, hP, lowV_length, highV_length]; omega
        rw [e3, ← e4, List.take_left, e4]
        have e5 : (l.length + 1) / 2 = P.length := by rw [hP, lowV_length]
        rw [e5, List.drop_left]
      rw [e2]
      exact back_once kind l h





theorem inB_cut {m : Int} {l : List Int} (a b : Nat) (h : inB m l = true) : inB m ((l.take a).drop b) = true := inB_iff.2 fun x hx => inB_iff.1 h x (List.mem_of_mem_take (List.mem_of_mem_drop hx))
theorem specUnlDown_ev (kind : Int) (l : List Int) (L j : Nat) (hl : l.length ≤ 512) (hw : inB 9000000000 l = true) (hj : j ≤ L) (hL : L ≤ 100) (hs : ∀ i, i < j → 1 < szV l.length i) : ∀ t, t ≤ j →
    Ev (fun k => spec_Unlift.l1 k kind l (szL l.length j) (unl kind l (L - t) (szV l.length t)) ((t : Int) - 1)) (unl kind l L l.length, true) := by
  intro t
  induction t with
  | zero =>
    intro _
    rw [ev_shift]
    simp only [spec_Unlift.l1]
    rw [ev_neg (by omega)]
    exact Ev.now _
  | succ t ih =>
    intro ht
    have g := ih (by omega)
    have h1 := hs t (by omega)
    have hle := szV_le l.length t
    have e0 : szV l.length (t + 1) = (szV l.length t + 1) / 2 := rfl
    have ul := unl_length kind l (L - (t + 1)) (szV l.length (t + 1)) (szV_le l.length (t + 1))
    have el : ((l.take (szV l.length t)).drop (szV l.length (t + 1))).length = szV l.length t / 2 := by rw [List.length_drop, List.length_take]; omega
    rw [unl_step kind l L t h1 (by omega)] at g
    rw [ev_shift]
    simp only [spec_Unlift.l1]
    have e1 : ((t + 1 : Nat) : Int) - 1 = (t : Int) := by omega
    have e2 : (t : Int) + 1 = ((t + 1 : Nat) : Int) := by omega
    rw [e1, w64 (n := (t : Int) + 1) (by omega) (by omega), w64 (n := (t : Int) - 1) (by omega) (by omega), e2, szL_length, szL_at (by omega : t + 1 ≤ j), szL_at (by omega : t ≤ j)]
    simp only [Int.toNat_natCast]
    rw [ev_pos (by omega), ev_pos (by omega), ev_pos (by omega), ev_pos (by omega), ev_pos (by omega), ev_pos (by omega), ev_pos (by omega), ev_pos (by omega), ev_bind (specBack_ev kind _ _ (by omega) (by omega) (by omega) (inB_cut _ _ hw))]
    exact g
theorem specUnlJ2_ev (kind : Int) (l : List Int) (L j : Nat) (hl : l.length ≤ 512) (hw : inB 9000000000 l = true) (hj : j ≤ L) (hL : L ≤ 100) (hs : ∀ i, i < j → 1 < szV l.length i) (hstop : j = L ∨ szV l.length j ≤ 1) :
    Ev (fun k => spec_Unlift.j2 k kind l (szL l.length j)) (unl kind l L l.length, true) := by
  have hle := szV_le l.length j
  have g := specUnlDown_ev kind l L j hl hw hj hL hs j (Nat.le_refl _)
  rw [unl_stop kind l L j hstop] at g
  have hn : ([] : List Int).length = 0 := rfl
  have ht : (l.take (szV l.length j)).length = szV l.length j := by rw [List.length_take]; omega
  rw [ev_shift]
  simp only [spec_Unlift.j2]
  have e1 : ((szL l.length j).length : Int) - 1 = (j : Int) := by rw [szL_length]; omega
  have e2 : ((szL l.length j).length : Int) - 2 = (j : Int) - 1 := by rw [szL_length]; omega
  rw [ev_sbind, e1, e2, w64 (n := (j : Int)) (by omega) (by omega), w64 (n := (j : Int) - 1) (by omega) (by omega), szL_at (Nat.le_refl _), szL_length, Int.toNat_natCast, ev_pos (by omega), ev_pos (by omega), ev_pos (by omega), ev_pos (by omega), ev_pos (by omega), List.nil_append]
  exact g
theorem specUnlUp_ev (kind : Int) (l : List Int) (L : Nat) (hl : l.length ≤ 512) (hw : inB 9000000000 l = true) (hL : L ≤ 100) : ∀ d j, j + d = L → (∀ i, i < j → 1 < szV l.length i) →
    Ev (fun k => spec_Unlift.l0 k kind l (L : Int) (szL l.length j) (j : Int)) (unl kind l L l.length, true) := by
  intro d
  induction d with
  | zero =>
    intro j hj hs
    rw [ev_shift]
    simp only [spec_Unlift.l0]
    rw [ev_neg (by omega)]
    exact specUnlJ2_ev kind l L j hl hw (by omega) hL hs (.inl (by omega))
  | succ d ih =>
    intro j hj hs
    have hle := szV_le l.length j
    rw [ev_shift]
    simp only [spec_Unlift.l0]
    rw [szL_at (Nat.le_refl _), szL_length, ev_pos (by omega), ev_pos (by omega), ev_pos (by omega)]
    by_cases c : (szV l.length j : Int) > 1
    · rw [ev_pos c, ev_pos (by omega), tdiv2 _ (by omega), w64 (n := (j : Int) + 1) (by omega) (by omega)]
      have g := ih (j + 1) (by omega) (fun i hi => by
        by_cases q : i = j
        · subst q
          omega
        · exact hs i (by omega))
      rw [szL_succ] at g
      exact g
    · rw [ev_neg c]
      exact specUnlJ2_ev kind l L j hl hw (by omega) hL hs (.inr (by omega))
theorem specUnlift_ev (kind : Int) (l : List Int) (n : Int) (hl : l.length ≤ 2000000) : Ev (fun k => spec_Unlift.f k kind l n) (unlR kind l n) := by
  unfold spec_Unlift.f
  have no : ¬ (1 ≤ kind ∧ kind ≤ 3 ∧ l.length ≤ 512 ∧ inB 8000000000 l = true ∧ 0 ≤ n ∧ n ≤ 8) → Ev (fun k => spec_Unlift.j0 k kind l n true) (unlR kind l n) := by
    intro h
    rw [ev_shift, unlR, if_neg h]
    simp only [spec_Unlift.j0, if_true]
    exact Ev.now _
  rw [l9Kind_eq, ev_sbind, l1In_eq]
  by_cases h1 : 1 ≤ kind ∧ kind ≤ 3
  · rw [ev_pos (by simpa using h1)]
    by_cases h4 : (l.length : Int) > 512
    · rw [ev_pos h4]
      exact no (by omega)
    rw [ev_neg h4, ev_bind (l9Wide_ev l 8000000000 hl (by omega) (by omega))]
    by_cases h2 : inB 8000000000 l = true
    · rw [ev_pos h2, ev_sbind]
      by_cases h3 : 0 ≤ n ∧ n ≤ 8
      · have h7 : inB 9000000000 l = true := inB_iff.2 fun x hx => by have := inB_iff.1 h2 x hx; omega
        rw [decide_eq_true h3, ev_shift, unlR, if_pos ⟨h1.1, h1.2, by omega, h2, h3.1, h3.2⟩]
        simp only [spec_Unlift.j0, Bool.not_true, Bool.false_eq_true, if_false]
        have g := specUnlUp_ev kind l n.toNat (by omega) h7 (by omega) n.toNat 0 (by omega) (fun i hi => absurd hi (by omega))
        rw [Int.toNat_of_nonneg h3.1] at g
        exact g
      · rw [decide_eq_false h3]
        exact no (by omega)
    · rw [ev_neg h2]
      exact no (fun h => h2 h.2.2.2.1)
  · rw [ev_neg (by simpa using h1)]
    exact no (fun h => h1 ⟨h.1, h.2.1⟩)

theorem kinds_ev (l : List Int) (n kind : Int) (hs : sigB l = true) (hn0 : 0 ≤ n) (hn1 : n ≤ 8) (hk0 : 1 ≤ kind) (hk1 : kind ≤ 3)
    (h : Ev (fun k => laws_FnLifted.l0 k l n (kind + 1)) true) : Ev (fun k => laws_FnLifted.l0 k l n kind) true := by
  have s1 := sigB_iff.1 hs
  have ho : ok64 l := ok64_sig (inB_iff.2 fun x hx => by have := inB_iff.1 s1.2 x hx; omega)
  have hon : onceR kind l = (lowV kind l, highV kind l, true) := by
    unfold onceR
    rw [if_pos ⟨hk0, hk1, hs⟩]
  have hli : liftR kind l n = (liftN kind n.toNat l [], true) := by
    unfold liftR
    rw [if_pos ⟨hk0, hk1, hs, hn0, hn1⟩]
  have ll := lowV_length kind l
  have lh := highV_length kind l
  have ly : (liftN kind n.toNat l []).length = l.length := by rw [liftN_length]; simp
  rw [ev_shift]
  simp only [laws_FnLifted.l0]
  rw [ev_pos hk1, ev_bind (implLiftOnce_ev kind l (by omega)), hon]
  simp only
  rw [ev_bind (implLiftBack_ev kind (lowV kind l) (highV kind l) (by omega) (by omega)), ev_bind (implLift_ev kind l n (by omega)), hli]
  simp only [if_true]
  rw [w64 (by omega) (by omega), ev_pos (by omega), ev_pos (by omega), ev_shift]
  simp only [laws_FnLifted.j3, Bool.not_true, Bool.false_eq_true, if_false]
  rw [ev_bind (specLiftBack_ev kind (lowV kind l) (highV kind l) (by omega) (by omega))]
  simp only [bne_self_eq_false, Bool.false_eq_true, if_false]
  have tail : Ev (fun k => laws_FnLifted.j4 k l n kind (liftN kind n.toNat l []) false) true := by
    rw [ev_shift]
    simp only [laws_FnLifted.j4, Bool.false_eq_true, if_false]
    rw [ev_bind (implUnlift_ev kind _ n (by omega)), ev_bind (specUnlift_ev kind _ n (by omega))]
    simp only [bne_self_eq_false, Bool.false_eq_true, if_false]
    rw [w64 (n := kind + 1) (by omega) (by omega)]
    unfold unlR
    by_cases c : 1 ≤ kind ∧ kind ≤ 3 ∧ (liftN kind n.toNat l []).length ≤ 512 ∧ inB 8000000000 (liftN kind n.toNat l []) = true ∧ 0 ≤ n ∧ n ≤ 8
    · simp only [if_pos c, if_true]
      rw [ly, unl_lift kind n.toNat l [] ho, ev_bind (sameInts_ev l l (by omega)), decide_eq_true rfl, ev_pos rfl]
      exact h
    · simp only [if_neg c, Bool.false_eq_true, if_false]
      exact h
  unfold backR
  by_cases c : 1 ≤ kind ∧ kind ≤ 3 ∧ (highV kind l).length ≤ (lowV kind l).length ∧ (lowV kind l).length ≤ (highV kind l).length + 1 ∧ (lowV kind l).length + (highV kind l).length ≤ 512 ∧ inB 8000000000 (lowV kind l) = true ∧ inB 8000000000 (highV kind l) = true
  · simp only [if_pos c, if_true]
    rw [back_once kind l ho, ev_bind (sameInts_ev l l (by omega)), decide_eq_true rfl]
    exact tail
  · simp only [if_neg c, Bool.false_eq_true, if_false]
    exact tail
theorem all_kinds (l : List Int) (n : Int) (hs : sigB l = true) (hn0 : 0 ≤ n) (hn1 : n ≤ 8) : Ev (fun k => laws_FnLifted.j1 k l n) true := by
  rw [ev_shift]
  simp only [laws_FnLifted.j1]
  have k4 : Ev (fun k => laws_FnLifted.l0 k l n 4) true := by
    rw [ev_shift]
    simp only [laws_FnLifted.l0]
    rw [ev_neg (by omega)]
    exact Ev.now _
  have k3 := kinds_ev l n 3 hs hn0 hn1 (by omega) (by omega) k4
  have k2 := kinds_ev l n 2 hs hn0 hn1 (by omega) (by omega) k3
  exact kinds_ev l n 1 hs hn0 hn1 (by omega) (by omega) k2
theorem FnLifted : laws_FnLifted.Pure := by
  intro l0 _ _ hw
  refine Ev.rounds (g := fun k => laws_FnLifted.f k l0) ?_
  simp only [laws_FnLifted.f, big_eq, Option.bind_some]
  by_cases hlen : (l0.length : Int) > 1048576
  · rw [ev_pos (by simpa using hlen)]
    exact Ev.now _
  rw [ev_neg (by simpa using hlen)]
  obtain ⟨a, l, n, hd, hl⟩ := DrawLift_ev l0 (by omega)
  rw [ev_bind hd]
  simp only
  have other : Ev (fun k => laws_FnLifted.j0 k l n true) true := by
    rw [ev_shift]
    simp only [laws_FnLifted.j0, if_true]
    exact all_kinds [5, (-3), 8] 2 (by decide) (by omega) (by omega)
  rw [ev_bind (specSig_ev l (by omega))]
  by_cases h1 : sigB l = true
  · rw [ev_pos h1]
    by_cases h2 : n < 0
    · rw [ev_pos h2]
      exact other
    rw [ev_neg h2]
    by_cases h3 : n > 8
    · rw [decide_eq_true h3]
      exact other
    · rw [decide_eq_false h3, ev_shift]
      simp only [laws_FnLifted.j0, Bool.false_eq_true, if_false]
      exact all_kinds l n h1 (by omega) (by omega)
  · rw [ev_neg h1]
    exact other

end Go.Proofs.Ytiffgdhhppmpaaa.Pure
