/- The pure part of FnUpDown: a signal made denser and thinned again is itself; at the last phase it is noughts. No conditions. -/
import Derived.Test.YthmgjfobngmbcaaQFnUpDownx4
import Derived.Test.YthmgjfobngmbcaaBase
namespace Go.Proofs.Ythmgjfobngmbcaa.Pure
open Go.RowKit Go.Proofs.Ythmgjfobngmbcaa.QFnUpDown Go.Proofs.YthmgjfobngmbcaaW.PrintWords Go.Proofs.YthmgjfobngmbcaaW.PrintLast
open Go.Proofs.Ythmgjfobngmbcaa.Base
set_option linter.unusedVariables false
set_option linter.unusedSimpArgs false
/-! ### the cursor of a draw -/
def CurOk (b : List Int) (i : Int) : Prop := 0 ≤ i ∧ i ≤ (b.length : Int) ∧ b.length ≤ 2000000
theorem l1New_ev (b : List Int) (hb : b.length ≤ 2000000) : ∃ h, Ev (fun k => spec_l1New.f k b) (b, 0, h) := by
  unfold spec_l1New.f
  refine ⟨iter (fun i h => Go.bits .and .i64 (wrap64 ((wrap64 ((wrap64 (h * 131)) + (wrap64 (rd b (i : Int))))) + 7)) 1073741823) (min b.length 4000) (wrap64 (71933 + (b.length : Int))), ?_⟩
  rw [(for_iff (fun k h i => spec_l1New.l0 k b h i) (fun i h => Go.bits .and .i64 (wrap64 ((wrap64 ((wrap64 (h * 131)) + (wrap64 (rd b (i : Int))))) + 7)) 1073741823) (fun _ _ => True) (min b.length 4000) _ ?_ _ trivial).2]
  · rw [ev_shift]
    simp only [spec_l1New.l0]
    by_cases h : ((min b.length 4000 : Nat) : Int) < (b.length : Int)
    · rw [ev_pos h, ev_neg (by omega)]
      exact Ev.now _
    · rw [ev_neg h]
      exact Ev.now _
  · intro i s hi _
    refine ⟨trivial, ?_⟩
    rw [ev_shift]
    simp only [spec_l1New.l0]
    rw [ev_pos (by omega), ev_pos (by omega), ev_pos (by omega), w64 (n := (i : Int) + 1) (by omega) (by omega)]
theorem l1Byte_ok (b : List Int) (i h : Int) (hc : CurOk b i) : ∃ x i' h', spec_l1Byte.f b i h = some (x, i', h') ∧ CurOk b i' ∧ 0 ≤ x ∧ x ≤ 255 := by
  obtain ⟨h0, h1, h2⟩ := hc
  unfold spec_l1Byte.f
  by_cases c : i < (b.length : Int)
  · rw [if_pos c, if_pos h0]
    have := band_range
    refine ⟨_, _, _, rfl, ⟨?_, ?_, h2⟩, (band_range _ 255 (by omega) (by omega)).1, (band_range _ 255 (by omega) (by omega)).2⟩
    · rw [w64 (by omega) (by omega)]; omega
    · rw [w64 (by omega) (by omega)]; omega
  · rw [if_neg c]
    exact ⟨_, _, _, rfl, ⟨h0, h1, h2⟩, (band_range _ 255 (by omega) (by omega)).1, (band_range _ 255 (by omega) (by omega)).2⟩
theorem l1Below_ok (b : List Int) (i h n : Int) (hc : CurOk b i) : ∃ x i' h', spec_l1Below.f b i h n = some (x, i', h') ∧ CurOk b i' ∧ 0 ≤ x ∧ (0 < n → x < n) ∧ (n ≤ 0 → x = 0) := by
  unfold spec_l1Below.f
  by_cases c : n ≤ 0
  · rw [if_pos c]
    exact ⟨_, _, _, rfl, hc, by omega, by omega, fun _ => rfl⟩
  · rw [if_neg c]
    by_cases d : n ≤ 256
    · rw [if_pos d]
      obtain ⟨x, i1, h1, e, hc1, hx0, hx1⟩ := l1Byte_ok b i h hc
      rw [e]
      simp only [Option.bind_some]
      rw [if_neg (by omega)]
      refine ⟨_, _, _, rfl, hc1, ?_, fun _ => ?_, fun h => absurd h c⟩
      · exact Int.tmod_nonneg _ hx0
      · exact Int.tmod_lt_of_pos _ (by omega)
    · rw [if_neg d]
      obtain ⟨x, i1, h1, e, hc1, hx0, hx1⟩ := l1Byte_ok b i h hc
      rw [e]
      simp only [Option.bind_some]
      obtain ⟨y, i2, h2, e, hc2, hy0, hy1⟩ := l1Byte_ok b i1 h1 hc1
      rw [e]
      simp only [Option.bind_some]
      obtain ⟨z, i3, h3, e, hc3, hz0, hz1⟩ := l1Byte_ok b i2 h2 hc2
      rw [e]
      simp only [Option.bind_some]
      obtain ⟨w, i4, h4, e, hc4, hw0, hw1⟩ := l1Byte_ok b i3 h3 hc3
      rw [e]
      simp only [Option.bind_some]
      rw [if_neg (by omega)]
      refine ⟨_, _, _, rfl, hc4, ?_, fun _ => ?_, fun h => absurd h c⟩
      · refine Int.tmod_nonneg _ ?_
        rw [w64 (n := x * 16777216) (by omega) (by omega), w64 (n := y * 65536) (by omega) (by omega), w64 (n := z * 256) (by omega) (by omega), w64 (n := x * 16777216 + y * 65536) (by omega) (by omega), w64 (n := x * 16777216 + y * 65536 + z * 256) (by omega) (by omega), w64 (by omega) (by omega)]
        omega
      · exact Int.tmod_lt_of_pos _ (by omega)
theorem l1Once_ok (b : List Int) (i h n : Int) (hc : CurOk b i) : ∃ t i' h', spec_l1Once.f b i h n = some (t, i', h') ∧ CurOk b i' := by
  unfold spec_l1Once.f
  obtain ⟨x, i1, h1, e, hc1, _⟩ := l1Below_ok b i h n hc
  rw [e]
  exact ⟨_, _, _, rfl, hc1⟩

theorem l1PickInt_ok (b : List Int) (i h : Int) (l : List Int) (hl : 0 < l.length) (hc : CurOk b i) : ∃ x i' h', spec_l1PickInt.f b i h l = some (x, i', h') ∧ CurOk b i' ∧ x ∈ l := by
  unfold spec_l1PickInt.f
  obtain ⟨x, i1, h1, e, hc1, h0, hx, _⟩ := l1Below_ok b i h (l.length : Int) hc
  rw [e]
  simp only [Option.bind_some]
  have := hx (by omega)
  rw [if_pos h0, if_pos this]
  exact ⟨_, _, _, rfl, hc1, rd_mem h0 this⟩

theorem l1Size_eq (l : List Int) (m : Int) (hl : l.length ≤ 2000000) (hm : 2 ≤ m) : ∃ s, spec_l1Size.f l m = some s ∧ 2 ≤ s ∧ s ≤ m := by
  unfold spec_l1Size.f
  rw [w64 (n := (l.length : Int) / 20) (by omega) (by omega), w64 (by omega) (by omega)]
  by_cases h : 2 + (l.length : Int) / 20 > m
  · rw [if_pos h]
    exact ⟨m, rfl, hm, by omega⟩
  · rw [if_neg h]
    exact ⟨_, rfl, by omega, by omega⟩
theorem l5DrawSample_ok (b : List Int) (i h : Int) (hc : CurOk b i) : ∃ x i' h', spec_l5DrawSample.f b i h = some (x, i', h') ∧ CurOk b i' ∧ -1000000000 ≤ x ∧ x ≤ 1000000000 := by
  unfold spec_l5DrawSample.f
  obtain ⟨x, i1, h1, e, hc1, h0, hx, _⟩ := l1Below_ok b i h 5 hc
  rw [e]
  simp only [Option.bind_some]
  by_cases c0 : x = 0
  · rw [if_pos c0]
    obtain ⟨y, i2, h2, e, hc2, hy0, hy, _⟩ := l1Below_ok b i1 h1 21 hc1
    rw [e]
    simp only [Option.bind_some]
    have := hy (by omega)
    exact ⟨_, _, _, rfl, hc2, by rw [w64 (by omega) (by omega)]; omega, by rw [w64 (by omega) (by omega)]; omega⟩
  · rw [if_neg c0]
    have last : ∀ i1 h1, CurOk b i1 → ∃ x i' h', ((spec_l1Below.f b i1 h1 2001).bind fun t => (some (wrap64 (t.1 - 1000), t.2.1, t.2.2))) = some (x, i', h') ∧ CurOk b i' ∧ -1000000000 ≤ x ∧ x ≤ 1000000000 := by
      intro i1 h1 hc1
      obtain ⟨y, i2, h2, e, hc2, hy0, hy, _⟩ := l1Below_ok b i1 h1 2001 hc1
      rw [e]
      simp only [Option.bind_some]
      have := hy (by omega)
      exact ⟨_, _, _, rfl, hc2, by rw [w64 (by omega) (by omega)]; omega, by rw [w64 (by omega) (by omega)]; omega⟩
    by_cases c1 : x = 1
    · rw [if_pos c1]
      obtain ⟨y, i2, h2, e, hc2, hy0, hy, _⟩ := l1Below_ok b i1 h1 65536 hc1
      rw [e]
      simp only [Option.bind_some]
      have := hy (by omega)
      exact ⟨_, _, _, rfl, hc2, by rw [w64 (by omega) (by omega)]; omega, by rw [w64 (by omega) (by omega)]; omega⟩
    · rw [if_neg c1]
      by_cases c2 : x = 2
      · rw [if_pos c2]
        obtain ⟨t, i2, h2, e, hc2⟩ := l1Once_ok b i1 h1 12 hc1
        rw [e]
        simp only [Option.bind_some]
        by_cases c3 : t = true
        · rw [if_pos c3]
          obtain ⟨y, i3, h3, e, hc3, hy⟩ := l1PickInt_ok b i2 h2 [1000000000, (-1000000000), 0] (by simp) hc2
          rw [e]
          simp only [Option.bind_some]
          refine ⟨_, _, _, rfl, hc3, ?_⟩
          simp only [List.mem_cons, List.not_mem_nil, or_false] at hy
          omega
        · rw [if_neg c3]
          exact last _ _ hc2
      · rw [if_neg c2]
        exact last _ _ hc1
/-- A loop that counts down and appends what it draws. -/
theorem l5DrawLoop (b : List Int) : ∀ (n : Nat) (s : List Int) (i h : Int), CurOk b i → s.length + n ≤ 1000000 → (∀ x ∈ s, -1000000000 ≤ x ∧ x ≤ 1000000000) →
    ∃ r i' h', Ev (fun k => spec_l5Draw.l0 k s (n : Int) b i h) (r, i', h') ∧ CurOk b i' ∧ r.length ≤ s.length + n ∧ (∀ x ∈ r, -1000000000 ≤ x ∧ x ≤ 1000000000) := by
  intro n
  induction n with
  | zero =>
    intro s i h hc _ hs
    refine ⟨s, i, h, ?_, hc, by omega, hs⟩
    rw [ev_shift]
    simp only [spec_l5Draw.l0]
    rw [ev_neg (by omega)]
    exact Ev.now _
  | succ n ih =>
    intro s i h hc hn hs
    obtain ⟨x, i1, h1, e, hc1, hx⟩ := l5DrawSample_ok b i h hc
    · obtain ⟨r, i2, h2, e2, hc2, hr, hr2⟩ := ih (s ++ [x]) i1 h1 hc1 (by simp; omega) (by
        intro y hy
        rw [List.mem_append, List.mem_singleton] at hy
        rcases hy with hy | hy
        · exact hs y hy
        · subst hy
          exact hx)
      refine ⟨r, i2, h2, ?_, hc2, by simp at hr; omega, hr2⟩
      rw [ev_shift]
      simp only [spec_l5Draw.l0, e, Option.bind_some]
      rw [ev_pos (by omega), ev_pos (by omega), w64 (by omega) (by omega)]
      have e3 : ((n + 1 : Nat) : Int) - 1 = (n : Int) := by omega
      rw [e3]
      exact e2
theorem l5Draw_ev (b : List Int) (i h m : Int) (hc : CurOk b i) (h0 : 0 ≤ m) (h1 : m ≤ 1000) :
    ∃ r i' h', Ev (fun k => spec_l5Draw.f k b i h m) (r, i', h') ∧ CurOk b i' ∧ (r.length : Int) ≤ m ∧ (∀ x ∈ r, -1000000000 ≤ x ∧ x ≤ 1000000000) := by
  unfold spec_l5Draw.f
  rw [w64 (by omega) (by omega)]
  obtain ⟨x, i1, h1', e, hc1, hx0, hx, _⟩ := l1Below_ok b i h (m + 1) hc
  rw [e]
  simp only [Option.bind_some]
  have := hx (by omega)
  obtain ⟨r, i2, h2, e2, hc2, hr, hr2⟩ := l5DrawLoop b x.toNat [] i1 h1' hc1 (by simp; omega) (by simp)
  rw [Int.toNat_of_nonneg hx0] at e2
  exact ⟨r, i2, h2, e2, hc2, by simp at hr; omega, hr2⟩
theorem l5DrawAny_ev (b : List Int) (i h m : Int) (hc : CurOk b i) (h0 : 0 ≤ m) (h1 : m ≤ 1000) :
    ∃ r i' h', Ev (fun k => spec_l5DrawAny.f k b i h m) (r, i', h') ∧ CurOk b i' ∧ r.length ≤ 2000 ∧ (∀ x ∈ r, -1000000001 ≤ x ∧ x ≤ 1000000001) := by
  unfold spec_l5DrawAny.f
  obtain ⟨r, i1, h1', e, hc1, hr, hr2⟩ := l5Draw_ev b i h m hc h0 h1
  have tail : ∀ (s : List Int) (i h : Int), CurOk b i → s.length ≤ 2000 → (∀ x ∈ s, -1000000001 ≤ x ∧ x ≤ 1000000001) →
      ∃ r i' h', Ev (fun k => spec_l5DrawAny.j0 k s b i h) (r, i', h') ∧ CurOk b i' ∧ r.length ≤ 2000 ∧ (∀ x ∈ r, -1000000001 ≤ x ∧ x ≤ 1000000001) := by
    intro s i h hc hs hs2
    obtain ⟨t, i2, h2, e, hc2⟩ := l1Once_ok b i h 80 hc
    by_cases ht : t = true
    · obtain ⟨x, i3, h3, e3, hc3, hx0, hx, _⟩ := l1Below_ok b i2 h2 2 hc2
      have := hx (by omega)
      refine ⟨List.replicate (512 + x).toNat 0, i3, h3, ?_, hc3, by simp; omega, ?_⟩
      · rw [ev_shift]
        simp only [spec_l5DrawAny.j0, e, Option.bind_some]
        rw [ev_pos ht]
        simp only [e3, Option.bind_some]
        rw [w64 (by omega) (by omega), ev_pos (by omega), ev_pos (by omega)]
        exact Ev.now _
      · intro y hy
        rw [List.mem_replicate] at hy
        omega
    · refine ⟨s, i2, h2, ?_, hc2, hs, hs2⟩
      rw [ev_shift]
      simp only [spec_l5DrawAny.j0, e, Option.bind_some]
      rw [ev_neg ht]
      exact Ev.now _
  obtain ⟨t, i2, h2, e2, hc2⟩ := l1Once_ok b i1 h1' 25 hc1
  have hr3 : ∀ x ∈ r, -1000000001 ≤ x ∧ x ≤ 1000000001 := fun x hx => by have := hr2 x hx; omega
  by_cases ht : t = true
  · obtain ⟨x, i3, h3, e3, hc3, hx⟩ := l1PickInt_ok b i2 h2 [1000000001, (-1000000001)] (by simp) hc2
    simp only [List.mem_cons, List.not_mem_nil, or_false] at hx
    obtain ⟨q, i4, h4, e4, hc4, hq⟩ := tail (r ++ [x]) i3 h3 hc3 (by simp; omega) (by
      intro y hy
      rw [List.mem_append, List.mem_singleton] at hy
      rcases hy with hy | hy
      · exact hr3 y hy
      · omega)
    refine ⟨q, i4, h4, ?_, hc4, hq⟩
    rw [ev_bind e]
    simp only [e2, Option.bind_some]
    rw [ev_pos ht]
    simp only [e3, Option.bind_some]
    rw [ev_pos (by omega)]
    exact e4
  · obtain ⟨q, i4, h4, e4, hc4, hq⟩ := tail r i2 h2 hc2 (by omega) hr3
    refine ⟨q, i4, h4, ?_, hc4, hq⟩
    rw [ev_bind e]
    simp only [e2, Option.bind_some]
    rw [ev_neg ht]
    exact e4

theorem sameInts_ev (a b : List Int) (h : a.length ≤ 2000000) : Ev (fun k => laws_sameInts.f k a b) (decide (a = b)) := by
  unfold laws_sameInts.f
  by_cases e : a.length = b.length
  · rw [ev_pos (by omega)]
    rw [all_iff (fun k i => laws_sameInts.l0 k a b i) (fun i => decide (rd a (i : Int) = rd b (i : Int))) a.length _ false]
    · split
      · rename_i hp
        have : a = b := list_ext_rd e fun i hi => by simpa using range_all.1 hp i hi
        rw [decide_eq_true this]
        exact Ev.step (fun k => by simp only [laws_sameInts.l0]; rw [if_neg (by omega)]) (Ev.now _)
      · rename_i hp
        have : ¬ a = b := fun h => hp (by subst h; rw [range_all]; simp)
        simp [this]
    · intro i hi
      by_cases p : rd a (i : Int) = rd b (i : Int)
      · rw [if_pos (by simpa using p)]
        rw [ev_shift]
        simp only [laws_sameInts.l0]
        rw [ev_pos (by omega), ev_pos (by omega), ev_pos (by omega), ev_pos p, w64 (by omega) (by omega)]
      · rw [if_neg (by simpa using p)]
        rw [ev_shift]
        simp only [laws_sameInts.l0]
        rw [ev_pos (by omega), ev_pos (by omega), ev_pos (by omega), ev_neg p, ev_some_iff]
  · rw [ev_neg (by omega)]
    have : ¬ a = b := fun h => e (by rw [h])
    simp only [this, decide_false]
    exact Ev.now _
theorem big_eq (l : List Int) : laws_big.f l = some (decide ((l.length : Int) > 1048576)) := rfl

theorem l1In_eq (a b c : Int) : spec_l1In.f a b c = some (decide (b ≤ a ∧ a ≤ c)) := by
  unfold spec_l1In.f
  by_cases h : a ≥ b
  · rw [if_pos h]
    congr 1
    rw [decide_eq_decide]
    omega
  · rw [if_neg h]
    congr 1
    symm
    rw [decide_eq_false_iff_not]
    omega

theorem l5Sample_eq (a : Int) : spec_l5Sample.f a = some (decide (-1000000000 ≤ a ∧ a ≤ 1000000000)) := by
  unfold spec_l5Sample.f
  rw [l1In_eq]
  rfl
theorem specSig_ev (l : List Int) (hl : l.length ≤ 2000000) : Ev (fun k => spec_SignalOk.f k l) (sigB l) := by
  unfold spec_SignalOk.f
  rw [sigB, inB_range]
  rw [all_iff (fun k i => spec_SignalOk.l0 k l i) (fun i => decide (-1000000000 ≤ rd l (i : Int)) && decide (rd l (i : Int) ≤ 1000000000)) l.length _ false]
  · split
    · rename_i hp
      rw [hp, Bool.and_true]
      exact Ev.step (f := fun _ => some (decide (l.length ≤ 512))) (fun k => by simp only [spec_SignalOk.l0]; rw [if_neg (by omega)]; congr 1; rw [decide_eq_decide]; omega) (Ev.now _)
    · rename_i hp
      simp only [Bool.not_eq_true] at hp
      rw [hp, Bool.and_false]
  · intro i hi
    by_cases p : -1000000000 ≤ rd l (i : Int) ∧ rd l (i : Int) ≤ 1000000000
    · rw [if_pos (by simpa using p)]
      rw [ev_shift]
      simp only [spec_SignalOk.l0]
      rw [ev_pos (by omega), ev_pos (by omega), l5Sample_eq]
      simp only [Option.bind_some]
      rw [ev_pos (by simpa using p), w64 (by omega) (by omega)]
    · rw [if_neg (by simpa using p)]
      rw [ev_shift]
      simp only [spec_SignalOk.l0]
      rw [ev_pos (by omega), ev_pos (by omega), l5Sample_eq]
      simp only [Option.bind_some]
      rw [ev_neg (by simpa using p), ev_some_iff]

theorem within_ev (l : List Int) (m : Int) (hl : l.length ≤ 2000000) (h0 : 0 ≤ m) (h1 : m ≤ 1000000000000) : Ev (fun k => impl_within.f k l m) (inB m l) := by
  unfold impl_within.f
  rw [inB_range]
  rw [all_iff (fun k i => impl_within.l0 k m l (l.length : Int) i) (fun i => decide (-m ≤ rd l (i : Int)) && decide (rd l (i : Int) ≤ m)) l.length _ false]
  · split
    · rename_i hp
      rw [hp]
      exact Ev.step (fun k => by simp only [impl_within.l0]; rw [if_neg (by omega)]) (Ev.now _)
    · rename_i hp
      simpa using hp
  · intro i hi
    by_cases p : -m ≤ rd l (i : Int) ∧ rd l (i : Int) ≤ m
    · rw [if_pos (by simpa using p)]
      rw [ev_shift]
      simp only [impl_within.l0]
      rw [ev_pos (by omega), ev_pos (by omega), ev_pos (by omega), w64 (n := -m) (by omega) (by omega), ev_neg (by omega), ev_neg (by omega), w64 (by omega) (by omega)]
    · rw [if_neg (by simpa using p)]
      rw [ev_shift]
      simp only [impl_within.l0]
      rw [ev_pos (by omega), ev_pos (by omega), ev_pos (by omega), w64 (n := -m) (by omega) (by omega)]
      by_cases q : rd l (i : Int) < -m
      · rw [ev_pos q, ev_some_iff]
      · rw [ev_neg q, ev_pos (by omega), ev_some_iff]

theorem implSig_ev (l : List Int) (hl : l.length ≤ 2000000) : Ev (fun k => impl_SignalOk.f k l) (sigB l) := by
  unfold impl_SignalOk.f
  by_cases h : (l.length : Int) ≤ 512
  · rw [ev_pos h]
    rw [ev_bind (within_ev l 1000000000 hl (by omega) (by omega)), ev_some_iff, sigB, decide_eq_true (by omega : l.length ≤ 512), Bool.true_and]
  · rw [ev_neg h]
    rw [ev_some_iff, sigB, decide_eq_false (by omega : ¬ l.length ≤ 512), Bool.false_and]

/-! ### Up: noughts laid between -/
def upV (l : List Int) (b : Nat) : List Int := iter (fun i s => s ++ (rd l (i : Int) :: List.replicate b 0)) l.length []
theorem upV_length (l : List Int) (b : Nat) : (upV l b).length = l.length * (b + 1) := by
  unfold upV
  refine iter_inv (fun i (s : List Int) => s.length = i * (b + 1)) l.length [] (by simp) fun i s _ hs => ?_
  simp only [List.length_append, List.length_cons, List.length_replicate, hs, Nat.add_mul]
  omega
theorem specUpV_ev (l : List Int) (b : Nat) (hl : l.length ≤ 512) (hb : b < 16) : Ev (fun k => spec_l11Up.f k l ((b : Int) + 1)) (upV l b) := by
  unfold spec_l11Up.f
  rw [(for_iff (fun k s i => spec_l11Up.l0 k l ((b : Int) + 1) s i) (fun i s => s ++ (rd l (i : Int) :: List.replicate b 0)) (fun i s => s.length ≤ i * 16) l.length _ ?_ [] (by simp)).2]
  · rw [ev_shift]
    simp only [spec_l11Up.l0]
    rw [ev_neg (by omega)]
    exact Ev.now _
  · intro i s hi hs
    refine ⟨by simp only [List.length_append, List.length_cons, List.length_replicate]; omega, ?_⟩
    rw [ev_shift]
    simp only [spec_l11Up.l0]
    rw [ev_pos (by omega), ev_pos (by omega), ev_pos (by omega)]
    have h := (for_at (fun k s j => spec_l11Up.l1 k l ((b : Int) + 1) s (i : Int) j) (fun _ s => s ++ [0]) (fun j s => s.length ≤ i * 16 + 1 + j) 1 b (upV l b) ?_ (s ++ [rd l (i : Int)]) (by simp; omega)).2
    · rw [h, ev_shift]
      simp only [spec_l11Up.l1]
      rw [ev_neg (by omega), w64 (by omega) (by omega), iter_push]
      have e : tab b (fun _ => 0) = List.replicate b 0 := by
        unfold tab
        rw [List.map_const']
        simp
      rw [e, List.append_assoc, List.singleton_append]
    · intro j t hj ht
      refine ⟨by simp; omega, ?_⟩
      rw [ev_shift]
      simp only [spec_l11Up.l1]
      rw [ev_pos (by omega), ev_pos (by omega), w64 (by omega) (by omega)]
theorem implUpV_ev (l : List Int) (b : Nat) (hl : l.length ≤ 512) (hb : b < 16) : Ev (fun k => impl_up.f k l ((b : Int) + 1)) (upV l b) := by
  unfold impl_up.f
  rw [(for_iff (fun k s i => impl_up.l0 k ((b : Int) + 1) s l (l.length : Int) i) (fun i s => s ++ (rd l (i : Int) :: List.replicate b 0)) (fun i s => s.length ≤ i * 16) l.length _ ?_ [] (by simp)).2]
  · rw [ev_shift]
    simp only [impl_up.l0]
    rw [ev_neg (by omega)]
    exact Ev.now _
  · intro i s hi hs
    refine ⟨by simp only [List.length_append, List.length_cons, List.length_replicate]; omega, ?_⟩
    rw [ev_shift]
    simp only [impl_up.l0]
    rw [ev_pos (by omega), ev_pos (by omega), ev_pos (by omega), ev_pos (by omega)]
    simp only [Option.bind_some]
    rw [w64 (n := (b : Int) + 1 - 1) (by omega) (by omega), ev_pos (by omega), ev_pos (by simp; omega), w64 (by omega) (by omega)]
    have e : ((b : Int) + 1 - 1).toNat = b := by omega
    rw [e, List.append_assoc, List.singleton_append]
theorem isRateU_eq (a : Int) : impl_isRate.f a = some (decide (1 ≤ a ∧ a ≤ 16)) := by
  unfold impl_isRate.f
  by_cases h : a ≥ 1
  · rw [if_pos h]
    congr 1
    rw [decide_eq_decide]
    omega
  · rw [if_neg h]
    congr 1
    symm
    rw [decide_eq_false_iff_not]
    omega
theorem l11ByU_eq (a : Int) : spec_l11By.f a = some (decide (1 ≤ a ∧ a ≤ 16)) := by
  unfold spec_l11By.f
  rw [l1In_eq]
  rfl
open Classical in
noncomputable def upR (l : List Int) (a : Int) : List Int × Bool :=
  if sigB l = true ∧ 1 ≤ a ∧ a ≤ 16 ∧ (l.length : Int) * a ≤ 512 then (upV l (a - 1).toNat, true) else ([], false)
theorem upR_length (l : List Int) (a : Int) : (upR l a).1.length ≤ 2000000 := by
  unfold upR
  split
  · rename_i h
    have hl := (sigB_iff.1 h.1).1
    rw [upV_length]
    have : l.length * ((a - 1).toNat + 1) ≤ 512 * 16 := Nat.mul_le_mul hl (by omega)
    omega
  · simp
theorem mul_rate {n a : Int} (h0 : 0 ≤ n) (h1 : n ≤ 512) (h2 : 1 ≤ a) (h3 : a ≤ 16) : wrap64 (n * a) = n * a := by
  have h4 : n * a ≤ 512 * 16 := Int.mul_le_mul h1 h3 (by omega) (by omega)
  have h5 : 0 ≤ n * a := Int.mul_nonneg h0 (by omega)
  exact w64 (by omega) (by omega)
theorem implUp_ev (l : List Int) (a : Int) (hl : l.length ≤ 2000000) : Ev (fun k => impl_Up.f k l a) (upR l a) := by
  unfold impl_Up.f
  rw [ev_bind (implSig_ev l hl)]
  simp only [isRateU_eq, Option.bind_some]
  by_cases hs : sigB l = true
  · rw [ev_pos hs]
    have hl5 := (sigB_iff.1 hs).1
    by_cases ha : 1 ≤ a ∧ a ≤ 16
    · rw [ev_pos (by simpa using ha), mul_rate (by omega) (by omega) ha.1 ha.2]
      by_cases hb : (l.length : Int) * a > 512
      · rw [ev_pos hb, upR, if_neg (by omega)]
        exact Ev.now _
      · rw [ev_neg hb, upR, if_pos ⟨hs, ha.1, ha.2, by omega⟩]
        have h := implUpV_ev l (a - 1).toNat hl5 (by omega)
        rw [Int.toNat_of_nonneg (by omega), Int.sub_add_cancel] at h
        rw [ev_bind h]
        exact Ev.now _
    · rw [ev_neg (by simpa using ha), upR, if_neg (by omega)]
      exact Ev.now _
  · rw [ev_neg hs, upR, if_neg (fun h => hs h.1)]
    exact Ev.now _
theorem specUp_ev (l : List Int) (a : Int) (hl : l.length ≤ 2000000) : Ev (fun k => spec_Up.f k l a) (upR l a) := by
  unfold spec_Up.f
  rw [ev_bind (specSig_ev l hl)]
  simp only [l11ByU_eq, Option.bind_some]
  by_cases hs : sigB l = true
  · rw [ev_pos hs]
    have hl5 := (sigB_iff.1 hs).1
    by_cases ha : 1 ≤ a ∧ a ≤ 16
    · rw [ev_pos (by simpa using ha), mul_rate (by omega) (by omega) ha.1 ha.2]
      by_cases hb : (l.length : Int) * a > 512
      · rw [ev_pos hb, upR, if_neg (by omega)]
        exact Ev.now _
      · rw [ev_neg hb, upR, if_pos ⟨hs, ha.1, ha.2, by omega⟩]
        have h := specUpV_ev l (a - 1).toNat hl5 (by omega)
        rw [Int.toNat_of_nonneg (by omega), Int.sub_add_cancel] at h
        rw [ev_bind h]
        exact Ev.now _
    · rw [ev_neg (by simpa using ha), upR, if_neg (by omega)]
      exact Ev.now _
  · rw [ev_neg hs, upR, if_neg (fun h => hs h.1)]
    exact Ev.now _

theorem upV_tab (l : List Int) (b : Nat) : upV l b = tab (l.length * (b + 1)) fun j => if j % (b + 1) = 0 then rd l ((j / (b + 1) : Nat) : Int) else 0 := by
  unfold upV
  refine iter_inv (fun i (s : List Int) => s = tab (i * (b + 1)) fun j => if j % (b + 1) = 0 then rd l ((j / (b + 1) : Nat) : Int) else 0) l.length [] (by simp [tab]) fun i s _ hs => ?_
  rw [hs, Nat.add_mul, Nat.one_mul, tab_add]
  congr 1
  refine eq_tab (by simp) fun j hj => ?_
  have h1 : (i * (b + 1) + j) % (b + 1) = j := by rw [Nat.mul_comm, Nat.mul_add_mod, Nat.mod_eq_of_lt hj]
  have h2 : (i * (b + 1) + j) / (b + 1) = i := by rw [Nat.mul_comm, Nat.mul_add_div (by omega), Nat.div_eq_of_lt hj, Nat.add_zero]
  rw [h1, h2]
  cases j with
  | zero => simp [rd]
  | succ j => simp [rd, List.getD_eq_getElem?_getD, List.getElem?_replicate]; split <;> rfl


/-! ### Down: each 'by'th from a phase on -/
def thinV (l : List Int) (c ph : Nat) : List Int := tab ((l.length - ph + c - 1) / c) (fun i => rd l ((ph : Int) + (i : Int) * (c : Int)))
theorem thinV_length (l : List Int) (c ph : Nat) (hc : 0 < c) : (thinV l c ph).length ≤ l.length := by
  unfold thinV
  rw [tab_length]
  apply Nat.le_of_not_lt
  intro h
  have := (steps_lt hc).1 h
  have : l.length * 1 ≤ l.length * c := Nat.mul_le_mul_left _ hc
  omega

theorem implThin_ev (l : List Int) (c ph : Nat) (hl : l.length ≤ 2000000) (hc : 0 < c) (hc1 : c ≤ 2000000) (hp : ph ≤ 2000000) :
    Ev (fun k => impl_thin.f k l (c : Int) (ph : Int)) (thinV l c ph) := by
  unfold impl_thin.f
  have hpos := (for_pos (fun k s i => impl_thin.l0 k l (c : Int) s i) (fun i => (ph : Int) + (i : Int) * (c : Int)) (fun i s => s ++ [rd l ((ph : Int) + (i : Int) * (c : Int))]) (fun i s => s.length = i) ((l.length - ph + c - 1) / c) (thinV l c ph) ?_ [] rfl).2
  · simp only [Int.ofNat_zero, Int.zero_mul, Int.add_zero] at hpos
    rw [hpos, iter_push, List.nil_append, ev_shift]
    simp only [impl_thin.l0]
    have hn : ¬ (l.length - ph + c - 1) / c < (l.length - ph + c - 1) / c := Nat.lt_irrefl _
    rw [steps_lt hc] at hn
    generalize hq : (l.length - ph + c - 1) / c = q at *
    have hq' : ((q * c : Nat) : Int) = (q : Int) * (c : Int) := by simp
    rw [ev_neg (by omega)]
    rw [thinV, hq]
    exact Ev.now _
  · intro i s hi hs
    have h2 := (steps_lt hc).1 hi
    have h1 : ((i * c : Nat) : Int) = (i : Int) * (c : Int) := by simp
    have h3 : i * 1 ≤ i * c := Nat.mul_le_mul_left _ hc
    refine ⟨by simp [hs], ?_⟩
    rw [ev_shift]
    simp only [impl_thin.l0]
    rw [ev_pos (by omega), ev_pos (by omega), ev_pos (by omega), w64 (by omega) (by omega)]
    congr 1
    have h4 : (((i + 1 : Nat) : Int)) * (c : Int) = (i : Int) * (c : Int) + (c : Int) := by rw [Int.natCast_add, Int.add_mul]; simp
    rw [h4, Int.add_assoc]
theorem isRate_eq (a : Int) : impl_isRate.f a = some (decide (1 ≤ a ∧ a ≤ 16)) := by
  unfold impl_isRate.f
  by_cases h : a ≥ 1
  · rw [if_pos h]
    congr 1
    rw [decide_eq_decide]
    omega
  · rw [if_neg h]
    congr 1
    symm
    rw [decide_eq_false_iff_not]
    omega

open Classical in
noncomputable def downR (l : List Int) (a b : Int) : List Int × Bool :=
  if sigB l = true ∧ 1 ≤ a ∧ a ≤ 16 ∧ 0 ≤ b ∧ b < a then (thinV l a.toNat b.toNat, true) else ([], false)
theorem downR_length (l : List Int) (a b : Int) : (downR l a b).1.length ≤ 2000000 := by
  unfold downR
  split
  · rename_i h
    have := thinV_length l a.toNat b.toNat (by omega)
    have := (sigB_iff.1 h.1).1
    simp only
    omega
  · simp
theorem implDown_ev (l : List Int) (a b : Int) (hl : l.length ≤ 2000000) : Ev (fun k => impl_Down.f k l a b) (downR l a b) := by
  unfold impl_Down.f
  rw [ev_bind (implSig_ev l hl)]
  simp only [isRate_eq, Option.bind_some]
  by_cases hs : sigB l = true
  · rw [ev_pos hs]
    by_cases ha : 1 ≤ a ∧ a ≤ 16
    · rw [ev_pos (by simpa using ha)]
      by_cases hb : b < 0
      · rw [ev_pos hb, downR, if_neg (by omega)]
        exact Ev.now _
      · rw [ev_neg hb]
        by_cases hb2 : b ≥ a
        · rw [ev_pos hb2, downR, if_neg (by omega)]
          exact Ev.now _
        · rw [ev_neg hb2, downR, if_pos ⟨hs, ha.1, ha.2, by omega, by omega⟩]
          have h := implThin_ev l a.toNat b.toNat hl (by omega) (by omega) (by omega)
          rw [Int.toNat_of_nonneg (by omega), Int.toNat_of_nonneg (by omega)] at h
          rw [ev_bind h]
          exact Ev.now _
    · rw [ev_neg (by simpa using ha), downR, if_neg (by omega)]
      exact Ev.now _
  · rw [ev_neg hs, downR, if_neg (fun h => hs h.1)]
    exact Ev.now _

theorem l11DrawBy_ok (b : List Int) (i h : Int) (hc : CurOk b i) : ∃ x i' h', spec_l11DrawBy.f b i h = some (x, i', h') ∧ CurOk b i' := by
  unfold spec_l11DrawBy.f
  obtain ⟨x, i1, h1, e, hc1, _⟩ := l1PickInt_ok b i h [1, 2, 3, 4, 5, 7, 16, 17, 0] (by simp) hc
  rw [e]
  exact ⟨_, _, _, rfl, hc1⟩
theorem DrawUp_ev (b : List Int) (hb : b.length ≤ 2000000) : ∃ l a, Ev (fun k => spec_DrawUp.f k b) (l, a) ∧ l.length ≤ 2000 := by
  unfold spec_DrawUp.f
  obtain ⟨h, e1⟩ := l1New_ev b hb
  obtain ⟨s, e2, hs0, hs1⟩ := l1Size_eq b 40 hb (by omega)
  obtain ⟨l, i, h', e3, hc, hl, _⟩ := l5DrawAny_ev b 0 h s ⟨by omega, by omega, hb⟩ (by omega) (by omega)
  obtain ⟨a, i2, h2, e4, _⟩ := l11DrawBy_ok b i h' hc
  refine ⟨l, a, ?_, hl⟩
  rw [ev_bind e1]
  simp only [e2, Option.bind_some]
  rw [ev_bind e3]
  simp only [e4, Option.bind_some]
  exact Ev.now _
theorem thin_up (l : List Int) (b : Nat) : thinV (upV l b) (b + 1) 0 = l := by
  unfold thinV
  rw [upV_length]
  have e : (l.length * (b + 1) - 0 + (b + 1) - 1) / (b + 1) = l.length := by
    have : l.length * (b + 1) - 0 + (b + 1) - 1 = (b + 1) * l.length + b := by rw [Nat.mul_comm]; omega
    rw [this, Nat.mul_add_div (by omega), Nat.div_eq_of_lt (by omega), Nat.add_zero]
  rw [e]
  rw [← tab_rd l]
  simp only [tab_length]
  refine tab_congr fun i hi => ?_
  rw [tab_rd, upV_tab]
  have h1 : ((0 : Nat) : Int) + (i : Int) * ((b + 1 : Nat) : Int) = ((i * (b + 1) : Nat) : Int) := by simp
  rw [h1, rd_tab' (Nat.mul_lt_mul_of_pos_right hi (by omega))]
  rw [Nat.mul_mod_left, if_pos rfl, Nat.mul_div_cancel _ (by omega)]
theorem thin_up_last (l : List Int) (b : Nat) (hb : 0 < b) (i : Nat) (hi : i < (thinV (upV l b) (b + 1) b).length) : rd (thinV (upV l b) (b + 1) b) (i : Int) = 0 := by
  unfold thinV at *
  rw [tab_length] at hi
  rw [rd_tab' hi, upV_tab]
  have h1 : ((b : Nat) : Int) + (i : Int) * ((b + 1 : Nat) : Int) = ((b + i * (b + 1) : Nat) : Int) := by simp
  rw [h1]
  by_cases h : b + i * (b + 1) < l.length * (b + 1)
  · rw [rd_tab' h]
    have h2 : (b + i * (b + 1)) % (b + 1) = b := by rw [Nat.add_mul_mod_self_right, Nat.mod_eq_of_lt (by omega)]
    rw [h2, if_neg (by omega)]
  · exact rd_out (by rw [tab_length]; omega)
theorem sigB_up (l : List Int) (b : Nat) (h : sigB l = true) (h2 : l.length * (b + 1) ≤ 512) : sigB (upV l b) = true := by
  rw [sigB_iff, upV_length]
  refine ⟨h2, inB_iff.2 ((all_rd (fun x => -1000000000 ≤ x ∧ x ≤ 1000000000)).2 fun i hi => ?_)⟩
  rw [upV_length] at hi
  rw [upV_tab, rd_tab' hi]
  split
  · exact inB_rd (sigB_iff.1 h).2 (by omega) _
  · omega
theorem up3 : upR [3] 2 = ([3, 0], true) := by
  unfold upR
  rw [if_pos (by decide)]
  rfl
theorem loopUD (x3 : List Int) (x4 : Int) (x11 : List Int) (x13 : List Int) (hl : x11.length ≤ 2000000) (hz : x4 > 1 → ∀ i : Nat, i < x13.length → rd x13 (i : Int) = 0) (h13 : x13.length ≤ 2000000) (he : x11 = x3) :
    Ev (fun k => laws_FnUpDown.l0 k x3 x4 x11 true x13 true 0) true := by
  have last : ∀ i : Int, Ev (fun k => laws_FnUpDown.j2 k x3 x4 x11 true x13 true i false) true := by
    intro i
    rw [ev_shift]
    simp only [laws_FnUpDown.j2, Bool.false_eq_true, if_false, if_true]
    rw [ev_bind (sameInts_ev x11 x3 hl), he, decide_eq_true rfl]
    exact Ev.now _
  by_cases h4 : x4 > 1
  · rw [(for_iff (fun k (_ : Unit) i => laws_FnUpDown.l0 k x3 x4 x11 true x13 true i) (fun _ s => s) (fun _ _ => True) x13.length _ ?_ () trivial).2]
    · rw [ev_shift]
      simp only [laws_FnUpDown.l0]
      rw [ev_neg (by omega)]
      exact last _
    · intro i _ hi _
      refine ⟨trivial, ?_⟩
      rw [ev_shift]
      simp only [laws_FnUpDown.l0]
      rw [ev_pos (by omega), decide_eq_true h4, ev_shift]
      simp only [laws_FnUpDown.j2, if_true]
      rw [ev_pos (by omega), ev_pos (by omega), ev_pos (hz h4 i hi), w64 (by omega) (by omega)]
  · rw [ev_shift]
    simp only [laws_FnUpDown.l0]
    rw [decide_eq_false h4]
    simp only [ite_self]
    exact last _
theorem FnUpDown : laws_FnUpDown.Pure := by
  intro l0 _ _ _
  refine Ev.rounds (g := fun k => laws_FnUpDown.f k l0) ?_
  simp only [laws_FnUpDown.f, big_eq, Option.bind_some]
  by_cases hlen : (l0.length : Int) > 1048576
  · rw [ev_pos (by simpa using hlen)]
    exact Ev.now _
  rw [ev_neg (by simpa using hlen)]
  obtain ⟨l, a, hd, hl⟩ := DrawUp_ev l0 (by omega)
  rw [ev_bind hd]
  simp only
  rw [ev_bind (implUp_ev l a (by omega)), ev_bind (specUp_ev l a (by omega))]
  simp only [bne_self_eq_false, Bool.false_eq_true, if_false]
  rw [ev_bind (implUp_ev [3] 2 (by simp)), up3]
  simp only [if_true]
  rw [ev_bind (sameInts_ev [3, 0] [3, 0] (by simp)), decide_eq_true rfl, ev_shift]
  simp only [laws_FnUpDown.j0, Bool.not_true, Bool.false_eq_true, if_false]
  unfold upR
  by_cases h : sigB l = true ∧ 1 ≤ a ∧ a ≤ 16 ∧ (l.length : Int) * a ≤ 512
  · simp only [if_pos h, if_true]
    obtain ⟨hs, ha0, ha1, hla⟩ := h
    obtain ⟨b, rfl⟩ : ∃ b : Nat, a = ((b + 1 : Nat) : Int) := ⟨(a - 1).toNat, by omega⟩
    have eb : (((b + 1 : Nat) : Int) - 1).toNat = b := by omega
    have hb : b < 16 := by omega
    have hlb : l.length * (b + 1) ≤ 512 := by
      have : ((l.length * (b + 1) : Nat) : Int) = (l.length : Int) * ((b + 1 : Nat) : Int) := by simp
      omega
    rw [eb]
    have hu := upV_length l b
    have hsu := sigB_up l b hs hlb
    have e1 : downR (upV l b) ((b + 1 : Nat) : Int) 0 = (l, true) := by
      unfold downR
      rw [if_pos ⟨hsu, ha0, ha1, by omega, by omega⟩]
      have : ((b + 1 : Nat) : Int).toNat = b + 1 := by omega
      rw [this]
      have e0 : (0 : Int).toNat = 0 := rfl
      rw [e0, thin_up]
    have e2 : downR (upV l b) ((b + 1 : Nat) : Int) (b : Int) = (thinV (upV l b) (b + 1) b, true) := by
      unfold downR
      rw [if_pos ⟨hsu, ha0, ha1, by omega, by omega⟩]
      have : ((b + 1 : Nat) : Int).toNat = b + 1 := by omega
      rw [this, Int.toNat_natCast]
    rw [ev_bind (implDown_ev (upV l b) _ 0 (by omega)), e1]
    have e3 : wrap64 (((b + 1 : Nat) : Int) - 1) = (b : Int) := by rw [w64 (by omega) (by omega)]; omega
    rw [e3, ev_bind (implDown_ev (upV l b) _ (b : Int) (by omega)), e2]
    refine loopUD l _ l _ (by omega) ?_ ?_ rfl
    · intro h i hi
      exact thin_up_last l b (by omega) i hi
    · have := thinV_length (upV l b) (b + 1) b (by omega)
      show (thinV (upV l b) (b + 1) b).length ≤ 2000000
      omega
  · simp only [if_neg h, Bool.false_eq_true, if_false]
    exact Ev.now _

end Go.Proofs.Ythmgjfobngmbcaa.Pure
