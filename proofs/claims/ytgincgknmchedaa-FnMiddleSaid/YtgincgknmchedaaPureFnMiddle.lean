/- The pure part of FnMiddle: at most half of the numbers about a place lie below its median, and at most half above. No conditions. -/
import Derived.Test.YtgincgknmchedaaQFnMiddlex6
import Derived.Test.YtgincgknmchedaaBase
namespace Go.Proofs.Ytgincgknmchedaa.Pure
open Go.RowKit Go.Proofs.Ytgincgknmchedaa.QFnMiddle Go.Proofs.YtgincgknmchedaaW.PrintWords Go.Proofs.YtgincgknmchedaaW.PrintLast
open Go.Proofs.Ytgincgknmchedaa.Base
set_option linter.unusedVariables false
set_option linter.unusedSimpArgs false
theorem big_eq (l : List Int) : laws_big.f l = some (decide ((l.length : Int) > 1048576)) := rfl

theorem sameInts_ev (a b : List Int) (h : a.length ≤ 2000000) : Ev (fun k => laws_sameInts.f k a b) (decide (a = b)) := by
  unfold laws_sameInts.f
  by_cases e : a.length = b.length
  · rw [ev_pos (by omega)]
    rw [all_iff (fun k i => laws_sameInts.l0 k a b i) (fun i => decide (rd a (i : Int) = rd b (i : Int))) a.length _ false]
    · split
      · rename_i hp
        have : a = b := list_ext_rd e fun i hi => by simpa using range_all.1 hp i hi
        rw [decide_eq_true this]
        exact Ev.step (fun k => by simp only [laws_sameInts.l0]; rw [if_neg (by omega)]) (Ev.now _)
      · rename_i hp
        have : ¬ a = b := fun h => hp (by subst h; rw [range_all]; simp)
        simp [this]
    · intro i hi
      by_cases p : rd a (i : Int) = rd b (i : Int)
      · rw [if_pos (by simpa using p)]
        rw [ev_shift]
        simp only [laws_sameInts.l0]
        rw [ev_pos (by omega), ev_pos (by omega), ev_pos (by omega), ev_pos p, w64 (by omega) (by omega)]
      · rw [if_neg (by simpa using p)]
        rw [ev_shift]
        simp only [laws_sameInts.l0]
        rw [ev_pos (by omega), ev_pos (by omega), ev_pos (by omega), ev_neg p, ev_some_iff]
  · rw [ev_neg (by omega)]
    have : ¬ a = b := fun h => e (by rw [h])
    simp only [this, decide_false]
    exact Ev.now _


/-! ### the cursor of a draw -/
def CurOk (b : List Int) (i : Int) : Prop := 0 ≤ i ∧ i ≤ (b.length : Int) ∧ b.length ≤ 2000000
theorem l1New_ev (b : List Int) (hb : b.length ≤ 2000000) : ∃ h, Ev (fun k => spec_l1New.f k b) (b, 0, h) := by
  unfold spec_l1New.f
  refine ⟨iter (fun i h => Go.bits .and .i64 (wrap64 ((wrap64 ((wrap64 (h * 131)) + (wrap64 (rd b (i : Int))))) + 7)) 1073741823) (min b.length 4000) (wrap64 (71933 + (b.length : Int))), ?_⟩
  rw [(for_iff (fun k h i => spec_l1New.l0 k b h i) (fun i h => Go.bits .and .i64 (wrap64 ((wrap64 ((wrap64 (h * 131)) + (wrap64 (rd b (i : Int))))) + 7)) 1073741823) (fun _ _ => True) (min b.length 4000) _ ?_ _ trivial).2]
  · rw [ev_shift]
    simp only [spec_l1New.l0]
    by_cases h : ((min b.length 4000 : Nat) : Int) < (b.length : Int)
    · rw [ev_pos h, ev_neg (by omega)]
      exact Ev.now _
    · rw [ev_neg h]
      exact Ev.now _
  · intro i s hi _
    refine ⟨trivial, ?_⟩
    rw [ev_shift]
    simp only [spec_l1New.l0]
    rw [ev_pos (by omega), ev_pos (by omega), ev_pos (by omega), w64 (n := (i : Int) + 1) (by omega) (by omega)]
theorem l1Byte_ok (b : List Int) (i h : Int) (hc : CurOk b i) : ∃ x i' h', spec_l1Byte.f b i h = some (x, i', h') ∧ CurOk b i' ∧ 0 ≤ x ∧ x ≤ 255 := by
  obtain ⟨h0, h1, h2⟩ := hc
  unfold spec_l1Byte.f
  by_cases c : i < (b.length : Int)
  · rw [if_pos c, if_pos h0]
    have := band_range
    refine ⟨_, _, _, rfl, ⟨?_, ?_, h2⟩, (band_range _ 255 (by omega) (by omega)).1, (band_range _ 255 (by omega) (by omega)).2⟩
    · rw [w64 (by omega) (by omega)]; omega
    · rw [w64 (by omega) (by omega)]; omega
  · rw [if_neg c]
    exact ⟨_, _, _, rfl, ⟨h0, h1, h2⟩, (band_range _ 255 (by omega) (by omega)).1, (band_range _ 255 (by omega) (by omega)).2⟩
theorem l1Below_ok (b : List Int) (i h n : Int) (hc : CurOk b i) : ∃ x i' h', spec_l1Below.f b i h n = some (x, i', h') ∧ CurOk b i' ∧ 0 ≤ x ∧ (0 < n → x < n) ∧ (n ≤ 0 → x = 0) := by
  unfold spec_l1Below.f
  by_cases c : n ≤ 0
  · rw [if_pos c]
    exact ⟨_, _, _, rfl, hc, by omega, by omega, fun _ => rfl⟩
  · rw [if_neg c]
    by_cases d : n ≤ 256
    · rw [if_pos d]
      obtain ⟨x, i1, h1, e, hc1, hx0, hx1⟩ := l1Byte_ok b i h hc
      rw [e]
      simp only [Option.bind_some]
      rw [if_neg (by omega)]
      refine ⟨_, _, _, rfl, hc1, ?_, fun _ => ?_, fun h => absurd h c⟩
      · exact Int.tmod_nonneg _ hx0
      · exact Int.tmod_lt_of_pos _ (by omega)
    · rw [if_neg d]
      obtain ⟨x, i1, h1, e, hc1, hx0, hx1⟩ := l1Byte_ok b i h hc
      rw [e]
      simp only [Option.bind_some]
      obtain ⟨y, i2, h2, e, hc2, hy0, hy1⟩ := l1Byte_ok b i1 h1 hc1
      rw [e]
      simp only [Option.bind_some]
      obtain ⟨z, i3, h3, e, hc3, hz0, hz1⟩ := l1Byte_ok b i2 h2 hc2
      rw [e]
      simp only [Option.bind_some]
      obtain ⟨w, i4, h4, e, hc4, hw0, hw1⟩ := l1Byte_ok b i3 h3 hc3
      rw [e]
      simp only [Option.bind_some]
      rw [if_neg (by omega)]
      refine ⟨_, _, _, rfl, hc4, ?_, fun _ => ?_, fun h => absurd h c⟩
      · refine Int.tmod_nonneg _ ?_
        rw [w64 (n := x * 16777216) (by omega) (by omega), w64 (n := y * 65536) (by omega) (by omega), w64 (n := z * 256) (by omega) (by omega), w64 (n := x * 16777216 + y * 65536) (by omega) (by omega), w64 (n := x * 16777216 + y * 65536 + z * 256) (by omega) (by omega), w64 (by omega) (by omega)]
        omega
      · exact Int.tmod_lt_of_pos _ (by omega)
theorem l1Once_ok (b : List Int) (i h n : Int) (hc : CurOk b i) : ∃ t i' h', spec_l1Once.f b i h n = some (t, i', h') ∧ CurOk b i' := by
  unfold spec_l1Once.f
  obtain ⟨x, i1, h1, e, hc1, _⟩ := l1Below_ok b i h n hc
  rw [e]
  exact ⟨_, _, _, rfl, hc1⟩

theorem l1PickInt_ok (b : List Int) (i h : Int) (l : List Int) (hl : 0 < l.length) (hc : CurOk b i) : ∃ x i' h', spec_l1PickInt.f b i h l = some (x, i', h') ∧ CurOk b i' ∧ x ∈ l := by
  unfold spec_l1PickInt.f
  obtain ⟨x, i1, h1, e, hc1, h0, hx, _⟩ := l1Below_ok b i h (l.length : Int) hc
  rw [e]
  simp only [Option.bind_some]
  have := hx (by omega)
  rw [if_pos h0, if_pos this]
  exact ⟨_, _, _, rfl, hc1, rd_mem h0 this⟩

theorem l1Size_eq (l : List Int) (m : Int) (hl : l.length ≤ 2000000) (hm : 2 ≤ m) : ∃ s, spec_l1Size.f l m = some s ∧ 2 ≤ s ∧ s ≤ m := by
  unfold spec_l1Size.f
  rw [w64 (n := (l.length : Int) / 20) (by omega) (by omega), w64 (by omega) (by omega)]
  by_cases h : 2 + (l.length : Int) / 20 > m
  · rw [if_pos h]
    exact ⟨m, rfl, hm, by omega⟩
  · rw [if_neg h]
    exact ⟨_, rfl, by omega, by omega⟩


theorem l5DrawSample_ok (b : List Int) (i h : Int) (hc : CurOk b i) : ∃ x i' h', spec_l5DrawSample.f b i h = some (x, i', h') ∧ CurOk b i' ∧ -1000000000 ≤ x ∧ x ≤ 1000000000 := by
  unfold spec_l5DrawSample.f
  obtain ⟨x, i1, h1, e, hc1, h0, hx, _⟩ := l1Below_ok b i h 5 hc
  rw [e]
  simp only [Option.bind_some]
  by_cases c0 : x = 0
  · rw [if_pos c0]
    obtain ⟨y, i2, h2, e, hc2, hy0, hy, _⟩ := l1Below_ok b i1 h1 21 hc1
    rw [e]
    simp only [Option.bind_some]
    have := hy (by omega)
    exact ⟨_, _, _, rfl, hc2, by rw [w64 (by omega) (by omega)]; omega, by rw [w64 (by omega) (by omega)]; omega⟩
  · rw [if_neg c0]
    have last : ∀ i1 h1, CurOk b i1 → ∃ x i' h', ((spec_l1Below.f b i1 h1 2001).bind fun t => (some (wrap64 (t.1 - 1000), t.2.1, t.2.2))) = some (x, i', h') ∧ CurOk b i' ∧ -1000000000 ≤ x ∧ x ≤ 1000000000 := by
      intro i1 h1 hc1
      obtain ⟨y, i2, h2, e, hc2, hy0, hy, _⟩ := l1Below_ok b i1 h1 2001 hc1
      rw [e]
      simp only [Option.bind_some]
      have := hy (by omega)
      exact ⟨_, _, _, rfl, hc2, by rw [w64 (by omega) (by omega)]; omega, by rw [w64 (by omega) (by omega)]; omega⟩
    by_cases c1 : x = 1
    · rw [if_pos c1]
      obtain ⟨y, i2, h2, e, hc2, hy0, hy, _⟩ := l1Below_ok b i1 h1 65536 hc1
      rw [e]
      simp only [Option.bind_some]
      have := hy (by omega)
      exact ⟨_, _, _, rfl, hc2, by rw [w64 (by omega) (by omega)]; omega, by rw [w64 (by omega) (by omega)]; omega⟩
    · rw [if_neg c1]
      by_cases c2 : x = 2
      · rw [if_pos c2]
        obtain ⟨t, i2, h2, e, hc2⟩ := l1Once_ok b i1 h1 12 hc1
        rw [e]
        simp only [Option.bind_some]
        by_cases c3 : t = true
        · rw [if_pos c3]
          obtain ⟨y, i3, h3, e, hc3, hy⟩ := l1PickInt_ok b i2 h2 [1000000000, (-1000000000), 0] (by simp) hc2
          rw [e]
          simp only [Option.bind_some]
          refine ⟨_, _, _, rfl, hc3, ?_⟩
          simp only [List.mem_cons, List.not_mem_nil, or_false] at hy
          omega
        · rw [if_neg c3]
          exact last _ _ hc2
      · rw [if_neg c2]
        exact last _ _ hc1
/-- A loop that counts down and appends what it draws. -/

theorem l5DrawLoop (b : List Int) : ∀ (n : Nat) (s : List Int) (i h : Int), CurOk b i → s.length + n ≤ 1000000 → (∀ x ∈ s, -1000000000 ≤ x ∧ x ≤ 1000000000) →
    ∃ r i' h', Ev (fun k => spec_l5Draw.l0 k s (n : Int) b i h) (r, i', h') ∧ CurOk b i' ∧ r.length ≤ s.length + n ∧ (∀ x ∈ r, -1000000000 ≤ x ∧ x ≤ 1000000000) := by
  intro n
  induction n with
  | zero =>
    intro s i h hc _ hs
    refine ⟨s, i, h, ?_, hc, by omega, hs⟩
    rw [ev_shift]
    simp only [spec_l5Draw.l0]
    rw [ev_neg (by omega)]
    exact Ev.now _
  | succ n ih =>
    intro s i h hc hn hs
    obtain ⟨x, i1, h1, e, hc1, hx⟩ := l5DrawSample_ok b i h hc
    · obtain ⟨r, i2, h2, e2, hc2, hr, hr2⟩ := ih (s ++ [x]) i1 h1 hc1 (by simp; omega) (by
        intro y hy
        rw [List.mem_append, List.mem_singleton] at hy
        rcases hy with hy | hy
        · exact hs y hy
        · subst hy
          exact hx)
      refine ⟨r, i2, h2, ?_, hc2, by simp at hr; omega, hr2⟩
      rw [ev_shift]
      simp only [spec_l5Draw.l0, e, Option.bind_some]
      rw [ev_pos (by omega), ev_pos (by omega), w64 (by omega) (by omega)]
      have e3 : ((n + 1 : Nat) : Int) - 1 = (n : Int) := by omega
      rw [e3]
      exact e2
theorem l5Draw_ev (b : List Int) (i h m : Int) (hc : CurOk b i) (h0 : 0 ≤ m) (h1 : m ≤ 1000) :
    ∃ r i' h', Ev (fun k => spec_l5Draw.f k b i h m) (r, i', h') ∧ CurOk b i' ∧ (r.length : Int) ≤ m ∧ (∀ x ∈ r, -1000000000 ≤ x ∧ x ≤ 1000000000) := by
  unfold spec_l5Draw.f
  rw [w64 (by omega) (by omega)]
  obtain ⟨x, i1, h1', e, hc1, hx0, hx, _⟩ := l1Below_ok b i h (m + 1) hc
  rw [e]
  simp only [Option.bind_some]
  have := hx (by omega)
  obtain ⟨r, i2, h2, e2, hc2, hr, hr2⟩ := l5DrawLoop b x.toNat [] i1 h1' hc1 (by simp; omega) (by simp)
  rw [Int.toNat_of_nonneg hx0] at e2
  exact ⟨r, i2, h2, e2, hc2, by simp at hr; omega, hr2⟩
theorem l5DrawAny_ev (b : List Int) (i h m : Int) (hc : CurOk b i) (h0 : 0 ≤ m) (h1 : m ≤ 1000) :
    ∃ r i' h', Ev (fun k => spec_l5DrawAny.f k b i h m) (r, i', h') ∧ CurOk b i' ∧ r.length ≤ 2000 ∧ (∀ x ∈ r, -1000000001 ≤ x ∧ x ≤ 1000000001) := by
  unfold spec_l5DrawAny.f
  obtain ⟨r, i1, h1', e, hc1, hr, hr2⟩ := l5Draw_ev b i h m hc h0 h1
  have tail : ∀ (s : List Int) (i h : Int), CurOk b i → s.length ≤ 2000 → (∀ x ∈ s, -1000000001 ≤ x ∧ x ≤ 1000000001) →
      ∃ r i' h', Ev (fun k => spec_l5DrawAny.j0 k s b i h) (r, i', h') ∧ CurOk b i' ∧ r.length ≤ 2000 ∧ (∀ x ∈ r, -1000000001 ≤ x ∧ x ≤ 1000000001) := by
    intro s i h hc hs hs2
    obtain ⟨t, i2, h2, e, hc2⟩ := l1Once_ok b i h 80 hc
    by_cases ht : t = true
    · obtain ⟨x, i3, h3, e3, hc3, hx0, hx, _⟩ := l1Below_ok b i2 h2 2 hc2
      have := hx (by omega)
      refine ⟨List.replicate (512 + x).toNat 0, i3, h3, ?_, hc3, by simp; omega, ?_⟩
      · rw [ev_shift]
        simp only [spec_l5DrawAny.j0, e, Option.bind_some]
        rw [ev_pos ht]
        simp only [e3, Option.bind_some]
        rw [w64 (by omega) (by omega), ev_pos (by omega), ev_pos (by omega)]
        exact Ev.now _
      · intro y hy
        rw [List.mem_replicate] at hy
        omega
    · refine ⟨s, i2, h2, ?_, hc2, hs, hs2⟩
      rw [ev_shift]
      simp only [spec_l5DrawAny.j0, e, Option.bind_some]
      rw [ev_neg ht]
      exact Ev.now _
  obtain ⟨t, i2, h2, e2, hc2⟩ := l1Once_ok b i1 h1' 25 hc1
  have hr3 : ∀ x ∈ r, -1000000001 ≤ x ∧ x ≤ 1000000001 := fun x hx => by have := hr2 x hx; omega
  by_cases ht : t = true
  · obtain ⟨x, i3, h3, e3, hc3, hx⟩ := l1PickInt_ok b i2 h2 [1000000001, (-1000000001)] (by simp) hc2
    simp only [List.mem_cons, List.not_mem_nil, or_false] at hx
    obtain ⟨q, i4, h4, e4, hc4, hq⟩ := tail (r ++ [x]) i3 h3 hc3 (by simp; omega) (by
      intro y hy
      rw [List.mem_append, List.mem_singleton] at hy
      rcases hy with hy | hy
      · exact hr3 y hy
      · omega)
    refine ⟨q, i4, h4, ?_, hc4, hq⟩
    rw [ev_bind e]
    simp only [e2, Option.bind_some]
    rw [ev_pos ht]
    simp only [e3, Option.bind_some]
    rw [ev_pos (by omega)]
    exact e4
  · obtain ⟨q, i4, h4, e4, hc4, hq⟩ := tail r i2 h2 hc2 (by omega) hr3
    refine ⟨q, i4, h4, ?_, hc4, hq⟩
    rw [ev_bind e]
    simp only [e2, Option.bind_some]
    rw [ev_neg ht]
    exact e4

theorem l1In_eq (a b c : Int) : spec_l1In.f a b c = some (decide (b ≤ a ∧ a ≤ c)) := by
  unfold spec_l1In.f
  by_cases h : a ≥ b
  · rw [if_pos h]
    congr 1
    rw [decide_eq_decide]
    omega
  · rw [if_neg h]
    congr 1
    symm
    rw [decide_eq_false_iff_not]
    omega

theorem within_ev (l : List Int) (m : Int) (hl : l.length ≤ 2000000) (h0 : 0 ≤ m) (h1 : m ≤ 1000000000000) : Ev (fun k => impl_within.f k l m) (inB m l) := by
  unfold impl_within.f
  rw [inB_range]
  rw [all_iff (fun k i => impl_within.l0 k m l (l.length : Int) i) (fun i => decide (-m ≤ rd l (i : Int)) && decide (rd l (i : Int) ≤ m)) l.length _ false]
  · split
    · rename_i hp
      rw [hp]
      exact Ev.step (fun k => by simp only [impl_within.l0]; rw [if_neg (by omega)]) (Ev.now _)
    · rename_i hp
      simpa using hp
  · intro i hi
    by_cases p : -m ≤ rd l (i : Int) ∧ rd l (i : Int) ≤ m
    · rw [if_pos (by simpa using p)]
      rw [ev_shift]
      simp only [impl_within.l0]
      rw [ev_pos (by omega), ev_pos (by omega), ev_pos (by omega), w64 (n := -m) (by omega) (by omega), ev_neg (by omega), ev_neg (by omega), w64 (by omega) (by omega)]
    · rw [if_neg (by simpa using p)]
      rw [ev_shift]
      simp only [impl_within.l0]
      rw [ev_pos (by omega), ev_pos (by omega), ev_pos (by omega), w64 (n := -m) (by omega) (by omega)]
      by_cases q : rd l (i : Int) < -m
      · rw [ev_pos q, ev_some_iff]
      · rw [ev_neg q, ev_pos (by omega), ev_some_iff]

theorem implSig_ev (l : List Int) (hl : l.length ≤ 2000000) : Ev (fun k => impl_SignalOk.f k l) (sigB l) := by
  unfold impl_SignalOk.f
  by_cases h : (l.length : Int) ≤ 512
  · rw [ev_pos h]
    rw [ev_bind (within_ev l 1000000000 hl (by omega) (by omega)), ev_some_iff, sigB, decide_eq_true (by omega : l.length ≤ 512), Bool.true_and]
  · rw [ev_neg h]
    rw [ev_some_iff, sigB, decide_eq_false (by omega : ¬ l.length ≤ 512), Bool.false_and]


theorem l5Sample_eq (a : Int) : spec_l5Sample.f a = some (decide (-1000000000 ≤ a ∧ a ≤ 1000000000)) := by
  unfold spec_l5Sample.f
  rw [l1In_eq]
  rfl
theorem specSig_ev (l : List Int) (hl : l.length ≤ 2000000) : Ev (fun k => spec_SignalOk.f k l) (sigB l) := by
  unfold spec_SignalOk.f
  rw [sigB, inB_range]
  rw [all_iff (fun k i => spec_SignalOk.l0 k l i) (fun i => decide (-1000000000 ≤ rd l (i : Int)) && decide (rd l (i : Int) ≤ 1000000000)) l.length _ false]
  · split
    · rename_i hp
      rw [hp, Bool.and_true]
      exact Ev.step (f := fun _ => some (decide (l.length ≤ 512))) (fun k => by simp only [spec_SignalOk.l0]; rw [if_neg (by omega)]; congr 1; rw [decide_eq_decide]; omega) (Ev.now _)
    · rename_i hp
      simp only [Bool.not_eq_true] at hp
      rw [hp, Bool.and_false]
  · intro i hi
    by_cases p : -1000000000 ≤ rd l (i : Int) ∧ rd l (i : Int) ≤ 1000000000
    · rw [if_pos (by simpa using p)]
      rw [ev_shift]
      simp only [spec_SignalOk.l0]
      rw [ev_pos (by omega), ev_pos (by omega), l5Sample_eq]
      simp only [Option.bind_some]
      rw [ev_pos (by simpa using p), w64 (by omega) (by omega)]
    · rw [if_neg (by simpa using p)]
      rw [ev_shift]
      simp only [spec_SignalOk.l0]
      rw [ev_pos (by omega), ev_pos (by omega), l5Sample_eq]
      simp only [Option.bind_some]
      rw [ev_neg (by simpa using p), ev_some_iff]

/-! ### sorting -/
def srt (l : List Int) : List Int := l.mergeSort fun x y => decide (x ≤ y)
theorem srt_perm (l : List Int) : (srt l).Perm l := List.mergeSort_perm l _
theorem srt_length (l : List Int) : (srt l).length = l.length := List.length_mergeSort _
theorem srt_pair (l : List Int) : (srt l).Pairwise (fun a b => a ≤ b) := by
  have h := List.pairwise_mergeSort (le := fun x y : Int => decide (x ≤ y)) (fun a b c h k => by simp only [decide_eq_true_eq] at *; omega) (fun a b => by simp only [Bool.or_eq_true, decide_eq_true_eq]; omega) l
  exact h.imp fun h => by simpa using h
theorem srt_uniq {l s : List Int} (hp : s.Perm l) (hs : s.Pairwise (fun a b => a ≤ b)) : s = srt l :=
  List.Perm.eq_of_pairwise (fun a b _ _ h k => by omega) hs (srt_pair l) (hp.trans (srt_perm l).symm)
theorem rd_get {l : List Int} {i : Nat} (h : i < l.length) : rd l (i : Int) = l[i] := by
  rw [rd_nat, List.getD_eq_getElem?_getD, List.getElem?_eq_getElem h]
  rfl
theorem pair_rd {s : List Int} (h : ∀ a b : Nat, a < b → b < s.length → rd s (a : Int) ≤ rd s (b : Int)) : s.Pairwise (fun a b => a ≤ b) := by
  rw [List.pairwise_iff_getElem]
  intro i j hi hj hij
  have := h i j hij hj
  rwa [rd_get hi, rd_get hj] at this
theorem rd_pair {s : List Int} (h : s.Pairwise (fun a b => a ≤ b)) {a b : Nat} (hab : a ≤ b) (hb : b < s.length) : rd s (a : Int) ≤ rd s (b : Int) := by
  rw [List.pairwise_iff_getElem] at h
  rcases Nat.lt_or_ge a b with c | c
  · rw [rd_get (by omega), rd_get hb]
    exact h a b (by omega) hb c
  · have : a = b := by omega
    subst this
    omega
def swp (s : List Int) (i j : Nat) : List Int := (s.set i (rd s (j : Int))).set j (rd s (i : Int))
theorem swp_length (s : List Int) (i j : Nat) : (swp s i j).length = s.length := by simp [swp]
theorem swp_perm {s : List Int} {i j : Nat} (hi : i < s.length) (hj : j < s.length) : (swp s i j).Perm s := by
  unfold swp
  rw [rd_get hi, rd_get hj]
  exact List.set_set_perm hi hj
theorem swp_rd {s : List Int} {i j : Nat} (hi : i < s.length) (hj : j < s.length) (m : Nat) : rd (swp s i j) (m : Int) = if m = j then rd s (i : Int) else if m = i then rd s (j : Int) else rd s (m : Int) := by
  unfold swp
  have e1 := rd_set (l := s.set i (rd s (j : Int))) (i := (m : Int)) (j := (j : Int)) (v := rd s (i : Int)) (by omega) (by simp; omega) (by omega)
  have e2 := rd_set (l := s) (i := (m : Int)) (j := (i : Int)) (v := rd s (j : Int)) (by omega) (by omega) (by omega)
  rw [Int.toNat_natCast] at e1 e2
  rw [e1, e2]
  by_cases a : m = j
  · rw [if_pos (by omega), if_pos a]
  · rw [if_neg (by omega), if_neg a]
    by_cases b : m = i
    · rw [if_pos (by omega), if_pos b]
    · rw [if_neg (by omega), if_neg b]
/-- Sorted up to i, but for the element at k. -/
def insOk (s : List Int) (i k : Nat) : Prop := ∀ a b : Nat, a < b → b ≤ i → b ≠ k → rd s (a : Int) ≤ rd s (b : Int)
theorem sortInner (l0 : List Int) (r : List Int) (i : Nat) (hil : i < 2000)
    (next : ∀ s : List Int, s.Perm l0 → (∀ a b : Nat, a < b → b ≤ i → rd s (a : Int) ≤ rd s (b : Int)) → Ev (fun q => spec_l10Sorted.l0 q s ((i : Int) + 1)) r) :
    ∀ (k : Nat) (s : List Int), s.Perm l0 → k ≤ i → i < s.length → insOk s i k → Ev (fun q => spec_l10Sorted.l1 q s (i : Int) (k : Int)) r := by
  intro k
  induction k with
  | zero =>
    intro s hp hk hi ho
    rw [ev_shift]
    simp only [spec_l10Sorted.l1]
    rw [ev_neg (by omega), w64 (by omega) (by omega)]
    exact next s hp fun a b h0 h1 => ho a b h0 h1 (by omega)
  | succ k ih =>
    intro s hp hk hi ho
    have e : ((k + 1 : Nat) : Int) - 1 = (k : Int) := by omega
    rw [ev_shift]
    simp only [spec_l10Sorted.l1]
    rw [ev_pos (by omega), w64 (n := ((k + 1 : Nat) : Int) - 1) (by omega) (by omega), e, ev_pos (by omega), ev_pos (by omega), ev_pos (by omega), ev_pos (by omega)]
    by_cases c : rd s (k : Int) > rd s ((k + 1 : Nat) : Int)
    · rw [ev_pos c, Int.toNat_natCast, Int.toNat_natCast]
      have es : (s.set (k + 1) (rd s (k : Int))).set k (rd s ((k + 1 : Nat) : Int)) = swp s (k + 1) k := rfl
      rw [es]
      refine ih (swp s (k + 1) k) ((swp_perm (by omega) (by omega)).trans hp) (by omega) (by rw [swp_length]; omega) ?_
      intro a b h0 h1 h2
      have ea := swp_rd (s := s) (i := k + 1) (j := k) (by omega) (by omega) a
      rw [swp_rd (s := s) (i := k + 1) (j := k) (by omega) (by omega) b]
      by_cases b1 : b = k + 1
      · rw [if_neg (by omega), if_pos b1, ea]
        by_cases a1 : a = k
        · rw [if_pos a1]
          omega
        · rw [if_neg a1, if_neg (by omega)]
          exact ho a k (by omega) (by omega) (by omega)
      · rw [if_neg h2, if_neg b1, ea]
        by_cases a1 : a = k
        · rw [if_pos a1]
          exact ho (k + 1) b (by omega) h1 b1
        · rw [if_neg a1]
          by_cases a2 : a = k + 1
          · rw [if_pos a2]
            exact ho k b (by omega) h1 b1
          · rw [if_neg a2]
            exact ho a b h0 h1 b1
    · rw [ev_neg c, w64 (by omega) (by omega)]
      refine next s hp fun a b h0 h1 => ?_
      by_cases b1 : b = k + 1
      · subst b1
        by_cases a1 : a = k
        · subst a1; omega
        · have := ho a k (by omega) (by omega) (by omega)
          omega
      · exact ho a b h0 h1 b1
theorem sortOuter (l0 : List Int) (hl : l0.length ≤ 1000) : ∀ (d i : Nat) (s : List Int), s.Perm l0 → l0.length - i ≤ d → i ≤ 1001 → (∀ a b : Nat, a < b → b < i → b < l0.length → rd s (a : Int) ≤ rd s (b : Int)) → Ev (fun q => spec_l10Sorted.l0 q s (i : Int)) (srt l0) := by
  intro d
  have fin : ∀ (i : Nat) (s : List Int), s.Perm l0 → l0.length ≤ i → (∀ a b : Nat, a < b → b < i → b < l0.length → rd s (a : Int) ≤ rd s (b : Int)) → Ev (fun q => spec_l10Sorted.l0 q s (i : Int)) (srt l0) := by
    intro i s hp hi ho
    have hsl := hp.length_eq
    rw [ev_shift]
    simp only [spec_l10Sorted.l0]
    rw [ev_neg (by omega), ev_some_iff]
    exact srt_uniq hp (pair_rd fun a b h0 h1 => ho a b h0 (by omega) (by omega))
  induction d with
  | zero => intro i s hp hd _ ho; exact fin i s hp (by omega) ho
  | succ d ih =>
    intro i s hp hd h1 ho
    have hsl := hp.length_eq
    by_cases c : i < l0.length
    · rw [ev_shift]
      simp only [spec_l10Sorted.l0]
      rw [ev_pos (by omega)]
      refine sortInner l0 (srt l0) i (by omega) ?_ i s hp (Nat.le_refl _) (by omega) ?_
      · intro s' hp' ho'
        exact ih (i + 1) s' hp' (by omega) (by omega) fun a b h0 h1 _ => ho' a b h0 (by omega)
      · intro a b h0 h1 h2
        exact ho a b h0 (by omega) (by omega)
    · exact fin i s hp (by omega) ho
theorem specSorted_ev (l : List Int) (hl : l.length ≤ 1000) : Ev (fun k => spec_l10Sorted.f k l) (srt l) := by
  unfold spec_l10Sorted.f
  rw [ev_sbind, ev_pos (by simp; omega)]
  exact sortOuter l hl l.length 1 l (List.Perm.refl l) (by omega) (by omega) fun a b h0 h1 _ => by omega
theorem implSorted_ev (l : List Int) (hl : l.length ≤ 1000) : Ev (fun k => slices_Sort_int_int.f k l) (srt l) := by
  unfold slices_Sort_int_int.f
  rw [ev_pos (by omega)]
  exact Ev.now _
/-! ### Middle -/
def cl (n : Nat) (x : Int) : Int := if x < 0 then 0 else if x ≥ (n : Int) then (n : Int) - 1 else x
theorem cl_range {n : Nat} (x : Int) (h : 0 < n) : 0 ≤ cl n x ∧ cl n x < (n : Int) := by
  unfold cl
  split
  · omega
  · split <;> omega
theorem l9At_eq (l : List Int) (x : Int) (h : 0 < l.length) (hl : l.length ≤ 2000) : spec_l9At.f l x = some (rd l (cl l.length x)) := by
  unfold spec_l9At.f cl
  by_cases a : x < 0
  · rw [if_pos a, if_pos a, if_neg (by omega), if_pos (by omega)]
  · rw [if_neg a, if_neg a]
    by_cases b : x ≥ (l.length : Int)
    · rw [if_pos b, if_pos b, w64 (by omega) (by omega), if_pos (by omega), if_pos (by omega)]
    · rw [if_neg b, if_neg b, if_pos (by omega), if_pos (by omega)]
theorem implAt_eq (l : List Int) (x : Int) (h : 0 < l.length) (hl : l.length ≤ 2000) : impl_at.f l x = some (rd l (cl l.length x)) := by
  have e : impl_nearer.f x 0 (wrap64 ((l.length : Int) - 1)) = some (cl l.length x) := by
    unfold impl_nearer.f cl mn mx
    rw [w64 (by omega) (by omega)]
    congr 1
    by_cases a : x < 0
    · rw [if_pos a, if_neg (by omega), if_pos a]
    · rw [if_neg a, if_neg a]
      by_cases b : x ≥ (l.length : Int)
      · rw [if_pos (by omega), if_pos b]
      · rw [if_neg (by omega), if_neg b]
  have r := cl_range x h
  unfold impl_at.f
  rw [e, Option.bind_some, if_pos r.1, if_pos r.2]
def near (l : List Int) (h i : Nat) : List Int := tab (2 * h + 1) fun j => rd l (cl l.length ((i : Int) - (h : Int) + (j : Int)))
def midV (l : List Int) (h : Nat) : List Int := tab l.length fun i => rd (srt (near l h i)) (h : Int)
theorem near_length (l : List Int) (h i : Nat) : (near l h i).length = 2 * h + 1 := by simp [near]
theorem specMid_ev (l : List Int) (h : Nat) (hh : h ≤ 15) (hl : l.length ≤ 512) : Ev (fun k => spec_Middle.l0 k l ((2 * h + 1 : Nat) : Int) [] 0) (midV l h, true) := by
  have e2 : Int.tdiv ((2 * h + 1 : Nat) : Int) 2 = (h : Int) := by
    have := (Int.ofNat_tdiv (2 * h + 1) 2).symm
    rw [show (2 * h + 1) / 2 = h by omega] at this
    exact this
  have g := push_loop (fun k s i => spec_Middle.l0 k l ((2 * h + 1 : Nat) : Int) s i) l.length (fun i => rd (srt (near l h i)) (h : Int)) (midV l h, true) ?_
  · rw [g, ev_shift]
    simp only [spec_Middle.l0]
    rw [ev_neg (by omega)]
    exact Ev.now _
  · intro i s hi hs
    rw [ev_shift]
    simp only [spec_Middle.l0, e2]
    rw [ev_pos (by omega), w64 (n := (h : Int)) (by omega) (by omega), w64 (by omega) (by omega)]
    have m := for_at (fun k t q => spec_Middle.l1 k l ((2 * h + 1 : Nat) : Int) s (i : Int) t q) (fun j _ => tab (j + 1) fun j => rd l (cl l.length ((i : Int) - (h : Int) + (j : Int)))) (fun j t => t = tab j fun j => rd l (cl l.length ((i : Int) - (h : Int) + (j : Int)))) ((i : Int) - (h : Int)) (2 * h + 1) (midV l h, true) ?_ [] rfl
    · rw [m.2, m.1, ev_shift]
      have en : (tab (2 * h + 1) fun j => rd l (cl l.length ((i : Int) - (h : Int) + (j : Int)))) = near l h i := rfl
      simp only [spec_Middle.l1, e2]
      rw [en, w64 (n := (h : Int)) (by omega) (by omega), w64 (n := (i : Int) + (h : Int)) (by omega) (by omega), ev_neg (by omega), ev_bind (specSorted_ev (near l h i) (by rw [near_length]; omega)), srt_length, near_length, ev_pos (by omega), ev_pos (by omega), ev_pos (by omega), w64 (by omega) (by omega)]
    · intro j t hj ht
      subst ht
      refine ⟨rfl, ?_⟩
      rw [ev_shift]
      simp only [spec_Middle.l1, e2, tab_length]
      rw [w64 (n := (h : Int)) (by omega) (by omega), w64 (n := (i : Int) + (h : Int)) (by omega) (by omega), ev_pos (by omega), l9At_eq l _ (by omega) (by omega), ev_sbind, ev_pos (by omega), tab_succ, w64 (by omega) (by omega)]
theorem implMid_ev (l : List Int) (h : Nat) (hh : h ≤ 15) (hl : l.length ≤ 512) : Ev (fun k => impl_Middle.l0 k l ((2 * h + 1 : Nat) : Int) [] (l.length : Int) 0) (midV l h, true) := by
  have e2 : Int.tdiv ((2 * h + 1 : Nat) : Int) 2 = (h : Int) := by
    have := (Int.ofNat_tdiv (2 * h + 1) 2).symm
    rw [show (2 * h + 1) / 2 = h by omega] at this
    exact this
  have g := push_loop (fun k s i => impl_Middle.l0 k l ((2 * h + 1 : Nat) : Int) s (l.length : Int) i) l.length (fun i => rd (srt (near l h i)) (h : Int)) (midV l h, true) ?_
  · rw [g, ev_shift]
    simp only [impl_Middle.l0]
    rw [ev_neg (by omega)]
    exact Ev.now _
  · intro i s hi hs
    rw [ev_shift]
    simp only [impl_Middle.l0, e2]
    rw [ev_pos (by omega), w64 (n := (h : Int)) (by omega) (by omega), w64 (by omega) (by omega)]
    have m := for_at (fun k t q => impl_Middle.l1 k l ((2 * h + 1 : Nat) : Int) s (i : Int) t q (l.length : Int) (i : Int)) (fun j _ => tab (j + 1) fun j => rd l (cl l.length ((i : Int) - (h : Int) + (j : Int)))) (fun j t => t = tab j fun j => rd l (cl l.length ((i : Int) - (h : Int) + (j : Int)))) ((i : Int) - (h : Int)) (2 * h + 1) (midV l h, true) ?_ [] rfl
    · rw [m.2, m.1, ev_shift]
      have en : (tab (2 * h + 1) fun j => rd l (cl l.length ((i : Int) - (h : Int) + (j : Int)))) = near l h i := rfl
      simp only [impl_Middle.l1, e2]
      rw [en, w64 (n := (h : Int)) (by omega) (by omega), w64 (n := (i : Int) + (h : Int)) (by omega) (by omega), ev_neg (by omega), ev_bind (implSorted_ev (near l h i) (by rw [near_length]; omega)), near_length, ev_pos (by omega), ev_pos (by omega), ev_pos (by omega), w64 (by omega) (by omega)]
    · intro j t hj ht
      subst ht
      refine ⟨rfl, ?_⟩
      rw [ev_shift]
      simp only [impl_Middle.l1, e2, tab_length]
      rw [w64 (n := (h : Int)) (by omega) (by omega), w64 (n := (i : Int) + (h : Int)) (by omega) (by omega), ev_pos (by omega), implAt_eq l _ (by omega) (by omega), ev_sbind, ev_pos (by omega), tab_succ, w64 (by omega) (by omega)]
def MidOk (l : List Int) (n : Int) : Prop := sigB l = true ∧ 1 ≤ n ∧ n ≤ 31 ∧ Int.tmod n 2 ≠ 0
open Classical in
noncomputable def midR (l : List Int) (n : Int) : List Int × Bool := if MidOk l n then (midV l (n.toNat / 2), true) else ([], false)
theorem midR_length (l : List Int) (n : Int) (hl : l.length ≤ 2000000) : (midR l n).1.length ≤ 2000000 := by
  unfold midR
  split
  · show (midV l (n.toNat / 2)).length ≤ 2000000
    unfold midV
    rw [tab_length]
    exact hl
  · simp
theorem odd_half {n : Int} (h0 : 1 ≤ n) (h : Int.tmod n 2 ≠ 0) : n = ((2 * (n.toNat / 2) + 1 : Nat) : Int) := by
  rw [Int.tmod_eq_emod_of_nonneg (by omega)] at h
  omega
theorem specMiddle_ev (l : List Int) (n : Int) (hl : l.length ≤ 2000000) : Ev (fun k => spec_Middle.f k l n) (midR l n) := by
  have no : ¬ MidOk l n → Ev (fun k => spec_Middle.j0 k l n [] true) (midR l n) := by
    intro h
    unfold midR
    rw [if_neg h, ev_shift]
    simp only [spec_Middle.j0, if_true]
    exact Ev.now _
  unfold spec_Middle.f
  rw [ev_sbind, ev_bind (specSig_ev l hl)]
  by_cases h1 : sigB l = true
  · rw [ev_pos h1, l1In_eq, ev_sbind]
    by_cases h2 : 1 ≤ n ∧ n ≤ 31
    · rw [decide_eq_true h2, ev_pos rfl]
      by_cases h3 : Int.tmod n 2 = 0
      · have e : (Int.tmod n 2 == 0) = true := by simpa using h3
        rw [e]
        exact no fun h => h.2.2.2 h3
      · have e : (Int.tmod n 2 == 0) = false := by simpa using h3
        rw [e, ev_shift]
        simp only [spec_Middle.j0, Bool.false_eq_true, if_false]
        unfold midR
        rw [if_pos ⟨h1, h2.1, h2.2, h3⟩]
        have g := specMid_ev l (n.toNat / 2) (by omega) (sigB_iff.1 h1).1
        rw [← odd_half h2.1 h3] at g
        exact g
    · rw [decide_eq_false h2, ev_neg (by simp)]
      exact no fun h => h2 ⟨h.2.1, h.2.2.1⟩
  · rw [ev_neg h1]
    exact no fun h => h1 h.1
theorem implMiddle_ev (l : List Int) (n : Int) (hl : l.length ≤ 2000000) : Ev (fun k => impl_Middle.f k l n) (midR l n) := by
  have no : ¬ MidOk l n → Ev (fun k => impl_Middle.j0 k l n true) (midR l n) := by
    intro h
    unfold midR
    rw [if_neg h, ev_shift]
    simp only [impl_Middle.j0, if_true]
    exact Ev.now _
  unfold impl_Middle.f
  rw [ev_bind (implSig_ev l hl)]
  by_cases h1 : sigB l = true
  · rw [ev_pos h1]
    by_cases h2 : n < 1
    · rw [ev_pos h2]
      exact no fun h => by have := h.2.1; omega
    · rw [ev_neg h2]
      by_cases h4 : n > 31
      · rw [ev_pos h4]
        exact no fun h => by have := h.2.2.1; omega
      · rw [ev_neg h4]
        by_cases h3 : Int.tmod n 2 = 0
        · have e : (Int.tmod n 2 == 0) = true := by simpa using h3
          rw [e]
          exact no fun h => h.2.2.2 h3
        · have e : (Int.tmod n 2 == 0) = false := by simpa using h3
          rw [e, ev_shift]
          simp only [impl_Middle.j0, Bool.false_eq_true, if_false]
          unfold midR
          rw [if_pos ⟨h1, by omega, by omega, h3⟩]
          have g := implMid_ev l (n.toNat / 2) (by omega) (sigB_iff.1 h1).1
          rw [← odd_half (by omega) h3] at g
          exact g
  · rw [ev_neg h1]
    exact no fun h => h1 h.1

theorem drawMiddle_ev (b : List Int) (hb : b.length ≤ 2000000) : ∃ l n, Ev (fun k => spec_DrawMiddle.f k b) (l, n) ∧ l.length ≤ 2000 := by
  unfold spec_DrawMiddle.f
  obtain ⟨h, e1⟩ := l1New_ev b hb
  obtain ⟨s, e2, hs0, hs1⟩ := l1Size_eq b 30 hb (by omega)
  obtain ⟨l, i1, h1, e3, hc1, hl, _⟩ := l5DrawAny_ev b 0 h s ⟨by omega, by omega, hb⟩ (by omega) (by omega)
  obtain ⟨n, i2, h2, e4, _⟩ := l1PickInt_ok b i1 h1 [1, 3, 5, 31, 2, 33, 0, 7] (by simp) hc1
  refine ⟨l, n, ?_, hl⟩
  rw [ev_bind e1]
  dsimp only
  rw [e2, ev_sbind, ev_bind e3]
  dsimp only
  rw [e4, ev_sbind]
  exact Ev.now _
theorem mid_small : midR [9, 1, 5] 3 = ([9, 5, 5], true) := by
  unfold midR
  rw [if_pos ⟨by decide +kernel, by decide, by decide, by decide⟩]
  have e : midV [9, 1, 5] ((3 : Int).toNat / 2) = [9, 5, 5] := by
    have s1 : srt [9, 9, 1] = [1, 9, 9] := (srt_uniq (s := [1, 9, 9]) (by decide) (by decide)).symm
    have s2 : srt [9, 1, 5] = [1, 5, 9] := (srt_uniq (s := [1, 5, 9]) (by decide) (by decide)).symm
    have s3 : srt [1, 5, 5] = [1, 5, 5] := (srt_uniq (s := [1, 5, 5]) (by decide) (by decide)).symm
    have d : midV [9, 1, 5] ((3 : Int).toNat / 2) = [rd (srt [9, 9, 1]) 1, rd (srt [9, 1, 5]) 1, rd (srt [1, 5, 5]) 1] := rfl
    rw [d, s1, s2, s3]
    rfl
  rw [e]
theorem below_half (l : List Int) (h : Nat) (hl : l.length = 2 * h + 1) : l.countP (fun y => decide (y < rd (srt l) (h : Int))) ≤ h := by
  rw [← (srt_perm l).countP_eq]
  have hs := srt_length l
  have hp := srt_pair l
  generalize srt l = s at *
  have e : s.countP (fun y => decide (y < rd s (h : Int))) = (s.take h).countP (fun y => decide (y < rd s (h : Int))) + (s.drop h).countP (fun y => decide (y < rd s (h : Int))) := by rw [← List.countP_append, List.take_append_drop]
  have z : (s.drop h).countP (fun y => decide (y < rd s (h : Int))) = 0 := by
    rw [List.countP_eq_zero]
    intro y hy
    obtain ⟨i, hi, rfl⟩ := List.mem_iff_getElem.1 hy
    rw [List.length_drop] at hi
    rw [List.getElem_drop, ← rd_get (by omega)]
    have := rd_pair hp (a := h) (b := h + i) (by omega) (by omega)
    simpa using this
  have t := List.countP_le_length (p := fun y => decide (y < rd s (h : Int))) (l := s.take h)
  rw [List.length_take] at t
  omega
theorem above_half (l : List Int) (h : Nat) (hl : l.length = 2 * h + 1) : l.countP (fun y => decide (y > rd (srt l) (h : Int))) ≤ h := by
  rw [← (srt_perm l).countP_eq]
  have hs := srt_length l
  have hp := srt_pair l
  generalize srt l = s at *
  have e : s.countP (fun y => decide (y > rd s (h : Int))) = (s.take (h + 1)).countP (fun y => decide (y > rd s (h : Int))) + (s.drop (h + 1)).countP (fun y => decide (y > rd s (h : Int))) := by rw [← List.countP_append, List.take_append_drop]
  have z : (s.take (h + 1)).countP (fun y => decide (y > rd s (h : Int))) = 0 := by
    rw [List.countP_eq_zero]
    intro y hy
    obtain ⟨i, hi, rfl⟩ := List.mem_iff_getElem.1 hy
    rw [List.length_take] at hi
    rw [List.getElem_take, ← rd_get (by omega)]
    have := rd_pair hp (a := i) (b := h) (by omega) (by omega)
    simpa using this
  have t := List.countP_le_length (p := fun y => decide (y > rd s (h : Int))) (l := s.drop (h + 1))
  rw [List.length_drop] at t
  omega
theorem lastly (l m : List Int) (n : Int) : Ev (fun k => laws_FnMiddle.l0 k l n m (m.length : Int)) true := by
  rw [ev_shift]
  simp only [laws_FnMiddle.l0]
  rw [ev_neg (by omega), ev_bind (implMiddle_ev [9, 1, 5] 3 (by simp)), mid_small]
  dsimp only
  rw [ev_pos rfl, ev_bind (sameInts_ev [9, 5, 5] [9, 5, 5] (by simp)), decide_eq_true rfl]
  exact Ev.now _
def nearP (l : List Int) (h i m : Nat) : List Int := tab m fun j => rd l (cl l.length ((i : Int) - (h : Int) + (j : Int)))
def lo (l : List Int) (h i : Nat) (x : Int) (m : Nat) : Nat := (nearP l h i m).countP fun y => decide (y < x)
def up (l : List Int) (h i : Nat) (x : Int) (m : Nat) : Nat := (nearP l h i m).countP fun y => decide (y > x)
theorem lo_succ (l : List Int) (h i : Nat) (x : Int) (m : Nat) : lo l h i x (m + 1) = lo l h i x m + if rd l (cl l.length ((i : Int) - (h : Int) + (m : Int))) < x then 1 else 0 := by
  unfold lo nearP
  rw [tab_succ, List.countP_append, List.countP_singleton]
  simp
theorem up_succ (l : List Int) (h i : Nat) (x : Int) (m : Nat) : up l h i x (m + 1) = up l h i x m + if rd l (cl l.length ((i : Int) - (h : Int) + (m : Int))) > x then 1 else 0 := by
  unfold up nearP
  rw [tab_succ, List.countP_append, List.countP_singleton]
  simp
theorem lo_le (l : List Int) (h i : Nat) (x : Int) (m : Nat) : lo l h i x m ≤ m := by
  have := List.countP_le_length (p := fun y => decide (y < x)) (l := nearP l h i m)
  unfold lo
  simpa [nearP] using this
theorem up_le (l : List Int) (h i : Nat) (x : Int) (m : Nat) : up l h i x m ≤ m := by
  have := List.countP_le_length (p := fun y => decide (y > x)) (l := nearP l h i m)
  unfold up
  simpa [nearP] using this
theorem clamp_iff (l : List Int) (n : Int) (m : List Int) (i : Nat) (x10 x11 x12 : Int) (hl : l.length ≤ 2000) (r : Bool) :
    Ev (fun k => if x12 < 0 then laws_FnMiddle.j3 k l n m (i : Int) x10 x11 x12 0 else laws_FnMiddle.j3 k l n m (i : Int) x10 x11 x12 x12) r ↔ Ev (fun k => laws_FnMiddle.j4 k l n m (i : Int) x10 x11 x12 (if 0 < l.length then cl l.length x12 else (l.length : Int) - 1)) r := by
  have key : ∀ y : Int, 0 ≤ y → y = (if x12 < 0 then 0 else x12) → (Ev (fun k => laws_FnMiddle.j3 k l n m (i : Int) x10 x11 x12 y) r ↔ Ev (fun k => laws_FnMiddle.j4 k l n m (i : Int) x10 x11 x12 (if 0 < l.length then cl l.length x12 else (l.length : Int) - 1)) r) := by
    intro y hy e
    rw [ev_shift]
    simp only [laws_FnMiddle.j3]
    by_cases c : y ≥ (l.length : Int)
    · rw [ev_pos c, w64 (by omega) (by omega)]
      have e2 : (if 0 < l.length then cl l.length x12 else (l.length : Int) - 1) = (l.length : Int) - 1 := by
        by_cases z : 0 < l.length
        · rw [if_pos z]
          unfold cl
          by_cases q : x12 < 0
          · rw [if_pos q] at e
            omega
          · rw [if_neg q] at e
            rw [if_neg q, if_pos (by omega)]
        · rw [if_neg z]
      rw [e2]
    · rw [ev_neg c]
      have e2 : (if 0 < l.length then cl l.length x12 else (l.length : Int) - 1) = y := by
        rw [if_pos (by omega)]
        unfold cl
        by_cases q : x12 < 0
        · rw [if_pos q] at e
          rw [if_pos q, e]
        · rw [if_neg q] at e
          rw [if_neg q, if_neg (by omega), e]
      rw [e2]
  by_cases q : x12 < 0
  · rw [ev_pos q]
    exact key 0 (by omega) (by rw [if_pos q])
  · rw [ev_neg q]
    exact key x12 (by omega) (by rw [if_neg q])
theorem turn (l : List Int) (h : Nat) (hh : h ≤ 15) (hl : l.length ≤ 512) (i : Nat) (hi : i < l.length) :
    Ev (fun k => laws_FnMiddle.l0 k l ((2 * h + 1 : Nat) : Int) (midV l h) (i : Int)) true ↔ Ev (fun k => laws_FnMiddle.l0 k l ((2 * h + 1 : Nat) : Int) (midV l h) ((i : Int) + 1)) true := by
  have e2 : Int.tdiv ((2 * h + 1 : Nat) : Int) 2 = (h : Int) := by
    have := (Int.ofNat_tdiv (2 * h + 1) 2).symm
    rw [show (2 * h + 1) / 2 = h by omega] at this
    exact this
  have hm : (midV l h).length = l.length := by simp [midV]
  have hx : rd (midV l h) (i : Int) = rd (srt (near l h i)) (h : Int) := by
    unfold midV
    rw [rd_tab' hi]
  have b1 := below_half (near l h i) h (near_length l h i)
  have b2 := above_half (near l h i) h (near_length l h i)
  rw [← hx] at b1 b2
  have c1 : lo l h i (rd (midV l h) (i : Int)) (2 * h + 1) ≤ h := b1
  have c2 : up l h i (rd (midV l h) (i : Int)) (2 * h + 1) ≤ h := b2
  generalize midV l h = v at *
  rw [ev_shift]
  simp only [laws_FnMiddle.l0, e2]
  rw [ev_pos (by omega), w64 (n := (h : Int)) (by omega) (by omega), w64 (n := (i : Int) - (h : Int)) (by omega) (by omega)]
  have g := for_at (fun k (s : Int × Int) q => laws_FnMiddle.l1 k l ((2 * h + 1 : Nat) : Int) v (i : Int) s.1 s.2 q) (fun j _ => (((lo l h i (rd v (i : Int)) (j + 1) : Nat) : Int), ((up l h i (rd v (i : Int)) (j + 1) : Nat) : Int))) (fun j s => s = (((lo l h i (rd v (i : Int)) j : Nat) : Int), ((up l h i (rd v (i : Int)) j : Nat) : Int))) ((i : Int) - (h : Int)) (2 * h + 1) true ?_ (0, 0) rfl
  · refine g.2.trans ?_
    rw [g.1]
    dsimp only
    rw [ev_shift]
    simp only [laws_FnMiddle.l1, e2]
    rw [w64 (n := (h : Int)) (by omega) (by omega), w64 (n := (i : Int) + (h : Int)) (by omega) (by omega), ev_neg (by omega), ev_neg (by omega), ev_neg (by omega), w64 (n := (i : Int) + 1) (by omega) (by omega)]
  · intro j s hj hs
    subst hs
    refine ⟨rfl, ?_⟩
    have r := cl_range (n := l.length) ((i : Int) - (h : Int) + (j : Int)) (by omega)
    have k1 := lo_le l h i (rd v (i : Int)) j
    have k2 := up_le l h i (rd v (i : Int)) j
    have s1 := lo_succ l h i (rd v (i : Int)) j
    have s2 := up_succ l h i (rd v (i : Int)) j
    dsimp only
    rw [ev_shift]
    simp only [laws_FnMiddle.l1, e2]
    rw [w64 (n := (h : Int)) (by omega) (by omega), w64 (n := (i : Int) + (h : Int)) (by omega) (by omega), ev_pos (by omega), clamp_iff l _ v i _ _ _ (by omega), if_pos (by omega : 0 < l.length), ev_shift]
    simp only [laws_FnMiddle.j4]
    rw [ev_pos r.1, ev_pos r.2, ev_pos (by omega), ev_pos (by omega), w64 (n := (i : Int) - (h : Int) + (j : Int) + 1) (by omega) (by omega)]
    by_cases q1 : rd l (cl l.length ((i : Int) - (h : Int) + (j : Int))) < rd v (i : Int)
    · rw [if_pos q1] at s1
      rw [if_neg (by omega)] at s2
      rw [ev_pos q1, ev_neg (by omega), w64 (by omega) (by omega), s1, s2]
      exact Iff.rfl
    · rw [if_neg q1] at s1
      rw [ev_neg q1]
      by_cases q2 : rd l (cl l.length ((i : Int) - (h : Int) + (j : Int))) > rd v (i : Int)
      · rw [if_pos q2] at s2
        rw [ev_pos q2, w64 (by omega) (by omega), s1, s2]
        exact Iff.rfl
      · rw [if_neg q2] at s2
        rw [ev_neg q2, s1, s2]
        exact Iff.rfl
theorem FnMiddle : laws_FnMiddle.Pure := by
  intro l0 _ _ _
  refine Ev.rounds (g := fun k => laws_FnMiddle.f k l0) ?_
  simp only [laws_FnMiddle.f]
  rw [big_eq, ev_sbind]
  by_cases hlen : (l0.length : Int) > 1048576
  · rw [ev_pos (by simpa using hlen)]
    exact Ev.now _
  rw [ev_neg (by simpa using hlen)]
  obtain ⟨l, n, hd, hl⟩ := drawMiddle_ev l0 (by omega)
  rw [ev_bind hd]
  dsimp only
  rw [ev_bind (implMiddle_ev l n (by omega)), ev_bind (specMiddle_ev l n (by omega)), ev_neg (by simp)]
  by_cases h : MidOk l n
  · have e : midR l n = (midV l (n.toNat / 2), true) := by
      unfold midR
      rw [if_pos h]
    rw [e]
    dsimp only
    have hm : (midV l (n.toNat / 2)).length = l.length := by simp [midV]
    have hne : (((midV l (n.toNat / 2)).length : Int) != (l.length : Int)) = false := by rw [hm]; exact bne_self_eq_false _
    obtain ⟨h1, h2, h3, h4⟩ := h
    have hodd := odd_half h2 h4
    rw [ev_pos rfl, hne, ev_shift]
    simp only [laws_FnMiddle.j0, Bool.false_eq_true, if_false]
    have hh : n.toNat / 2 ≤ 15 := by omega
    generalize n.toNat / 2 = p at *
    subst hodd
    have g := for_iff (fun k (_ : Unit) i => laws_FnMiddle.l0 k l ((2 * p + 1 : Nat) : Int) (midV l p) i) (fun _ s => s) (fun _ _ => True) l.length true ?_ () trivial
    · rw [g.2, ← hm]
      exact lastly l (midV l p) _
    · intro i _ hi _
      exact ⟨trivial, turn l p hh (sigB_iff.1 h1).1 i hi⟩
  · have e : midR l n = ([], false) := by
      unfold midR
      rw [if_neg h]
    rw [e]
    dsimp only
    rw [ev_neg (by simp), ev_shift]
    simp only [laws_FnMiddle.j0, Bool.false_eq_true, if_false]
    exact lastly l [] n

end Go.Proofs.Ytgincgknmchedaa.Pure
