/- The pure part of FnCombs: the comb of a signal's ramp is what Gather tells; gathered over one sample a signal is itself. No conditions. -/
import Derived.Test.YtinpmpdkoedjnaaQFnCombsx4
import Derived.Test.YtinpmpdkoedjnaaBase
namespace Go.Proofs.Ytinpmpdkoedjnaa.Pure
open Go.RowKit Go.Proofs.Ytinpmpdkoedjnaa.QFnCombs Go.Proofs.YtinpmpdkoedjnaaW.PrintWords Go.Proofs.YtinpmpdkoedjnaaW.PrintLast
open Go.Proofs.Ytinpmpdkoedjnaa.Base
set_option linter.unusedVariables false
set_option linter.unusedSimpArgs false
/-! ### the cursor of a draw -/
def CurOk (b : List Int) (i : Int) : Prop := 0 ≤ i ∧ i ≤ (b.length : Int) ∧ b.length ≤ 2000000
theorem l1New_ev (b : List Int) (hb : b.length ≤ 2000000) : ∃ h, Ev (fun k => spec_l1New.f k b) (b, 0, h) := by
  unfold spec_l1New.f
  refine ⟨iter (fun i h => Go.bits .and .i64 (wrap64 ((wrap64 ((wrap64 (h * 131)) + (wrap64 (rd b (i : Int))))) + 7)) 1073741823) (min b.length 4000) (wrap64 (71933 + (b.length : Int))), ?_⟩
  rw [(for_iff (fun k h i => spec_l1New.l0 k b h i) (fun i h => Go.bits .and .i64 (wrap64 ((wrap64 ((wrap64 (h * 131)) + (wrap64 (rd b (i : Int))))) + 7)) 1073741823) (fun _ _ => True) (min b.length 4000) _ ?_ _ trivial).2]
  · rw [ev_shift]
    simp only [spec_l1New.l0]
    by_cases h : ((min b.length 4000 : Nat) : Int) < (b.length : Int)
    · rw [ev_pos h, ev_neg (by omega)]
      exact Ev.now _
    · rw [ev_neg h]
      exact Ev.now _
  · intro i s hi _
    refine ⟨trivial, ?_⟩
    rw [ev_shift]
    simp only [spec_l1New.l0]
    rw [ev_pos (by omega), ev_pos (by omega), ev_pos (by omega), w64 (n := (i : Int) + 1) (by omega) (by omega)]
theorem l1Byte_ok (b : List Int) (i h : Int) (hc : CurOk b i) : ∃ x i' h', spec_l1Byte.f b i h = some (x, i', h') ∧ CurOk b i' ∧ 0 ≤ x ∧ x ≤ 255 := by
  obtain ⟨h0, h1, h2⟩ := hc
  unfold spec_l1Byte.f
  by_cases c : i < (b.length : Int)
  · rw [if_pos c, if_pos h0]
    have := band_range
    refine ⟨_, _, _, rfl, ⟨?_, ?_, h2⟩, (band_range _ 255 (by omega) (by omega)).1, (band_range _ 255 (by omega) (by omega)).2⟩
    · rw [w64 (by omega) (by omega)]; omega
    · rw [w64 (by omega) (by omega)]; omega
  · rw [if_neg c]
    exact ⟨_, _, _, rfl, ⟨h0, h1, h2⟩, (band_range _ 255 (by omega) (by omega)).1, (band_range _ 255 (by omega) (by omega)).2⟩
theorem l1Below_ok (b : List Int) (i h n : Int) (hc : CurOk b i) : ∃ x i' h', spec_l1Below.f b i h n = some (x, i', h') ∧ CurOk b i' ∧ 0 ≤ x ∧ (0 < n → x < n) ∧ (n ≤ 0 → x = 0) := by
  unfold spec_l1Below.f
  by_cases c : n ≤ 0
  · rw [if_pos c]
    exact ⟨_, _, _, rfl, hc, by omega, by omega, fun _ => rfl⟩
  · rw [if_neg c]
    by_cases d : n ≤ 256
    · rw [if_pos d]
      obtain ⟨x, i1, h1, e, hc1, hx0, hx1⟩ := l1Byte_ok b i h hc
      rw [e]
      simp only [Option.bind_some]
      rw [if_neg (by omega)]
      refine ⟨_, _, _, rfl, hc1, ?_, fun _ => ?_, fun h => absurd h c⟩
      · exact Int.tmod_nonneg _ hx0
      · exact Int.tmod_lt_of_pos _ (by omega)
    · rw [if_neg d]
      obtain ⟨x, i1, h1, e, hc1, hx0, hx1⟩ := l1Byte_ok b i h hc
      rw [e]
      simp only [Option.bind_some]
      obtain ⟨y, i2, h2, e, hc2, hy0, hy1⟩ := l1Byte_ok b i1 h1 hc1
      rw [e]
      simp only [Option.bind_some]
      obtain ⟨z, i3, h3, e, hc3, hz0, hz1⟩ := l1Byte_ok b i2 h2 hc2
      rw [e]
      simp only [Option.bind_some]
      obtain ⟨w, i4, h4, e, hc4, hw0, hw1⟩ := l1Byte_ok b i3 h3 hc3
      rw [e]
      simp only [Option.bind_some]
      rw [if_neg (by omega)]
      refine ⟨_, _, _, rfl, hc4, ?_, fun _ => ?_, fun h => absurd h c⟩
      · refine Int.tmod_nonneg _ ?_
        rw [w64 (n := x * 16777216) (by omega) (by omega), w64 (n := y * 65536) (by omega) (by omega), w64 (n := z * 256) (by omega) (by omega), w64 (n := x * 16777216 + y * 65536) (by omega) (by omega), w64 (n := x * 16777216 + y * 65536 + z * 256) (by omega) (by omega), w64 (by omega) (by omega)]
        omega
      · exact Int.tmod_lt_of_pos _ (by omega)
theorem l1Once_ok (b : List Int) (i h n : Int) (hc : CurOk b i) : ∃ t i' h', spec_l1Once.f b i h n = some (t, i', h') ∧ CurOk b i' := by
  unfold spec_l1Once.f
  obtain ⟨x, i1, h1, e, hc1, _⟩ := l1Below_ok b i h n hc
  rw [e]
  exact ⟨_, _, _, rfl, hc1⟩

theorem l1PickInt_ok (b : List Int) (i h : Int) (l : List Int) (hl : 0 < l.length) (hc : CurOk b i) : ∃ x i' h', spec_l1PickInt.f b i h l = some (x, i', h') ∧ CurOk b i' ∧ x ∈ l := by
  unfold spec_l1PickInt.f
  obtain ⟨x, i1, h1, e, hc1, h0, hx, _⟩ := l1Below_ok b i h (l.length : Int) hc
  rw [e]
  simp only [Option.bind_some]
  have := hx (by omega)
  rw [if_pos h0, if_pos this]
  exact ⟨_, _, _, rfl, hc1, rd_mem h0 this⟩

theorem l1Size_eq (l : List Int) (m : Int) (hl : l.length ≤ 2000000) (hm : 2 ≤ m) : ∃ s, spec_l1Size.f l m = some s ∧ 2 ≤ s ∧ s ≤ m := by
  unfold spec_l1Size.f
  rw [w64 (n := (l.length : Int) / 20) (by omega) (by omega), w64 (by omega) (by omega)]
  by_cases h : 2 + (l.length : Int) / 20 > m
  · rw [if_pos h]
    exact ⟨m, rfl, hm, by omega⟩
  · rw [if_neg h]
    exact ⟨_, rfl, by omega, by omega⟩

theorem l5DrawSample_ok (b : List Int) (i h : Int) (hc : CurOk b i) : ∃ x i' h', spec_l5DrawSample.f b i h = some (x, i', h') ∧ CurOk b i' ∧ -1000000000 ≤ x ∧ x ≤ 1000000000 := by
  unfold spec_l5DrawSample.f
  obtain ⟨x, i1, h1, e, hc1, h0, hx, _⟩ := l1Below_ok b i h 5 hc
  rw [e]
  simp only [Option.bind_some]
  by_cases c0 : x = 0
  · rw [if_pos c0]
    obtain ⟨y, i2, h2, e, hc2, hy0, hy, _⟩ := l1Below_ok b i1 h1 21 hc1
    rw [e]
    simp only [Option.bind_some]
    have := hy (by omega)
    exact ⟨_, _, _, rfl, hc2, by rw [w64 (by omega) (by omega)]; omega, by rw [w64 (by omega) (by omega)]; omega⟩
  · rw [if_neg c0]
    have last : ∀ i1 h1, CurOk b i1 → ∃ x i' h', ((spec_l1Below.f b i1 h1 2001).bind fun t => (some (wrap64 (t.1 - 1000), t.2.1, t.2.2))) = some (x, i', h') ∧ CurOk b i' ∧ -1000000000 ≤ x ∧ x ≤ 1000000000 := by
      intro i1 h1 hc1
      obtain ⟨y, i2, h2, e, hc2, hy0, hy, _⟩ := l1Below_ok b i1 h1 2001 hc1
      rw [e]
      simp only [Option.bind_some]
      have := hy (by omega)
      exact ⟨_, _, _, rfl, hc2, by rw [w64 (by omega) (by omega)]; omega, by rw [w64 (by omega) (by omega)]; omega⟩
    by_cases c1 : x = 1
    · rw [if_pos c1]
      obtain ⟨y, i2, h2, e, hc2, hy0, hy, _⟩ := l1Below_ok b i1 h1 65536 hc1
      rw [e]
      simp only [Option.bind_some]
      have := hy (by omega)
      exact ⟨_, _, _, rfl, hc2, by rw [w64 (by omega) (by omega)]; omega, by rw [w64 (by omega) (by omega)]; omega⟩
    · rw [if_neg c1]
      by_cases c2 : x = 2
      · rw [if_pos c2]
        obtain ⟨t, i2, h2, e, hc2⟩ := l1Once_ok b i1 h1 12 hc1
        rw [e]
        simp only [Option.bind_some]
        by_cases c3 : t = true
        · rw [if_pos c3]
          obtain ⟨y, i3, h3, e, hc3, hy⟩ := l1PickInt_ok b i2 h2 [1000000000, (-1000000000), 0] (by simp) hc2
          rw [e]
          simp only [Option.bind_some]
          refine ⟨_, _, _, rfl, hc3, ?_⟩
          simp only [List.mem_cons, List.not_mem_nil, or_false] at hy
          omega
        · rw [if_neg c3]
          exact last _ _ hc2
      · rw [if_neg c2]
        exact last _ _ hc1
/-- A loop that counts down and appends what it draws. -/
theorem l5DrawLoop (b : List Int) : ∀ (n : Nat) (s : List Int) (i h : Int), CurOk b i → s.length + n ≤ 1000000 → (∀ x ∈ s, -1000000000 ≤ x ∧ x ≤ 1000000000) →
    ∃ r i' h', Ev (fun k => spec_l5Draw.l0 k s (n : Int) b i h) (r, i', h') ∧ CurOk b i' ∧ r.length ≤ s.length + n ∧ (∀ x ∈ r, -1000000000 ≤ x ∧ x ≤ 1000000000) := by
  intro n
  induction n with
  | zero =>
    intro s i h hc _ hs
    refine ⟨s, i, h, ?_, hc, by omega, hs⟩
    rw [ev_shift]
    simp only [spec_l5Draw.l0]
    rw [ev_neg (by omega)]
    exact Ev.now _
  | succ n ih =>
    intro s i h hc hn hs
    obtain ⟨x, i1, h1, e, hc1, hx⟩ := l5DrawSample_ok b i h hc
    · obtain ⟨r, i2, h2, e2, hc2, hr, hr2⟩ := ih (s ++ [x]) i1 h1 hc1 (by simp; omega) (by
        intro y hy
        rw [List.mem_append, List.mem_singleton] at hy
        rcases hy with hy | hy
        · exact hs y hy
        · subst hy
          exact hx)
      refine ⟨r, i2, h2, ?_, hc2, by simp at hr; omega, hr2⟩
      rw [ev_shift]
      simp only [spec_l5Draw.l0, e, Option.bind_some]
      rw [ev_pos (by omega), ev_pos (by omega), w64 (by omega) (by omega)]
      have e3 : ((n + 1 : Nat) : Int) - 1 = (n : Int) := by omega
      rw [e3]
      exact e2
theorem l5Draw_ev (b : List Int) (i h m : Int) (hc : CurOk b i) (h0 : 0 ≤ m) (h1 : m ≤ 1000) :
    ∃ r i' h', Ev (fun k => spec_l5Draw.f k b i h m) (r, i', h') ∧ CurOk b i' ∧ (r.length : Int) ≤ m ∧ (∀ x ∈ r, -1000000000 ≤ x ∧ x ≤ 1000000000) := by
  unfold spec_l5Draw.f
  rw [w64 (by omega) (by omega)]
  obtain ⟨x, i1, h1', e, hc1, hx0, hx, _⟩ := l1Below_ok b i h (m + 1) hc
  rw [e]
  simp only [Option.bind_some]
  have := hx (by omega)
  obtain ⟨r, i2, h2, e2, hc2, hr, hr2⟩ := l5DrawLoop b x.toNat [] i1 h1' hc1 (by simp; omega) (by simp)
  rw [Int.toNat_of_nonneg hx0] at e2
  exact ⟨r, i2, h2, e2, hc2, by simp at hr; omega, hr2⟩
theorem l5DrawAny_ev (b : List Int) (i h m : Int) (hc : CurOk b i) (h0 : 0 ≤ m) (h1 : m ≤ 1000) :
    ∃ r i' h', Ev (fun k => spec_l5DrawAny.f k b i h m) (r, i', h') ∧ CurOk b i' ∧ r.length ≤ 2000 ∧ (∀ x ∈ r, -1000000001 ≤ x ∧ x ≤ 1000000001) := by
  unfold spec_l5DrawAny.f
  obtain ⟨r, i1, h1', e, hc1, hr, hr2⟩ := l5Draw_ev b i h m hc h0 h1
  have tail : ∀ (s : List Int) (i h : Int), CurOk b i → s.length ≤ 2000 → (∀ x ∈ s, -1000000001 ≤ x ∧ x ≤ 1000000001) →
      ∃ r i' h', Ev (fun k => spec_l5DrawAny.j0 k s b i h) (r, i', h') ∧ CurOk b i' ∧ r.length ≤ 2000 ∧ (∀ x ∈ r, -1000000001 ≤ x ∧ x ≤ 1000000001) := by
    intro s i h hc hs hs2
    obtain ⟨t, i2, h2, e, hc2⟩ := l1Once_ok b i h 80 hc
    by_cases ht : t = true
    · obtain ⟨x, i3, h3, e3, hc3, hx0, hx, _⟩ := l1Below_ok b i2 h2 2 hc2
      have := hx (by omega)
      refine ⟨List.replicate (512 + x).toNat 0, i3, h3, ?_, hc3, by simp; omega, ?_⟩
      · rw [ev_shift]
        simp only [spec_l5DrawAny.j0, e, Option.bind_some]
        rw [ev_pos ht]
        simp only [e3, Option.bind_some]
        rw [w64 (by omega) (by omega), ev_pos (by omega), ev_pos (by omega)]
        exact Ev.now _
      · intro y hy
        rw [List.mem_replicate] at hy
        omega
    · refine ⟨s, i2, h2, ?_, hc2, hs, hs2⟩
      rw [ev_shift]
      simp only [spec_l5DrawAny.j0, e, Option.bind_some]
      rw [ev_neg ht]
      exact Ev.now _
  obtain ⟨t, i2, h2, e2, hc2⟩ := l1Once_ok b i1 h1' 25 hc1
  have hr3 : ∀ x ∈ r, -1000000001 ≤ x ∧ x ≤ 1000000001 := fun x hx => by have := hr2 x hx; omega
  by_cases ht : t = true
  · obtain ⟨x, i3, h3, e3, hc3, hx⟩ := l1PickInt_ok b i2 h2 [1000000001, (-1000000001)] (by simp) hc2
    simp only [List.mem_cons, List.not_mem_nil, or_false] at hx
    obtain ⟨q, i4, h4, e4, hc4, hq⟩ := tail (r ++ [x]) i3 h3 hc3 (by simp; omega) (by
      intro y hy
      rw [List.mem_append, List.mem_singleton] at hy
      rcases hy with hy | hy
      · exact hr3 y hy
      · omega)
    refine ⟨q, i4, h4, ?_, hc4, hq⟩
    rw [ev_bind e]
    simp only [e2, Option.bind_some]
    rw [ev_pos ht]
    simp only [e3, Option.bind_some]
    rw [ev_pos (by omega)]
    exact e4
  · obtain ⟨q, i4, h4, e4, hc4, hq⟩ := tail r i2 h2 hc2 (by omega) hr3
    refine ⟨q, i4, h4, ?_, hc4, hq⟩
    rw [ev_bind e]
    simp only [e2, Option.bind_some]
    rw [ev_neg ht]
    exact e4

theorem sameInts_ev (a b : List Int) (h : a.length ≤ 2000000) : Ev (fun k => laws_sameInts.f k a b) (decide (a = b)) := by
  unfold laws_sameInts.f
  by_cases e : a.length = b.length
  · rw [ev_pos (by omega)]
    rw [all_iff (fun k i => laws_sameInts.l0 k a b i) (fun i => decide (rd a (i : Int) = rd b (i : Int))) a.length _ false]
    · split
      · rename_i hp
        have : a = b := list_ext_rd e fun i hi => by simpa using range_all.1 hp i hi
        rw [decide_eq_true this]
        exact Ev.step (fun k => by simp only [laws_sameInts.l0]; rw [if_neg (by omega)]) (Ev.now _)
      · rename_i hp
        have : ¬ a = b := fun h => hp (by subst h; rw [range_all]; simp)
        simp [this]
    · intro i hi
      by_cases p : rd a (i : Int) = rd b (i : Int)
      · rw [if_pos (by simpa using p)]
        rw [ev_shift]
        simp only [laws_sameInts.l0]
        rw [ev_pos (by omega), ev_pos (by omega), ev_pos (by omega), ev_pos p, w64 (by omega) (by omega)]
      · rw [if_neg (by simpa using p)]
        rw [ev_shift]
        simp only [laws_sameInts.l0]
        rw [ev_pos (by omega), ev_pos (by omega), ev_pos (by omega), ev_neg p, ev_some_iff]
  · rw [ev_neg (by omega)]
    have : ¬ a = b := fun h => e (by rw [h])
    simp only [this, decide_false]
    exact Ev.now _
theorem big_eq (l : List Int) : laws_big.f l = some (decide ((l.length : Int) > 1048576)) := rfl

theorem within_ev (l : List Int) (m : Int) (hl : l.length ≤ 2000000) (h0 : 0 ≤ m) (h1 : m ≤ 1000000000000) : Ev (fun k => impl_within.f k l m) (inB m l) := by
  unfold impl_within.f
  rw [inB_range]
  rw [all_iff (fun k i => impl_within.l0 k m l (l.length : Int) i) (fun i => decide (-m ≤ rd l (i : Int)) && decide (rd l (i : Int) ≤ m)) l.length _ false]
  · split
    · rename_i hp
      rw [hp]
      exact Ev.step (fun k => by simp only [impl_within.l0]; rw [if_neg (by omega)]) (Ev.now _)
    · rename_i hp
      simpa using hp
  · intro i hi
    by_cases p : -m ≤ rd l (i : Int) ∧ rd l (i : Int) ≤ m
    · rw [if_pos (by simpa using p)]
      rw [ev_shift]
      simp only [impl_within.l0]
      rw [ev_pos (by omega), ev_pos (by omega), ev_pos (by omega), w64 (n := -m) (by omega) (by omega), ev_neg (by omega), ev_neg (by omega), w64 (by omega) (by omega)]
    · rw [if_neg (by simpa using p)]
      rw [ev_shift]
      simp only [impl_within.l0]
      rw [ev_pos (by omega), ev_pos (by omega), ev_pos (by omega), w64 (n := -m) (by omega) (by omega)]
      by_cases q : rd l (i : Int) < -m
      · rw [ev_pos q, ev_some_iff]
      · rw [ev_neg q, ev_pos (by omega), ev_some_iff]

theorem implSig_ev (l : List Int) (hl : l.length ≤ 2000000) : Ev (fun k => impl_SignalOk.f k l) (sigB l) := by
  unfold impl_SignalOk.f
  by_cases h : (l.length : Int) ≤ 512
  · rw [ev_pos h]
    rw [ev_bind (within_ev l 1000000000 hl (by omega) (by omega)), ev_some_iff, sigB, decide_eq_true (by omega : l.length ≤ 512), Bool.true_and]
  · rw [ev_neg h]
    rw [ev_some_iff, sigB, decide_eq_false (by omega : ¬ l.length ≤ 512), Bool.false_and]

theorem combOk_ev (l : List Int) (a : Int) (hl : l.length ≤ 2000000) : Ev (fun k => impl_combOk.f k l a) (sigB l && decide (1 ≤ a ∧ a ≤ 512)) := by
  unfold impl_combOk.f
  rw [ev_bind (implSig_ev l hl)]
  by_cases h : sigB l = true
  · rw [ev_pos h, h, Bool.true_and]
    by_cases h1 : a ≥ 1
    · rw [ev_pos h1, ev_some_iff, decide_eq_decide]
      omega
    · rw [ev_neg h1, ev_some_iff, decide_eq_false (by omega)]
  · rw [ev_neg h, ev_some_iff]
    simp only [Bool.not_eq_true] at h
    rw [h, Bool.false_and]

def combV (l : List Int) (a : Int) : List Int := tab l.length fun i => if (i : Int) ≥ a then wrap64 (rd l (i : Int) - rd l ((i : Int) - a)) else rd l (i : Int)
def combR (l : List Int) (a : Int) : List Int × Bool := if (sigB l && decide (1 ≤ a ∧ a ≤ 512)) = true then (combV l a, true) else ([], false)
theorem combR_length (l : List Int) (a : Int) (hl : l.length ≤ 2000000) : (combR l a).1.length ≤ 2000000 := by
  unfold combR
  split
  · simpa [combV] using hl
  · simp
theorem implComb_ev (l : List Int) (a : Int) (hl : l.length ≤ 2000000) : Ev (fun k => impl_Comb.f k l a) (combR l a) := by
  unfold impl_Comb.f combR
  rw [ev_bind (combOk_ev l a hl)]
  by_cases h : (sigB l && decide (1 ≤ a ∧ a ≤ 512)) = true
  · rw [ev_pos h, if_pos h]
    have ha : 1 ≤ a ∧ a ≤ 512 := by simp at h; exact h.2
    rw [(for_iff (fun k s i => impl_Comb.l0 k l a s l (l.length : Int) i) (fun i s => s ++ [if (i : Int) ≥ a then wrap64 (rd l (i : Int) - rd l ((i : Int) - a)) else rd l (i : Int)]) (fun i s => s.length = i) l.length _ ?_ [] rfl).2]
    · rw [iter_push, ev_shift]
      simp only [impl_Comb.l0]
      rw [ev_neg (by omega)]
      exact Ev.now _
    · intro i s hi hs
      refine ⟨by simp [hs], ?_⟩
      rw [ev_shift]
      simp only [impl_Comb.l0]
      rw [ev_pos (by omega), ev_pos (by omega), ev_pos (by omega), w64 (n := (i : Int) + 1) (by omega) (by omega)]
      by_cases c : (i : Int) ≥ a
      · rw [ev_pos c, if_pos c, w64 (n := (i : Int) - a) (by omega) (by omega), ev_pos (by omega), ev_pos (by omega), ev_pos (by omega)]
      · rw [ev_neg c, if_neg c, ev_pos (by omega)]
  · rw [ev_neg h, if_neg h]
    exact Ev.now _


/-! ### sums of the last a samples -/
def gathV (l : List Int) (a : Nat) : List Int := tab l.length fun i => wrap64 (psum l (i + 1) - psum l (i + 1 - a))
theorem gathV_length (l : List Int) (a : Nat) : (gathV l a).length = l.length := by simp [gathV]
theorem implGatherV_ev (l : List Int) (a : Nat) (hl : l.length ≤ 2000000) (ha : a ≤ 2000000) (ha0 : 0 < a) : Ev (fun k => impl_gather.f k l (a : Int)) (gathV l a) := by
  unfold impl_gather.f
  have h := for_iff (fun k (s : List Int × Int) i => impl_gather.l0 k l (a : Int) s.1 s.2 l (l.length : Int) i) (fun i s => (s.1 ++ [wrap64 (psum l (i + 1) - psum l (i + 1 - a))], wrap64 (psum l (i + 1) - psum l (i + 1 - a)))) (fun i s => s = (tab i fun i => wrap64 (psum l (i + 1) - psum l (i + 1 - a)), wrap64 (psum l i - psum l (i - a)))) l.length (gathV l a) ?_ ([], 0) (by simp [tab_zero, psum_zero, wrap_zero])
  · rw [h.2, h.1, ev_shift]
    simp only [impl_gather.l0]
    rw [ev_neg (by omega)]
    exact Ev.now _
  · intro i s hi hs
    subst hs
    refine ⟨by simp only [tab_succ], ?_⟩
    rw [ev_shift]
    simp only [impl_gather.l0, tab_length]
    rw [ev_pos (by omega), ev_pos (by omega), ev_pos (by omega), w64 (n := (i : Int) + 1) (by omega) (by omega)]
    by_cases c : (i : Int) ≥ (a : Int)
    · rw [ev_pos c, w64 (n := (i : Int) - (a : Int)) (by omega) (by omega), ev_pos (by omega), ev_pos (by omega), ev_pos (by omega)]
      have e : wrap64 (wrap64 (wrap64 (psum l i - psum l (i - a)) + rd l (i : Int)) - rd l ((i : Int) - (a : Int))) = wrap64 (psum l (i + 1) - psum l (i + 1 - a)) := by
        rw [wrap_add_l, wrap_sub_l]
        have e1 : i + 1 - a = (i - a) + 1 := by omega
        have e2 : (i : Int) - (a : Int) = ((i - a : Nat) : Int) := by omega
        rw [e1, e2, psum, psum]
        congr 1
        omega
      rw [e]
    · rw [ev_neg c, ev_pos (by omega)]
      have e : wrap64 (wrap64 (psum l i - psum l (i - a)) + rd l (i : Int)) = wrap64 (psum l (i + 1) - psum l (i + 1 - a)) := by
        rw [wrap_add_l]
        have e1 : i + 1 - a = 0 := by omega
        have e2 : i - a = 0 := by omega
        rw [e1, e2, psum_succ l i]
        congr 1
        omega
      rw [e]

def gathR (l : List Int) (a : Int) : List Int × Bool := if (sigB l && decide (1 ≤ a ∧ a ≤ 512)) = true then (gathV l a.toNat, true) else ([], false)
theorem gathR_length (l : List Int) (a : Int) (hl : l.length ≤ 2000000) : (gathR l a).1.length ≤ 2000000 := by
  unfold gathR
  split
  · simpa [gathV] using hl
  · simp
theorem implGather_ev (l : List Int) (a : Int) (hl : l.length ≤ 2000000) : Ev (fun k => impl_Gather.f k l a) (gathR l a) := by
  unfold impl_Gather.f gathR
  rw [ev_bind (combOk_ev l a hl)]
  by_cases h : (sigB l && decide (1 ≤ a ∧ a ≤ 512)) = true
  · rw [ev_pos h, if_pos h]
    have ha : 1 ≤ a ∧ a ≤ 512 := by simp at h; exact h.2
    have g := implGatherV_ev l a.toNat hl (by omega) (by omega)
    rw [Int.toNat_of_nonneg (by omega)] at g
    rw [ev_bind g]
    exact Ev.now _
  · rw [ev_neg h, if_neg h]
    exact Ev.now _


theorem specGatherV_ev (l : List Int) (a : Nat) (hl : l.length ≤ 2000000) (ha : a ≤ 2000000) (ha0 : 0 < a) : Ev (fun k => spec_l10Gather.f k l (a : Int)) (gathV l a) := by
  unfold spec_l10Gather.f
  rw [(for_iff (fun k s i => spec_l10Gather.l0 k l (a : Int) s i) (fun i s => s ++ [wrap64 (psum l (i + 1) - psum l (i + 1 - a))]) (fun i s => s.length = i) l.length _ ?_ [] rfl).2]
  · rw [iter_push, ev_shift]
    simp only [spec_l10Gather.l0]
    rw [ev_neg (by omega)]
    exact Ev.now _
  · intro i s hi hs
    refine ⟨by simp [hs], ?_⟩
    rw [ev_shift]
    simp only [spec_l10Gather.l0]
    rw [ev_pos (by omega)]
    have h := for_pos (fun k c j => spec_l10Gather.l1 k l (a : Int) s (i : Int) c j) (fun j => (i : Int) - (j : Int)) (fun j _ => wrap64 (psum l (i + 1) - psum l (i + 1 - (j + 1)))) (fun j c => c = wrap64 (psum l (i + 1) - psum l (i + 1 - j))) (min (i + 1) a) (gathV l a) ?_ 0 (by simp [wrap_zero])
    · simp only [Int.ofNat_zero, Int.sub_zero] at h
      rw [h.2, h.1, ev_shift]
      simp only [spec_l10Gather.l1]
      rw [w64 (n := (i : Int) - (a : Int)) (by omega) (by omega), w64 (n := (i : Int) + 1) (by omega) (by omega)]
      have e : i + 1 - min (i + 1) a = i + 1 - a := by omega
      rw [e]
      by_cases c : (i : Int) - ((min (i + 1) a : Nat) : Int) ≥ 0
      · rw [ev_pos c, ev_neg (by omega), ev_pos (by omega)]
      · rw [ev_neg c, ev_pos (by omega)]
    · intro j c hj hc
      subst hc
      refine ⟨rfl, ?_⟩
      rw [ev_shift]
      simp only [spec_l10Gather.l1]
      rw [w64 (n := (i : Int) - (a : Int)) (by omega) (by omega), ev_pos (by omega), ev_pos (by omega), ev_pos (by omega), ev_pos (by omega), w64 (n := (i : Int) - (j : Int) - 1) (by omega) (by omega)]
      have e : wrap64 (wrap64 (psum l (i + 1) - psum l (i + 1 - j)) + rd l ((i : Int) - (j : Int))) = wrap64 (psum l (i + 1) - psum l (i + 1 - (j + 1))) := by
        rw [wrap_add_l]
        have e1 : i + 1 - j = (i - j) + 1 := by omega
        have e2 : i + 1 - (j + 1) = i - j := by omega
        have e3 : (i : Int) - (j : Int) = ((i - j : Nat) : Int) := by omega
        rw [e1, e2, e3, psum_succ l (i - j)]
        congr 1
        omega
      have e4 : (i : Int) - (j : Int) - 1 = (i : Int) - ((j + 1 : Nat) : Int) := by omega
      rw [e, e4]

theorem l1In_eq (a b c : Int) : spec_l1In.f a b c = some (decide (b ≤ a ∧ a ≤ c)) := by
  unfold spec_l1In.f
  by_cases h : a ≥ b
  · rw [if_pos h]
    congr 1
    rw [decide_eq_decide]
    omega
  · rw [if_neg h]
    congr 1
    symm
    rw [decide_eq_false_iff_not]
    omega

theorem l5Sample_eq (a : Int) : spec_l5Sample.f a = some (decide (-1000000000 ≤ a ∧ a ≤ 1000000000)) := by
  unfold spec_l5Sample.f
  rw [l1In_eq]
  rfl
theorem specSig_ev (l : List Int) (hl : l.length ≤ 2000000) : Ev (fun k => spec_SignalOk.f k l) (sigB l) := by
  unfold spec_SignalOk.f
  rw [sigB, inB_range]
  rw [all_iff (fun k i => spec_SignalOk.l0 k l i) (fun i => decide (-1000000000 ≤ rd l (i : Int)) && decide (rd l (i : Int) ≤ 1000000000)) l.length _ false]
  · split
    · rename_i hp
      rw [hp, Bool.and_true]
      exact Ev.step (f := fun _ => some (decide (l.length ≤ 512))) (fun k => by simp only [spec_SignalOk.l0]; rw [if_neg (by omega)]; congr 1; rw [decide_eq_decide]; omega) (Ev.now _)
    · rename_i hp
      simp only [Bool.not_eq_true] at hp
      rw [hp, Bool.and_false]
  · intro i hi
    by_cases p : -1000000000 ≤ rd l (i : Int) ∧ rd l (i : Int) ≤ 1000000000
    · rw [if_pos (by simpa using p)]
      rw [ev_shift]
      simp only [spec_SignalOk.l0]
      rw [ev_pos (by omega), ev_pos (by omega), l5Sample_eq]
      simp only [Option.bind_some]
      rw [ev_pos (by simpa using p), w64 (by omega) (by omega)]
    · rw [if_neg (by simpa using p)]
      rw [ev_shift]
      simp only [spec_SignalOk.l0]
      rw [ev_pos (by omega), ev_pos (by omega), l5Sample_eq]
      simp only [Option.bind_some]
      rw [ev_neg (by simpa using p), ev_some_iff]

theorem l10Back_ev (l : List Int) (a : Int) (hl : l.length ≤ 2000000) : Ev (fun k => spec_l10Back.f k l a) (sigB l && decide (1 ≤ a ∧ a ≤ 512)) := by
  unfold spec_l10Back.f
  rw [ev_bind (specSig_ev l hl)]
  by_cases h : sigB l = true
  · rw [ev_pos h, h, Bool.true_and]
    simp only [l1In_eq, Option.bind_some]
    exact Ev.now _
  · rw [ev_neg h, ev_some_iff]
    simp only [Bool.not_eq_true] at h
    rw [h, Bool.false_and]

theorem specGather_ev (l : List Int) (a : Int) (hl : l.length ≤ 2000000) : Ev (fun k => spec_Gather.f k l a) (gathR l a) := by
  unfold spec_Gather.f gathR
  rw [ev_bind (l10Back_ev l a hl)]
  by_cases h : (sigB l && decide (1 ≤ a ∧ a ≤ 512)) = true
  · rw [ev_pos h, if_pos h]
    have ha : 1 ≤ a ∧ a ≤ 512 := by simp at h; exact h.2
    have g := specGatherV_ev l a.toNat hl (by omega) (by omega)
    rw [Int.toNat_of_nonneg (by omega)] at g
    rw [ev_bind g]
    exact Ev.now _
  · rw [ev_neg h, if_neg h]
    exact Ev.now _

theorem DrawComb_ev (b : List Int) (hb : b.length ≤ 2000000) : ∃ l a, Ev (fun k => spec_DrawGather.f k b) (l, a) ∧ l.length ≤ 2000 := by
  unfold spec_DrawGather.f spec_DrawComb.f
  obtain ⟨h, e1⟩ := l1New_ev b hb
  obtain ⟨s, e2, hs0, hs1⟩ := l1Size_eq b 30 hb (by omega)
  obtain ⟨l, i, h', e3, hc, hl, _⟩ := l5DrawAny_ev b 0 h s ⟨by omega, by omega, hb⟩ (by omega) (by omega)
  obtain ⟨a, i2, h2, e4, _⟩ := l1PickInt_ok b i h' [1, 2, 3, 7, 512, 513, 0, 5] (by simp) hc
  refine ⟨l, a, ?_, hl⟩
  have e : Ev (fun k => ((spec_l1New.f k b).bind fun bt237 => ((spec_l1Size.f b 30).bind fun t241 => ((spec_l5DrawAny.f k bt237.1 bt237.2.1 bt237.2.2 t241).bind fun bt242 => ((spec_l1PickInt.f bt237.1 bt242.2.1 bt242.2.2 (([1, 2, 3, 7, 512, 513, 0, 5] : List Int))).bind fun bt250 => (some (bt242.1, bt250.1))))))) (l, a) := by
    rw [ev_bind e1]
    simp only [e2, Option.bind_some]
    rw [ev_bind e3]
    simp only [e4, Option.bind_some]
    exact Ev.now _
  rw [ev_bind e]
  exact Ev.now _
def rampV (l : List Int) (n : Nat) : List Int := tab n fun i => wrap64 (psum l (i + 1))
def rampR (l : List Int) : List Int × Bool := if (sigB l && sigB (rampV l l.length)) = true then (rampV l l.length, true) else ([], false)
theorem implRamp_ev (l : List Int) (hl : l.length ≤ 2000000) : Ev (fun k => impl_Ramp.f k l) (rampR l) := by
  unfold impl_Ramp.f rampR
  rw [ev_bind (implSig_ev l hl)]
  by_cases h : sigB l = true
  · rw [ev_pos h, h, Bool.true_and]
    have g := for_iff (fun k (s : List Int × Int) i => impl_Ramp.l0 k s.1 s.2 l (l.length : Int) i) (fun i s => (s.1 ++ [wrap64 (psum l (i + 1))], wrap64 (psum l (i + 1)))) (fun i s => s = (rampV l i, wrap64 (psum l i))) l.length (if sigB (rampV l l.length) = true then (rampV l l.length, true) else ([], false)) ?_ ([], 0) (by simp [rampV, tab_zero, psum_zero, wrap_zero])
    · rw [g.2, g.1, ev_shift]
      simp only [impl_Ramp.l0]
      rw [ev_neg (by omega), ev_bind (implSig_ev (rampV l l.length) (by simpa [rampV] using hl))]
      by_cases c : sigB (rampV l l.length) = true
      · rw [ev_pos c, if_pos c]
        exact Ev.now _
      · rw [ev_neg c, if_neg c]
        exact Ev.now _
    · intro i s hi hs
      subst hs
      refine ⟨by simp only [rampV, tab_succ], ?_⟩
      rw [ev_shift]
      simp only [impl_Ramp.l0]
      have e : wrap64 (wrap64 (psum l i) + rd l (i : Int)) = wrap64 (psum l (i + 1)) := by rw [wrap_add_l, psum_succ]
      have hr : (rampV l i).length = i := by simp [rampV]
      rw [ev_pos (by omega), ev_pos (by omega), ev_pos (by omega), ev_pos (by omega), w64 (n := (i : Int) + 1) (by omega) (by omega), e]
  · rw [ev_neg h, if_neg (by simp [h])]
    exact Ev.now _
theorem ramp_at {l : List Int} {i : Nat} (h : i < l.length) : rd (rampV l l.length) (i : Int) = wrap64 (psum l (i + 1)) := by
  unfold rampV
  rw [rd_tab' h]
theorem sigB_false {l : List Int} (hl : l.length ≤ 512) {i : Nat} (hi : i < l.length) (h : ¬ (-1000000000 ≤ rd l (i : Int) ∧ rd l (i : Int) ≤ 1000000000)) : sigB l = false := by
  rw [← Bool.not_eq_true]
  intro g
  exact h (inB_rd (sigB_iff.1 g).2 (by omega) _)
theorem specRamp_ev (l : List Int) (hl : l.length ≤ 2000000) : Ev (fun k => spec_Ramp.f k l) (rampR l) := by
  unfold spec_Ramp.f rampR
  rw [ev_sbind, ev_bind (specSig_ev l hl)]
  by_cases h : sigB l = true
  · rw [ev_pos h, h, Bool.true_and]
    have hl5 := (sigB_iff.1 h).1
    have key : ∀ d i : Nat, i + d = l.length → (∀ j, j < i → -1000000000 ≤ wrap64 (psum l (j + 1)) ∧ wrap64 (psum l (j + 1)) ≤ 1000000000) →
        Ev (fun k => spec_Ramp.l0 k l (rampV l i) (wrap64 (psum l i)) (i : Int)) (if sigB (rampV l l.length) = true then (rampV l l.length, true) else ([], false)) := by
      intro d
      induction d with
      | zero =>
        intro i hi hall
        have e : i = l.length := by omega
        subst e
        have hs : sigB (rampV l l.length) = true := by
          refine sigB_iff.2 ⟨by simpa [rampV] using hl5, inB_iff.2 ((all_rd (fun x => -1000000000 ≤ x ∧ x ≤ 1000000000)).2 fun i hi => ?_)⟩
          have hi' : i < l.length := by simpa [rampV] using hi
          rw [ramp_at hi']
          exact hall i hi'
        rw [if_pos hs, ev_shift]
        simp only [spec_Ramp.l0]
        rw [ev_neg (by omega)]
        exact Ev.now _
      | succ d ih =>
        intro i hi hall
        have e : wrap64 (wrap64 (psum l i) + rd l (i : Int)) = wrap64 (psum l (i + 1)) := by rw [wrap_add_l, psum_succ]
        have hr : (rampV l i).length = i := by simp [rampV]
        rw [ev_shift]
        simp only [spec_Ramp.l0]
        rw [ev_pos (by omega), ev_pos (by omega), e, l5Sample_eq]
        simp only [Option.bind_some]
        by_cases c : -1000000000 ≤ wrap64 (psum l (i + 1)) ∧ wrap64 (psum l (i + 1)) ≤ 1000000000
        · rw [ev_pos (by simpa using c), ev_pos (by omega), w64 (n := (i : Int) + 1) (by omega) (by omega)]
          have g := ih (i + 1) (by omega) (fun j hj => by
            by_cases q : j = i
            · subst q
              exact c
            · exact hall j (by omega))
          have e2 : rampV l (i + 1) = rampV l i ++ [wrap64 (psum l (i + 1))] := by simp only [rampV, tab_succ]
          rw [e2] at g
          exact g
        · rw [ev_neg (by simpa using c)]
          have hf : sigB (rampV l l.length) = false := sigB_false (i := i) (by simpa [rampV] using hl5) (by simpa [rampV] using (by omega : i < l.length)) (by rw [ramp_at (by omega)]; exact c)
          rw [hf]
          exact Ev.now _
    have g := key l.length 0 (by omega) (fun j hj => absurd hj (by omega))
    rw [psum_zero, wrap_zero] at g
    exact g
  · rw [ev_neg h, if_neg (by simp [h])]
    exact Ev.now _
theorem comb_ramp (l : List Int) (a : Int) (h0 : 1 ≤ a) : combV (rampV l l.length) a = gathV l a.toNat := by
  unfold combV gathV
  have hr : (rampV l l.length).length = l.length := by simp [rampV]
  rw [hr]
  refine tab_congr fun i hi => ?_
  rw [ramp_at hi]
  by_cases c : (i : Int) ≥ a
  · rw [if_pos c]
    have e : (i : Int) - a = ((i - a.toNat : Nat) : Int) := by omega
    have e2 : i - a.toNat + 1 = i + 1 - a.toNat := by omega
    rw [e, ramp_at (by omega), e2, wrap_sub_l, wrap_sub_r]
  · rw [if_neg c]
    have e2 : i + 1 - a.toNat = 0 := by omega
    rw [e2, psum_zero, Int.sub_zero]
theorem gath_small : gathR [4, 5] 1 = ([4, 5], true) := by
  have h : (sigB [4, 5] && decide (1 ≤ (1 : Int) ∧ (1 : Int) ≤ 512)) = true := by decide
  unfold gathR
  rw [if_pos h]
  simp [gathV, tab, psum, rd, wrap64, List.range_succ]
theorem FnCombs : laws_FnCombs.Pure := by
  intro l0 _ _ _
  refine Ev.rounds (g := fun k => laws_FnCombs.f k l0) ?_
  simp only [laws_FnCombs.f, big_eq, Option.bind_some]
  by_cases hlen : (l0.length : Int) > 1048576
  · rw [ev_pos (by simpa using hlen)]
    exact Ev.now _
  rw [ev_neg (by simpa using hlen)]
  obtain ⟨l, a, hd, hl⟩ := DrawComb_ev l0 (by omega)
  rw [ev_bind hd]
  simp only
  rw [ev_bind (implGather_ev l a (by omega)), ev_bind (specGather_ev l a (by omega))]
  simp only [bne_self_eq_false, Bool.false_eq_true, if_false]
  rw [ev_bind (implRamp_ev l (by omega)), ev_bind (specRamp_ev l (by omega))]
  simp only [bne_self_eq_false, Bool.false_eq_true, if_false]
  have hrl : (rampR l).1.length ≤ 2000000 := by
    unfold rampR
    split
    · simp [rampV]; omega
    · simp
  rw [ev_bind (implComb_ev _ a hrl), ev_bind (implGather_ev [4, 5] 1 (by simp)), gath_small]
  simp only [if_true]
  rw [ev_bind (sameInts_ev [4, 5] [4, 5] (by simp)), decide_eq_true rfl, ev_pos rfl]
  unfold gathR
  by_cases h1 : (sigB l && decide (1 ≤ a ∧ a ≤ 512)) = true
  · simp only [if_pos h1, if_true]
    unfold rampR
    by_cases h2 : (sigB l && sigB (rampV l l.length)) = true
    · simp only [if_pos h2, if_true]
      have h3 : sigB (rampV l l.length) = true := by simp at h2; exact h2.2
      have h4 : 1 ≤ a ∧ a ≤ 512 := by simp at h1; exact h1.2
      have h5 : combR (rampV l l.length) a = (gathV l a.toNat, true) := by
        unfold combR
        rw [h3, decide_eq_true h4, Bool.and_self, if_pos rfl, comb_ramp l a h4.1]
      rw [h5]
      simp only [if_true]
      rw [ev_bind (sameInts_ev _ _ (by rw [gathV_length]; omega)), decide_eq_true rfl]
      exact Ev.now _
    · simp only [if_neg h2, Bool.false_eq_true, if_false]
      exact Ev.now _
  · simp only [if_neg h1, Bool.false_eq_true, if_false]
    exact Ev.now _

end Go.Proofs.Ytinpmpdkoedjnaa.Pure
