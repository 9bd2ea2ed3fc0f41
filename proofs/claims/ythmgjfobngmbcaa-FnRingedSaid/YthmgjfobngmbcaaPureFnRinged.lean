/- The pure part of FnRinged: a signal pushed into a ring comes out a whole ring later; what was pushed last is found going back. No conditions. -/
import Derived.Test.YthmgjfobngmbcaaQFnRingedx4
import Derived.Test.YthmgjfobngmbcaaBase
namespace Go.Proofs.Ythmgjfobngmbcaa.Pure
open Go.RowKit Go.Proofs.Ythmgjfobngmbcaa.QFnRinged Go.Proofs.YthmgjfobngmbcaaW.PrintWords Go.Proofs.YthmgjfobngmbcaaW.PrintLast
open Go.Proofs.Ythmgjfobngmbcaa.Base
set_option linter.unusedVariables false
set_option linter.unusedSimpArgs false
/-! ### the cursor of a draw -/
def CurOk (b : List Int) (i : Int) : Prop := 0 ≤ i ∧ i ≤ (b.length : Int) ∧ b.length ≤ 2000000
theorem l1New_ev (b : List Int) (hb : b.length ≤ 2000000) : ∃ h, Ev (fun k => spec_l1New.f k b) (b, 0, h) := by
  unfold spec_l1New.f
  refine ⟨iter (fun i h => Go.bits .and .i64 (wrap64 ((wrap64 ((wrap64 (h * 131)) + (wrap64 (rd b (i : Int))))) + 7)) 1073741823) (min b.length 4000) (wrap64 (71933 + (b.length : Int))), ?_⟩
  rw [(for_iff (fun k h i => spec_l1New.l0 k b h i) (fun i h => Go.bits .and .i64 (wrap64 ((wrap64 ((wrap64 (h * 131)) + (wrap64 (rd b (i : Int))))) + 7)) 1073741823) (fun _ _ => True) (min b.length 4000) _ ?_ _ trivial).2]
  · rw [ev_shift]
    simp only [spec_l1New.l0]
    by_cases h : ((min b.length 4000 : Nat) : Int) < (b.length : Int)
    · rw [ev_pos h, ev_neg (by omega)]
      exact Ev.now _
    · rw [ev_neg h]
      exact Ev.now _
  · intro i s hi _
    refine ⟨trivial, ?_⟩
    rw [ev_shift]
    simp only [spec_l1New.l0]
    rw [ev_pos (by omega), ev_pos (by omega), ev_pos (by omega), w64 (n := (i : Int) + 1) (by omega) (by omega)]
theorem l1Byte_ok (b : List Int) (i h : Int) (hc : CurOk b i) : ∃ x i' h', spec_l1Byte.f b i h = some (x, i', h') ∧ CurOk b i' ∧ 0 ≤ x ∧ x ≤ 255 := by
  obtain ⟨h0, h1, h2⟩ := hc
  unfold spec_l1Byte.f
  by_cases c : i < (b.length : Int)
  · rw [if_pos c, if_pos h0]
    have := band_range
    refine ⟨_, _, _, rfl, ⟨?_, ?_, h2⟩, (band_range _ 255 (by omega) (by omega)).1, (band_range _ 255 (by omega) (by omega)).2⟩
    · rw [w64 (by omega) (by omega)]; omega
    · rw [w64 (by omega) (by omega)]; omega
  · rw [if_neg c]
    exact ⟨_, _, _, rfl, ⟨h0, h1, h2⟩, (band_range _ 255 (by omega) (by omega)).1, (band_range _ 255 (by omega) (by omega)).2⟩
theorem l1Below_ok (b : List Int) (i h n : Int) (hc : CurOk b i) : ∃ x i' h', spec_l1Below.f b i h n = some (x, i', h') ∧ CurOk b i' ∧ 0 ≤ x ∧ (0 < n → x < n) ∧ (n ≤ 0 → x = 0) := by
  unfold spec_l1Below.f
  by_cases c : n ≤ 0
  · rw [if_pos c]
    exact ⟨_, _, _, rfl, hc, by omega, by omega, fun _ => rfl⟩
  · rw [if_neg c]
    by_cases d : n ≤ 256
    · rw [if_pos d]
      obtain ⟨x, i1, h1, e, hc1, hx0, hx1⟩ := l1Byte_ok b i h hc
      rw [e]
      simp only [Option.bind_some]
      rw [if_neg (by omega)]
      refine ⟨_, _, _, rfl, hc1, ?_, fun _ => ?_, fun h => absurd h c⟩
      · exact Int.tmod_nonneg _ hx0
      · exact Int.tmod_lt_of_pos _ (by omega)
    · rw [if_neg d]
      obtain ⟨x, i1, h1, e, hc1, hx0, hx1⟩ := l1Byte_ok b i h hc
      rw [e]
      simp only [Option.bind_some]
      obtain ⟨y, i2, h2, e, hc2, hy0, hy1⟩ := l1Byte_ok b i1 h1 hc1
      rw [e]
      simp only [Option.bind_some]
      obtain ⟨z, i3, h3, e, hc3, hz0, hz1⟩ := l1Byte_ok b i2 h2 hc2
      rw [e]
      simp only [Option.bind_some]
      obtain ⟨w, i4, h4, e, hc4, hw0, hw1⟩ := l1Byte_ok b i3 h3 hc3
      rw [e]
      simp only [Option.bind_some]
      rw [if_neg (by omega)]
      refine ⟨_, _, _, rfl, hc4, ?_, fun _ => ?_, fun h => absurd h c⟩
      · refine Int.tmod_nonneg _ ?_
        rw [w64 (n := x * 16777216) (by omega) (by omega), w64 (n := y * 65536) (by omega) (by omega), w64 (n := z * 256) (by omega) (by omega), w64 (n := x * 16777216 + y * 65536) (by omega) (by omega), w64 (n := x * 16777216 + y * 65536 + z * 256) (by omega) (by omega), w64 (by omega) (by omega)]
        omega
      · exact Int.tmod_lt_of_pos _ (by omega)
theorem l1Once_ok (b : List Int) (i h n : Int) (hc : CurOk b i) : ∃ t i' h', spec_l1Once.f b i h n = some (t, i', h') ∧ CurOk b i' := by
  unfold spec_l1Once.f
  obtain ⟨x, i1, h1, e, hc1, _⟩ := l1Below_ok b i h n hc
  rw [e]
  exact ⟨_, _, _, rfl, hc1⟩

theorem l1PickInt_ok (b : List Int) (i h : Int) (l : List Int) (hl : 0 < l.length) (hc : CurOk b i) : ∃ x i' h', spec_l1PickInt.f b i h l = some (x, i', h') ∧ CurOk b i' ∧ x ∈ l := by
  unfold spec_l1PickInt.f
  obtain ⟨x, i1, h1, e, hc1, h0, hx, _⟩ := l1Below_ok b i h (l.length : Int) hc
  rw [e]
  simp only [Option.bind_some]
  have := hx (by omega)
  rw [if_pos h0, if_pos this]
  exact ⟨_, _, _, rfl, hc1, rd_mem h0 this⟩

theorem l1Size_eq (l : List Int) (m : Int) (hl : l.length ≤ 2000000) (hm : 2 ≤ m) : ∃ s, spec_l1Size.f l m = some s ∧ 2 ≤ s ∧ s ≤ m := by
  unfold spec_l1Size.f
  rw [w64 (n := (l.length : Int) / 20) (by omega) (by omega), w64 (by omega) (by omega)]
  by_cases h : 2 + (l.length : Int) / 20 > m
  · rw [if_pos h]
    exact ⟨m, rfl, hm, by omega⟩
  · rw [if_neg h]
    exact ⟨_, rfl, by omega, by omega⟩

theorem l5DrawSample_ok (b : List Int) (i h : Int) (hc : CurOk b i) : ∃ x i' h', spec_l5DrawSample.f b i h = some (x, i', h') ∧ CurOk b i' ∧ -1000000000 ≤ x ∧ x ≤ 1000000000 := by
  unfold spec_l5DrawSample.f
  obtain ⟨x, i1, h1, e, hc1, h0, hx, _⟩ := l1Below_ok b i h 5 hc
  rw [e]
  simp only [Option.bind_some]
  by_cases c0 : x = 0
  · rw [if_pos c0]
    obtain ⟨y, i2, h2, e, hc2, hy0, hy, _⟩ := l1Below_ok b i1 h1 21 hc1
    rw [e]
    simp only [Option.bind_some]
    have := hy (by omega)
    exact ⟨_, _, _, rfl, hc2, by rw [w64 (by omega) (by omega)]; omega, by rw [w64 (by omega) (by omega)]; omega⟩
  · rw [if_neg c0]
    have last : ∀ i1 h1, CurOk b i1 → ∃ x i' h', ((spec_l1Below.f b i1 h1 2001).bind fun t => (some (wrap64 (t.1 - 1000), t.2.1, t.2.2))) = some (x, i', h') ∧ CurOk b i' ∧ -1000000000 ≤ x ∧ x ≤ 1000000000 := by
      intro i1 h1 hc1
      obtain ⟨y, i2, h2, e, hc2, hy0, hy, _⟩ := l1Below_ok b i1 h1 2001 hc1
      rw [e]
      simp only [Option.bind_some]
      have := hy (by omega)
      exact ⟨_, _, _, rfl, hc2, by rw [w64 (by omega) (by omega)]; omega, by rw [w64 (by omega) (by omega)]; omega⟩
    by_cases c1 : x = 1
    · rw [if_pos c1]
      obtain ⟨y, i2, h2, e, hc2, hy0, hy, _⟩ := l1Below_ok b i1 h1 65536 hc1
      rw [e]
      simp only [Option.bind_some]
      have := hy (by omega)
      exact ⟨_, _, _, rfl, hc2, by rw [w64 (by omega) (by omega)]; omega, by rw [w64 (by omega) (by omega)]; omega⟩
    · rw [if_neg c1]
      by_cases c2 : x = 2
      · rw [if_pos c2]
        obtain ⟨t, i2, h2, e, hc2⟩ := l1Once_ok b i1 h1 12 hc1
        rw [e]
        simp only [Option.bind_some]
        by_cases c3 : t = true
        · rw [if_pos c3]
          obtain ⟨y, i3, h3, e, hc3, hy⟩ := l1PickInt_ok b i2 h2 [1000000000, (-1000000000), 0] (by simp) hc2
          rw [e]
          simp only [Option.bind_some]
          refine ⟨_, _, _, rfl, hc3, ?_⟩
          simp only [List.mem_cons, List.not_mem_nil, or_false] at hy
          omega
        · rw [if_neg c3]
          exact last _ _ hc2
      · rw [if_neg c2]
        exact last _ _ hc1
/-- A loop that counts down and appends what it draws. -/
theorem l5DrawLoop (b : List Int) : ∀ (n : Nat) (s : List Int) (i h : Int), CurOk b i → s.length + n ≤ 1000000 → (∀ x ∈ s, -1000000000 ≤ x ∧ x ≤ 1000000000) →
    ∃ r i' h', Ev (fun k => spec_l5Draw.l0 k s (n : Int) b i h) (r, i', h') ∧ CurOk b i' ∧ r.length ≤ s.length + n ∧ (∀ x ∈ r, -1000000000 ≤ x ∧ x ≤ 1000000000) := by
  intro n
  induction n with
  | zero =>
    intro s i h hc _ hs
    refine ⟨s, i, h, ?_, hc, by omega, hs⟩
    rw [ev_shift]
    simp only [spec_l5Draw.l0]
    rw [ev_neg (by omega)]
    exact Ev.now _
  | succ n ih =>
    intro s i h hc hn hs
    obtain ⟨x, i1, h1, e, hc1, hx⟩ := l5DrawSample_ok b i h hc
    · obtain ⟨r, i2, h2, e2, hc2, hr, hr2⟩ := ih (s ++ [x]) i1 h1 hc1 (by simp; omega) (by
        intro y hy
        rw [List.mem_append, List.mem_singleton] at hy
        rcases hy with hy | hy
        · exact hs y hy
        · subst hy
          exact hx)
      refine ⟨r, i2, h2, ?_, hc2, by simp at hr; omega, hr2⟩
      rw [ev_shift]
      simp only [spec_l5Draw.l0, e, Option.bind_some]
      rw [ev_pos (by omega), ev_pos (by omega), w64 (by omega) (by omega)]
      have e3 : ((n + 1 : Nat) : Int) - 1 = (n : Int) := by omega
      rw [e3]
      exact e2
theorem l5Draw_ev (b : List Int) (i h m : Int) (hc : CurOk b i) (h0 : 0 ≤ m) (h1 : m ≤ 1000) :
    ∃ r i' h', Ev (fun k => spec_l5Draw.f k b i h m) (r, i', h') ∧ CurOk b i' ∧ (r.length : Int) ≤ m ∧ (∀ x ∈ r, -1000000000 ≤ x ∧ x ≤ 1000000000) := by
  unfold spec_l5Draw.f
  rw [w64 (by omega) (by omega)]
  obtain ⟨x, i1, h1', e, hc1, hx0, hx, _⟩ := l1Below_ok b i h (m + 1) hc
  rw [e]
  simp only [Option.bind_some]
  have := hx (by omega)
  obtain ⟨r, i2, h2, e2, hc2, hr, hr2⟩ := l5DrawLoop b x.toNat [] i1 h1' hc1 (by simp; omega) (by simp)
  rw [Int.toNat_of_nonneg hx0] at e2
  exact ⟨r, i2, h2, e2, hc2, by simp at hr; omega, hr2⟩
theorem l5DrawAny_ev (b : List Int) (i h m : Int) (hc : CurOk b i) (h0 : 0 ≤ m) (h1 : m ≤ 1000) :
    ∃ r i' h', Ev (fun k => spec_l5DrawAny.f k b i h m) (r, i', h') ∧ CurOk b i' ∧ r.length ≤ 2000 ∧ (∀ x ∈ r, -1000000001 ≤ x ∧ x ≤ 1000000001) := by
  unfold spec_l5DrawAny.f
  obtain ⟨r, i1, h1', e, hc1, hr, hr2⟩ := l5Draw_ev b i h m hc h0 h1
  have tail : ∀ (s : List Int) (i h : Int), CurOk b i → s.length ≤ 2000 → (∀ x ∈ s, -1000000001 ≤ x ∧ x ≤ 1000000001) →
      ∃ r i' h', Ev (fun k => spec_l5DrawAny.j0 k s b i h) (r, i', h') ∧ CurOk b i' ∧ r.length ≤ 2000 ∧ (∀ x ∈ r, -1000000001 ≤ x ∧ x ≤ 1000000001) := by
    intro s i h hc hs hs2
    obtain ⟨t, i2, h2, e, hc2⟩ := l1Once_ok b i h 80 hc
    by_cases ht : t = true
    · obtain ⟨x, i3, h3, e3, hc3, hx0, hx, _⟩ := l1Below_ok b i2 h2 2 hc2
      have := hx (by omega)
      refine ⟨List.replicate (512 + x).toNat 0, i3, h3, ?_, hc3, by simp; omega, ?_⟩
      · rw [ev_shift]
        simp only [spec_l5DrawAny.j0, e, Option.bind_some]
        rw [ev_pos ht]
        simp only [e3, Option.bind_some]
        rw [w64 (by omega) (by omega), ev_pos (by omega), ev_pos (by omega)]
        exact Ev.now _
      · intro y hy
        rw [List.mem_replicate] at hy
        omega
    · refine ⟨s, i2, h2, ?_, hc2, hs, hs2⟩
      rw [ev_shift]
      simp only [spec_l5DrawAny.j0, e, Option.bind_some]
      rw [ev_neg ht]
      exact Ev.now _
  obtain ⟨t, i2, h2, e2, hc2⟩ := l1Once_ok b i1 h1' 25 hc1
  have hr3 : ∀ x ∈ r, -1000000001 ≤ x ∧ x ≤ 1000000001 := fun x hx => by have := hr2 x hx; omega
  by_cases ht : t = true
  · obtain ⟨x, i3, h3, e3, hc3, hx⟩ := l1PickInt_ok b i2 h2 [1000000001, (-1000000001)] (by simp) hc2
    simp only [List.mem_cons, List.not_mem_nil, or_false] at hx
    obtain ⟨q, i4, h4, e4, hc4, hq⟩ := tail (r ++ [x]) i3 h3 hc3 (by simp; omega) (by
      intro y hy
      rw [List.mem_append, List.mem_singleton] at hy
      rcases hy with hy | hy
      · exact hr3 y hy
      · omega)
    refine ⟨q, i4, h4, ?_, hc4, hq⟩
    rw [ev_bind e]
    simp only [e2, Option.bind_some]
    rw [ev_pos ht]
    simp only [e3, Option.bind_some]
    rw [ev_pos (by omega)]
    exact e4
  · obtain ⟨q, i4, h4, e4, hc4, hq⟩ := tail r i2 h2 hc2 (by omega) hr3
    refine ⟨q, i4, h4, ?_, hc4, hq⟩
    rw [ev_bind e]
    simp only [e2, Option.bind_some]
    rw [ev_neg ht]
    exact e4

theorem big_eq (l : List Int) : laws_big.f l = some (decide ((l.length : Int) > 1048576)) := rfl

theorem l1In_eq (a b c : Int) : spec_l1In.f a b c = some (decide (b ≤ a ∧ a ≤ c)) := by
  unfold spec_l1In.f
  by_cases h : a ≥ b
  · rw [if_pos h]
    congr 1
    rw [decide_eq_decide]
    omega
  · rw [if_neg h]
    congr 1
    symm
    rw [decide_eq_false_iff_not]
    omega

theorem l5Sample_eq (a : Int) : spec_l5Sample.f a = some (decide (-1000000000 ≤ a ∧ a ≤ 1000000000)) := by
  unfold spec_l5Sample.f
  rw [l1In_eq]
  rfl
theorem specSig_ev (l : List Int) (hl : l.length ≤ 2000000) : Ev (fun k => spec_SignalOk.f k l) (sigB l) := by
  unfold spec_SignalOk.f
  rw [sigB, inB_range]
  rw [all_iff (fun k i => spec_SignalOk.l0 k l i) (fun i => decide (-1000000000 ≤ rd l (i : Int)) && decide (rd l (i : Int) ≤ 1000000000)) l.length _ false]
  · split
    · rename_i hp
      rw [hp, Bool.and_true]
      exact Ev.step (f := fun _ => some (decide (l.length ≤ 512))) (fun k => by simp only [spec_SignalOk.l0]; rw [if_neg (by omega)]; congr 1; rw [decide_eq_decide]; omega) (Ev.now _)
    · rename_i hp
      simp only [Bool.not_eq_true] at hp
      rw [hp, Bool.and_false]
  · intro i hi
    by_cases p : -1000000000 ≤ rd l (i : Int) ∧ rd l (i : Int) ≤ 1000000000
    · rw [if_pos (by simpa using p)]
      rw [ev_shift]
      simp only [spec_SignalOk.l0]
      rw [ev_pos (by omega), ev_pos (by omega), l5Sample_eq]
      simp only [Option.bind_some]
      rw [ev_pos (by simpa using p), w64 (by omega) (by omega)]
    · rw [if_neg (by simpa using p)]
      rw [ev_shift]
      simp only [spec_SignalOk.l0]
      rw [ev_pos (by omega), ev_pos (by omega), l5Sample_eq]
      simp only [Option.bind_some]
      rw [ev_neg (by simpa using p), ev_some_iff]

theorem clone_eq (l : List Int) (h : l.length ≤ 2000000) : slices_Clone_int_int.f l = some l := by
  unfold slices_Clone_int_int.f
  simp only [Option.bind_some, List.nil_append, List.length_nil]
  rw [if_pos (by omega)]

theorem within_ev (l : List Int) (m : Int) (hl : l.length ≤ 2000000) (h0 : 0 ≤ m) (h1 : m ≤ 1000000000000) : Ev (fun k => impl_within.f k l m) (inB m l) := by
  unfold impl_within.f
  rw [inB_range]
  rw [all_iff (fun k i => impl_within.l0 k m l (l.length : Int) i) (fun i => decide (-m ≤ rd l (i : Int)) && decide (rd l (i : Int) ≤ m)) l.length _ false]
  · split
    · rename_i hp
      rw [hp]
      exact Ev.step (fun k => by simp only [impl_within.l0]; rw [if_neg (by omega)]) (Ev.now _)
    · rename_i hp
      simpa using hp
  · intro i hi
    by_cases p : -m ≤ rd l (i : Int) ∧ rd l (i : Int) ≤ m
    · rw [if_pos (by simpa using p)]
      rw [ev_shift]
      simp only [impl_within.l0]
      rw [ev_pos (by omega), ev_pos (by omega), ev_pos (by omega), w64 (n := -m) (by omega) (by omega), ev_neg (by omega), ev_neg (by omega), w64 (by omega) (by omega)]
    · rw [if_neg (by simpa using p)]
      rw [ev_shift]
      simp only [impl_within.l0]
      rw [ev_pos (by omega), ev_pos (by omega), ev_pos (by omega), w64 (n := -m) (by omega) (by omega)]
      by_cases q : rd l (i : Int) < -m
      · rw [ev_pos q, ev_some_iff]
      · rw [ev_neg q, ev_pos (by omega), ev_some_iff]

theorem implSig_ev (l : List Int) (hl : l.length ≤ 2000000) : Ev (fun k => impl_SignalOk.f k l) (sigB l) := by
  unfold impl_SignalOk.f
  by_cases h : (l.length : Int) ≤ 512
  · rw [ev_pos h]
    rw [ev_bind (within_ev l 1000000000 hl (by omega) (by omega)), ev_some_iff, sigB, decide_eq_true (by omega : l.length ≤ 512), Bool.true_and]
  · rw [ev_neg h]
    rw [ev_some_iff, sigB, decide_eq_false (by omega : ¬ l.length ≤ 512), Bool.false_and]

/-! ### a ring -/
def ringF (cells l : List Int) (a j : Nat) : Int := if j < cells.length then rd cells (((a + j) % cells.length : Nat) : Int) else rd l ((j - cells.length : Nat) : Int)
def ringP (cells l : List Int) (a m : Nat) (s : List Int × List Int × Int) : Prop :=
  s.1 = tab m (ringF cells l a) ∧ s.2.1.length = cells.length ∧ (∀ j, m ≤ j → j < m + cells.length → rd s.2.1 (((a + j) % cells.length : Nat) : Int) = ringF cells l a j) ∧ s.2.2 = (((a + m) % cells.length : Nat) : Int) ∧ inB 1000000000 s.2.1 = true
theorem mod_ne {a m j n : Nat} (h0 : m < j) (h1 : j < m + n) : (a + j) % n ≠ (a + m) % n := by
  intro h
  have h2 : (a + j - (a + m)) % n = 0 := Nat.sub_mod_eq_zero_of_mod_eq h
  have h3 : a + j - (a + m) = j - m := by omega
  rw [h3, Nat.mod_eq_of_lt (by omega)] at h2
  omega
theorem inB_set {m : Int} {l : List Int} {i : Nat} {v : Int} (h : inB m l = true) (hv : -m ≤ v ∧ v ≤ m) : inB m (l.set i v) = true := by
  refine inB_iff.2 fun x hx => ?_
  rcases List.mem_or_eq_of_mem_set hx with h1 | h1
  · exact inB_iff.1 h x h1
  · rw [h1]
    exact hv
theorem ring_step (cells l : List Int) (a m : Nat) (hn : 0 < cells.length) (hl : inB 1000000000 l = true) (s : List Int × List Int × Int) (hs : ringP cells l a m s) :
    ringP cells l a (m + 1) (s.1 ++ [rd s.2.1 s.2.2], s.2.1.set s.2.2.toNat (rd l (m : Int)), Int.tmod (s.2.2 + 1) (cells.length : Int)) := by
  obtain ⟨h1, h2, h3, h4, h5⟩ := hs
  have hm := Nat.mod_lt (a + m) hn
  refine ⟨?_, ?_, ?_, ?_, ?_⟩
  · rw [h1, h4, tab_succ, h3 m (Nat.le_refl _) (by omega)]
  · rw [List.length_set, h2]
  · intro j hj0 hj1
    have hj := Nat.mod_lt (a + j) hn
    show rd (s.2.1.set s.2.2.toNat (rd l (m : Int))) _ = _
    rw [h4, rd_set (by omega) (by omega) (by omega)]
    by_cases c : j = m + cells.length
    · subst c
      have e : (a + (m + cells.length)) % cells.length = (a + m) % cells.length := by rw [← Nat.add_assoc, Nat.add_mod_right]
      rw [e, if_pos rfl]
      unfold ringF
      rw [if_neg (by omega), Nat.add_sub_cancel]
    · have := mod_ne (a := a) (m := m) (j := j) (n := cells.length) (by omega) (by omega)
      rw [if_neg (by omega), h3 j (by omega) (by omega)]
  · show Int.tmod (s.2.2 + 1) (cells.length : Int) = _
    rw [h4]
    have e : (((a + m) % cells.length : Nat) : Int) + 1 = (((a + m) % cells.length + 1 : Nat) : Int) := by omega
    rw [e, ← Int.ofNat_tmod, Nat.mod_add_mod, Nat.add_assoc]
  · exact inB_set h5 (inB_rd hl (by omega) _)
theorem pushV_ev (cells l : List Int) (a : Nat) (hn : 0 < cells.length) (hc : sigB cells = true) (ha : a < cells.length) (hl : sigB l = true) :
    ∃ c', Ev (fun k => impl_Push.l0 k [] l (l.length : Int) 0 cells (a : Int)) (c', (((a + l.length) % cells.length : Nat) : Int), tab l.length (ringF cells l a), true) ∧ c'.length = cells.length ∧ sigB c' = true ∧
      ∀ j, l.length ≤ j → j < l.length + cells.length → rd c' (((a + j) % cells.length : Nat) : Int) = ringF cells l a j := by
  have c1 := sigB_iff.1 hc
  have l1 := sigB_iff.1 hl
  have h0 : ringP cells l a 0 ([], cells, (a : Int)) := by
    refine ⟨rfl, rfl, fun j _ hj => ?_, ?_, c1.2⟩
    · unfold ringF
      rw [if_pos (by omega)]
    · simp only [Nat.add_zero]
      rw [Nat.mod_eq_of_lt ha]
  have g := fun r => for_iff (fun k (s : List Int × List Int × Int) i => impl_Push.l0 k s.1 l (l.length : Int) i s.2.1 s.2.2) (fun i s => (s.1 ++ [rd s.2.1 s.2.2], s.2.1.set s.2.2.toNat (rd l (i : Int)), Int.tmod (s.2.2 + 1) (cells.length : Int))) (ringP cells l a) l.length r (fun i s hi hs => by
    refine ⟨ring_step cells l a i hn l1.2 s hs, ?_⟩
    obtain ⟨h1, h2, h3, h4, h5⟩ := hs
    have hm := Nat.mod_lt (a + i) hn
    have h6 : s.1.length = i := by rw [h1]; simp
    rw [ev_shift]
    simp only [impl_Push.l0]
    rw [h2, ev_pos (by omega), ev_pos (by omega), ev_pos (by omega), ev_pos (by omega), ev_pos (by omega), ev_pos (by omega), ev_neg (by omega), w64 (n := (i : Int) + 1) (by omega) (by omega), w64 (n := s.2.2 + 1) (by omega) (by omega)]) ([], cells, (a : Int)) h0
  obtain ⟨h1, h2, h3, h4, h5⟩ := (g (cells, 0, [], true)).1
  refine ⟨_, (g _).2.2 ?_, h2, sigB_iff.2 ⟨by omega, h5⟩, h3⟩
  rw [ev_shift]
  simp only [impl_Push.l0]
  rw [ev_neg (by omega), h1, h4]
  exact Ev.now _
theorem ringOk_ev (cells : List Int) (a : Int) (hl : cells.length ≤ 2000000) : Ev (fun k => impl_Ring_ok.f k cells a) (decide (1 ≤ cells.length) && sigB cells && decide (0 ≤ a ∧ a < (cells.length : Int))) := by
  unfold impl_Ring_ok.f
  by_cases h1 : (cells.length : Int) ≥ 1
  · rw [ev_pos h1, ev_bind (implSig_ev cells hl), decide_eq_true (by omega : 1 ≤ cells.length), Bool.true_and]
    by_cases h2 : sigB cells = true
    · rw [ev_pos h2, h2, Bool.true_and]
      by_cases h3 : a ≥ 0
      · rw [ev_pos h3, ev_some_iff, decide_eq_decide]
        omega
      · rw [ev_neg h3, ev_some_iff, decide_eq_false (by omega)]
    · rw [ev_neg h2, ev_some_iff]
      simp only [Bool.not_eq_true] at h2
      rw [h2, Bool.false_and]
  · rw [ev_neg h1, ev_some_iff, decide_eq_false (by omega : ¬ 1 ≤ cells.length), Bool.false_and, Bool.false_and]

theorem implTap_ev (c : List Int) (a b : Nat) (hc : sigB c = true) (hn : 0 < c.length) (ha : a < c.length) (hb0 : 1 ≤ b) (hb : b ≤ c.length) :
    Ev (fun k => impl_Tap.f k c (a : Int) (b : Int)) (rd c (((a + c.length - b) % c.length : Nat) : Int), true) := by
  have c1 := sigB_iff.1 hc
  have hm := Nat.mod_lt (a + c.length - b) hn
  unfold impl_Tap.f
  rw [ev_bind (ringOk_ev c a (by omega)), decide_eq_true (by omega : 1 ≤ c.length), hc, decide_eq_true (by omega : 0 ≤ (a : Int) ∧ (a : Int) < (c.length : Int))]
  simp only [Bool.and_self, if_true]
  rw [w64 (n := (a : Int) - (b : Int)) (by omega) (by omega), w64 (by omega) (by omega)]
  have e : (a : Int) - (b : Int) + (c.length : Int) = ((a + c.length - b : Nat) : Int) := by omega
  rw [e, ← Int.ofNat_tmod, ev_neg (by omega), ev_neg (by omega), ev_neg (by omega), ev_pos (by omega), ev_pos (by omega)]
  exact Ev.now _

theorem DrawPush_ev (b : List Int) (hb : b.length ≤ 2000000) : ∃ c a l, Ev (fun k => spec_DrawPush.f k b) (c, a, l) ∧ c.length ≤ 2000 ∧ l.length ≤ 2000 := by
  unfold spec_DrawPush.f
  obtain ⟨h, e1⟩ := l1New_ev b hb
  obtain ⟨s, e2, hs0, hs1⟩ := l1Size_eq b 30 hb (by omega)
  obtain ⟨c, i, h', e3, hc, hl, _⟩ := l5Draw_ev b 0 h 12 ⟨by omega, by omega, hb⟩ (by omega) (by omega)
  obtain ⟨a, i2, h2, e4, hc2, _⟩ := l1Below_ok b i h' (wrap64 ((c.length : Int) + 1)) hc
  obtain ⟨l, i3, h3, e5, hc3, hl3, _⟩ := l5DrawAny_ev b i2 h2 s hc2 (by omega) (by omega)
  refine ⟨c, a, l, ?_, by omega, hl3⟩
  have er : Ev (fun k => spec_l11DrawRing.f k b 0 h) (c, a, i2, h2) := by
    unfold spec_l11DrawRing.f
    rw [ev_bind e3]
    simp only [e4, Option.bind_some]
    exact Ev.now _
  rw [ev_bind e1]
  simp only
  rw [ev_bind er]
  simp only [e2, Option.bind_some]
  rw [ev_bind e5]
  exact Ev.now _
theorem ringed_ev (cells l : List Int) (a : Nat) (hn : 0 < cells.length) (hc : sigB cells = true) (ha : a < cells.length) (hl : sigB l = true) :
    Ev (fun k => laws_FnRinged.j1 k l cells (a : Int)) true := by
  have c1 := sigB_iff.1 hc
  have l1 := sigB_iff.1 hl
  obtain ⟨c', hp, hlen, hs', hF⟩ := pushV_ev cells l a hn hc ha hl
  have hm := Nat.mod_lt (a + l.length) hn
  have hpush : Ev (fun k => impl_Push.f k cells (a : Int) l) (c', (((a + l.length) % cells.length : Nat) : Int), tab l.length (ringF cells l a), true) := by
    unfold impl_Push.f
    rw [ev_bind (ringOk_ev cells a (by omega)), decide_eq_true (by omega : 1 ≤ cells.length), hc, decide_eq_true (by omega : 0 ≤ (a : Int) ∧ (a : Int) < (cells.length : Int))]
    simp only [Bool.and_self, if_true]
    rw [ev_bind (implSig_ev l (by omega)), hl, ev_shift]
    simp only [impl_Push.j0, Bool.not_true, Bool.false_eq_true, if_false]
    rw [clone_eq cells (by omega), ev_sbind]
    exact hp
  rw [ev_shift]
  simp only [laws_FnRinged.j1]
  rw [ev_bind hpush]
  simp only [if_true, tab_length, bne_self_eq_false]
  rw [ev_shift]
  simp only [laws_FnRinged.j2, Bool.false_eq_true, if_false]
  have g := for_iff (fun k (_ : Unit) i => laws_FnRinged.l0 k l (tab l.length (ringF cells l a)) (cells.length : Int) i cells (a : Int) c' (((a + l.length) % cells.length : Nat) : Int)) (fun _ s => s) (fun _ _ => True) l.length true ?_ () trivial
  · rw [g.2, ev_shift]
    simp only [laws_FnRinged.l0, tab_length]
    rw [ev_neg (by omega)]
    -- going back
    have last : ∀ x, Ev (fun k => laws_FnRinged.j5 k l (cells.length : Int) x false c' (((a + l.length) % cells.length : Nat) : Int)) true := by
      intro x
      rw [ev_shift]
      simp only [laws_FnRinged.j5, Bool.false_eq_true, if_false]
      exact Ev.now _
    have q := for_at (fun k (_ : Unit) i => laws_FnRinged.l1 k l (cells.length : Int) i c' (((a + l.length) % cells.length : Nat) : Int)) (fun _ s => s) (fun _ _ => True) 1 (min cells.length l.length) true ?_ () trivial
    · rw [q.2, ev_shift]
      simp only [laws_FnRinged.l1]
      by_cases c : (1 : Int) + ((min cells.length l.length : Nat) : Int) ≤ (cells.length : Int)
      · rw [ev_pos c, decide_eq_false (by omega)]
        exact last _
      · rw [ev_neg c]
        exact last _
    · intro j _ hj _
      refine ⟨trivial, ?_⟩
      rw [ev_shift]
      simp only [laws_FnRinged.l1]
      rw [ev_pos (by omega), decide_eq_true (by omega), ev_shift]
      simp only [laws_FnRinged.j5, if_true]
      have ht := implTap_ev c' ((a + l.length) % cells.length) (1 + j) hs' (by omega) (by omega) (by omega) (by omega)
      have e1 : ((1 + j : Nat) : Int) = 1 + (j : Int) := by omega
      rw [e1] at ht
      have e2 : ((a + l.length) % cells.length + c'.length - (1 + j)) % c'.length = (a + (l.length + cells.length - (1 + j))) % cells.length := by
        rw [hlen]
        have : (a + l.length) % cells.length + cells.length - (1 + j) = (a + l.length) % cells.length + (cells.length - (1 + j)) := by omega
        rw [this, Nat.mod_add_mod]
        congr 1
        omega
      rw [e2, hF _ (by omega) (by omega)] at ht
      rw [ev_bind ht]
      simp only [if_true]
      rw [w64 (n := (l.length : Int) - (1 + (j : Int))) (by omega) (by omega), ev_pos (by omega), ev_pos (by omega)]
      have e3 : ringF cells l a (l.length + cells.length - (1 + j)) = rd l ((l.length : Int) - (1 + (j : Int))) := by
        unfold ringF
        rw [if_neg (by omega)]
        congr 1
        omega
      rw [ev_pos e3, w64 (by omega) (by omega)]
  · intro i _ hi _
    refine ⟨trivial, ?_⟩
    have him := Nat.mod_lt (a + i) hn
    rw [ev_shift]
    simp only [laws_FnRinged.l0, tab_length]
    rw [ev_pos (by omega), w64 (n := (i : Int) + 1) (by omega) (by omega), rd_tab' hi]
    by_cases c : (i : Int) < (cells.length : Int)
    · have e1 : (a : Int) + (i : Int) = ((a + i : Nat) : Int) := by omega
      have e2 : ringF cells l a i = rd cells (((a + i) % cells.length : Nat) : Int) := by
        unfold ringF
        rw [if_pos (by omega)]
      rw [ev_pos c, w64 (n := (a : Int) + (i : Int)) (by omega) (by omega), e1, ← Int.ofNat_tmod, ev_neg (by omega), ev_pos (by omega), ev_pos (by omega), ev_pos (by omega), ev_pos e2]
    · have e1 : (i : Int) - (cells.length : Int) = ((i - cells.length : Nat) : Int) := by omega
      have e2 : ringF cells l a i = rd l ((i - cells.length : Nat) : Int) := by
        unfold ringF
        rw [if_neg (by omega)]
      rw [ev_neg c, w64 (n := (i : Int) - (cells.length : Int)) (by omega) (by omega), e1, ev_pos (by omega), ev_pos (by omega), ev_pos (by omega), ev_pos e2]
theorem FnRinged : laws_FnRinged.Pure := by
  intro l0 _ _ _
  refine Ev.rounds (g := fun k => laws_FnRinged.f k l0) ?_
  simp only [laws_FnRinged.f, big_eq, Option.bind_some]
  by_cases hlen : (l0.length : Int) > 1048576
  · rw [ev_pos (by simpa using hlen)]
    exact Ev.now _
  rw [ev_neg (by simpa using hlen)]
  obtain ⟨c, a, l, hd, hc, hl⟩ := DrawPush_ev l0 (by omega)
  rw [ev_bind hd]
  simp only
  have other : Ev (fun k => laws_FnRinged.j0 k l true c a) true := by
    rw [ev_shift]
    simp only [laws_FnRinged.j0, if_true]
    exact ringed_ev [7, 8] [1, 2, 3] 1 (by simp) (by decide) (by simp) (by decide)
  by_cases h1 : (c.length : Int) = 0
  · rw [ev_pos h1]
    exact other
  rw [ev_neg h1, ev_bind (specSig_ev c (by omega))]
  by_cases h2 : sigB c = true
  · rw [ev_pos h2]
    by_cases h3 : a < 0
    · rw [ev_pos h3]
      exact other
    rw [ev_neg h3]
    by_cases h4 : a ≥ (c.length : Int)
    · rw [ev_pos h4]
      exact other
    rw [ev_neg h4, ev_bind (specSig_ev l (by omega))]
    by_cases h5 : sigB l = true
    · rw [h5, ev_shift]
      simp only [laws_FnRinged.j0, Bool.not_true, Bool.false_eq_true, if_false]
      obtain ⟨n, rfl⟩ : ∃ n : Nat, a = (n : Int) := ⟨a.toNat, by omega⟩
      exact ringed_ev c l n (by omega) h2 (by omega) h5
    · simp only [Bool.not_eq_true] at h5
      rw [h5]
      exact other
  · rw [ev_neg h2]
    exact other

end Go.Proofs.Ythmgjfobngmbcaa.Pure
