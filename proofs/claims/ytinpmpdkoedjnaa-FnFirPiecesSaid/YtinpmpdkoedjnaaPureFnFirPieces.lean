/- The pure part of FnFirPieces: taps run over a signal in two pieces tell what they tell in one; and FirTurned the same. No conditions. -/
import Derived.Test.YtinpmpdkoedjnaaQFnFirPiecesx5
import Derived.Test.YtinpmpdkoedjnaaBase
namespace Go.Proofs.Ytinpmpdkoedjnaa.Pure
open Go.RowKit Go.Proofs.Ytinpmpdkoedjnaa.QFnFirPieces Go.Proofs.YtinpmpdkoedjnaaW.PrintWords Go.Proofs.YtinpmpdkoedjnaaW.PrintLast
open Go.Proofs.Ytinpmpdkoedjnaa.Base
set_option linter.unusedVariables false
set_option linter.unusedSimpArgs false
/-! ### the cursor of a draw -/
def CurOk (b : List Int) (i : Int) : Prop := 0 ≤ i ∧ i ≤ (b.length : Int) ∧ b.length ≤ 2000000
theorem l1New_ev (b : List Int) (hb : b.length ≤ 2000000) : ∃ h, Ev (fun k => spec_l1New.f k b) (b, 0, h) := by
  unfold spec_l1New.f
  refine ⟨iter (fun i h => Go.bits .and .i64 (wrap64 ((wrap64 ((wrap64 (h * 131)) + (wrap64 (rd b (i : Int))))) + 7)) 1073741823) (min b.length 4000) (wrap64 (71933 + (b.length : Int))), ?_⟩
  rw [(for_iff (fun k h i => spec_l1New.l0 k b h i) (fun i h => Go.bits .and .i64 (wrap64 ((wrap64 ((wrap64 (h * 131)) + (wrap64 (rd b (i : Int))))) + 7)) 1073741823) (fun _ _ => True) (min b.length 4000) _ ?_ _ trivial).2]
  · rw [ev_shift]
    simp only [spec_l1New.l0]
    by_cases h : ((min b.length 4000 : Nat) : Int) < (b.length : Int)
    · rw [ev_pos h, ev_neg (by omega)]
      exact Ev.now _
    · rw [ev_neg h]
      exact Ev.now _
  · intro i s hi _
    refine ⟨trivial, ?_⟩
    rw [ev_shift]
    simp only [spec_l1New.l0]
    rw [ev_pos (by omega), ev_pos (by omega), ev_pos (by omega), w64 (n := (i : Int) + 1) (by omega) (by omega)]
theorem l1Byte_ok (b : List Int) (i h : Int) (hc : CurOk b i) : ∃ x i' h', spec_l1Byte.f b i h = some (x, i', h') ∧ CurOk b i' ∧ 0 ≤ x ∧ x ≤ 255 := by
  obtain ⟨h0, h1, h2⟩ := hc
  unfold spec_l1Byte.f
  by_cases c : i < (b.length : Int)
  · rw [if_pos c, if_pos h0]
    have := band_range
    refine ⟨_, _, _, rfl, ⟨?_, ?_, h2⟩, (band_range _ 255 (by omega) (by omega)).1, (band_range _ 255 (by omega) (by omega)).2⟩
    · rw [w64 (by omega) (by omega)]; omega
    · rw [w64 (by omega) (by omega)]; omega
  · rw [if_neg c]
    exact ⟨_, _, _, rfl, ⟨h0, h1, h2⟩, (band_range _ 255 (by omega) (by omega)).1, (band_range _ 255 (by omega) (by omega)).2⟩
theorem l1Below_ok (b : List Int) (i h n : Int) (hc : CurOk b i) : ∃ x i' h', spec_l1Below.f b i h n = some (x, i', h') ∧ CurOk b i' ∧ 0 ≤ x ∧ (0 < n → x < n) ∧ (n ≤ 0 → x = 0) := by
  unfold spec_l1Below.f
  by_cases c : n ≤ 0
  · rw [if_pos c]
    exact ⟨_, _, _, rfl, hc, by omega, by omega, fun _ => rfl⟩
  · rw [if_neg c]
    by_cases d : n ≤ 256
    · rw [if_pos d]
      obtain ⟨x, i1, h1, e, hc1, hx0, hx1⟩ := l1Byte_ok b i h hc
      rw [e]
      simp only [Option.bind_some]
      rw [if_neg (by omega)]
      refine ⟨_, _, _, rfl, hc1, ?_, fun _ => ?_, fun h => absurd h c⟩
      · exact Int.tmod_nonneg _ hx0
      · exact Int.tmod_lt_of_pos _ (by omega)
    · rw [if_neg d]
      obtain ⟨x, i1, h1, e, hc1, hx0, hx1⟩ := l1Byte_ok b i h hc
      rw [e]
      simp only [Option.bind_some]
      obtain ⟨y, i2, h2, e, hc2, hy0, hy1⟩ := l1Byte_ok b i1 h1 hc1
      rw [e]
      simp only [Option.bind_some]
      obtain ⟨z, i3, h3, e, hc3, hz0, hz1⟩ := l1Byte_ok b i2 h2 hc2
      rw [e]
      simp only [Option.bind_some]
      obtain ⟨w, i4, h4, e, hc4, hw0, hw1⟩ := l1Byte_ok b i3 h3 hc3
      rw [e]
      simp only [Option.bind_some]
      rw [if_neg (by omega)]
      refine ⟨_, _, _, rfl, hc4, ?_, fun _ => ?_, fun h => absurd h c⟩
      · refine Int.tmod_nonneg _ ?_
        rw [w64 (n := x * 16777216) (by omega) (by omega), w64 (n := y * 65536) (by omega) (by omega), w64 (n := z * 256) (by omega) (by omega), w64 (n := x * 16777216 + y * 65536) (by omega) (by omega), w64 (n := x * 16777216 + y * 65536 + z * 256) (by omega) (by omega), w64 (by omega) (by omega)]
        omega
      · exact Int.tmod_lt_of_pos _ (by omega)
theorem l1Once_ok (b : List Int) (i h n : Int) (hc : CurOk b i) : ∃ t i' h', spec_l1Once.f b i h n = some (t, i', h') ∧ CurOk b i' := by
  unfold spec_l1Once.f
  obtain ⟨x, i1, h1, e, hc1, _⟩ := l1Below_ok b i h n hc
  rw [e]
  exact ⟨_, _, _, rfl, hc1⟩

theorem l1PickInt_ok (b : List Int) (i h : Int) (l : List Int) (hl : 0 < l.length) (hc : CurOk b i) : ∃ x i' h', spec_l1PickInt.f b i h l = some (x, i', h') ∧ CurOk b i' ∧ x ∈ l := by
  unfold spec_l1PickInt.f
  obtain ⟨x, i1, h1, e, hc1, h0, hx, _⟩ := l1Below_ok b i h (l.length : Int) hc
  rw [e]
  simp only [Option.bind_some]
  have := hx (by omega)
  rw [if_pos h0, if_pos this]
  exact ⟨_, _, _, rfl, hc1, rd_mem h0 this⟩

theorem l1Size_eq (l : List Int) (m : Int) (hl : l.length ≤ 2000000) (hm : 2 ≤ m) : ∃ s, spec_l1Size.f l m = some s ∧ 2 ≤ s ∧ s ≤ m := by
  unfold spec_l1Size.f
  rw [w64 (n := (l.length : Int) / 20) (by omega) (by omega), w64 (by omega) (by omega)]
  by_cases h : 2 + (l.length : Int) / 20 > m
  · rw [if_pos h]
    exact ⟨m, rfl, hm, by omega⟩
  · rw [if_neg h]
    exact ⟨_, rfl, by omega, by omega⟩

theorem l5DrawSample_ok (b : List Int) (i h : Int) (hc : CurOk b i) : ∃ x i' h', spec_l5DrawSample.f b i h = some (x, i', h') ∧ CurOk b i' ∧ -1000000000 ≤ x ∧ x ≤ 1000000000 := by
  unfold spec_l5DrawSample.f
  obtain ⟨x, i1, h1, e, hc1, h0, hx, _⟩ := l1Below_ok b i h 5 hc
  rw [e]
  simp only [Option.bind_some]
  by_cases c0 : x = 0
  · rw [if_pos c0]
    obtain ⟨y, i2, h2, e, hc2, hy0, hy, _⟩ := l1Below_ok b i1 h1 21 hc1
    rw [e]
    simp only [Option.bind_some]
    have := hy (by omega)
    exact ⟨_, _, _, rfl, hc2, by rw [w64 (by omega) (by omega)]; omega, by rw [w64 (by omega) (by omega)]; omega⟩
  · rw [if_neg c0]
    have last : ∀ i1 h1, CurOk b i1 → ∃ x i' h', ((spec_l1Below.f b i1 h1 2001).bind fun t => (some (wrap64 (t.1 - 1000), t.2.1, t.2.2))) = some (x, i', h') ∧ CurOk b i' ∧ -1000000000 ≤ x ∧ x ≤ 1000000000 := by
      intro i1 h1 hc1
      obtain ⟨y, i2, h2, e, hc2, hy0, hy, _⟩ := l1Below_ok b i1 h1 2001 hc1
      rw [e]
      simp only [Option.bind_some]
      have := hy (by omega)
      exact ⟨_, _, _, rfl, hc2, by rw [w64 (by omega) (by omega)]; omega, by rw [w64 (by omega) (by omega)]; omega⟩
    by_cases c1 : x = 1
    · rw [if_pos c1]
      obtain ⟨y, i2, h2, e, hc2, hy0, hy, _⟩ := l1Below_ok b i1 h1 65536 hc1
      rw [e]
      simp only [Option.bind_some]
      have := hy (by omega)
      exact ⟨_, _, _, rfl, hc2, by rw [w64 (by omega) (by omega)]; omega, by rw [w64 (by omega) (by omega)]; omega⟩
    · rw [if_neg c1]
      by_cases c2 : x = 2
      · rw [if_pos c2]
        obtain ⟨t, i2, h2, e, hc2⟩ := l1Once_ok b i1 h1 12 hc1
        rw [e]
        simp only [Option.bind_some]
        by_cases c3 : t = true
        · rw [if_pos c3]
          obtain ⟨y, i3, h3, e, hc3, hy⟩ := l1PickInt_ok b i2 h2 [1000000000, (-1000000000), 0] (by simp) hc2
          rw [e]
          simp only [Option.bind_some]
          refine ⟨_, _, _, rfl, hc3, ?_⟩
          simp only [List.mem_cons, List.not_mem_nil, or_false] at hy
          omega
        · rw [if_neg c3]
          exact last _ _ hc2
      · rw [if_neg c2]
        exact last _ _ hc1
/-- A loop that counts down and appends what it draws. -/
theorem l5DrawLoop (b : List Int) : ∀ (n : Nat) (s : List Int) (i h : Int), CurOk b i → s.length + n ≤ 1000000 → (∀ x ∈ s, -1000000000 ≤ x ∧ x ≤ 1000000000) →
    ∃ r i' h', Ev (fun k => spec_l5Draw.l0 k s (n : Int) b i h) (r, i', h') ∧ CurOk b i' ∧ r.length ≤ s.length + n ∧ (∀ x ∈ r, -1000000000 ≤ x ∧ x ≤ 1000000000) := by
  intro n
  induction n with
  | zero =>
    intro s i h hc _ hs
    refine ⟨s, i, h, ?_, hc, by omega, hs⟩
    rw [ev_shift]
    simp only [spec_l5Draw.l0]
    rw [ev_neg (by omega)]
    exact Ev.now _
  | succ n ih =>
    intro s i h hc hn hs
    obtain ⟨x, i1, h1, e, hc1, hx⟩ := l5DrawSample_ok b i h hc
    · obtain ⟨r, i2, h2, e2, hc2, hr, hr2⟩ := ih (s ++ [x]) i1 h1 hc1 (by simp; omega) (by
        intro y hy
        rw [List.mem_append, List.mem_singleton] at hy
        rcases hy with hy | hy
        · exact hs y hy
        · subst hy
          exact hx)
      refine ⟨r, i2, h2, ?_, hc2, by simp at hr; omega, hr2⟩
      rw [ev_shift]
      simp only [spec_l5Draw.l0, e, Option.bind_some]
      rw [ev_pos (by omega), ev_pos (by omega), w64 (by omega) (by omega)]
      have e3 : ((n + 1 : Nat) : Int) - 1 = (n : Int) := by omega
      rw [e3]
      exact e2
theorem l5Draw_ev (b : List Int) (i h m : Int) (hc : CurOk b i) (h0 : 0 ≤ m) (h1 : m ≤ 1000) :
    ∃ r i' h', Ev (fun k => spec_l5Draw.f k b i h m) (r, i', h') ∧ CurOk b i' ∧ (r.length : Int) ≤ m ∧ (∀ x ∈ r, -1000000000 ≤ x ∧ x ≤ 1000000000) := by
  unfold spec_l5Draw.f
  rw [w64 (by omega) (by omega)]
  obtain ⟨x, i1, h1', e, hc1, hx0, hx, _⟩ := l1Below_ok b i h (m + 1) hc
  rw [e]
  simp only [Option.bind_some]
  have := hx (by omega)
  obtain ⟨r, i2, h2, e2, hc2, hr, hr2⟩ := l5DrawLoop b x.toNat [] i1 h1' hc1 (by simp; omega) (by simp)
  rw [Int.toNat_of_nonneg hx0] at e2
  exact ⟨r, i2, h2, e2, hc2, by simp at hr; omega, hr2⟩
theorem l5DrawAny_ev (b : List Int) (i h m : Int) (hc : CurOk b i) (h0 : 0 ≤ m) (h1 : m ≤ 1000) :
    ∃ r i' h', Ev (fun k => spec_l5DrawAny.f k b i h m) (r, i', h') ∧ CurOk b i' ∧ r.length ≤ 2000 ∧ (∀ x ∈ r, -1000000001 ≤ x ∧ x ≤ 1000000001) := by
  unfold spec_l5DrawAny.f
  obtain ⟨r, i1, h1', e, hc1, hr, hr2⟩ := l5Draw_ev b i h m hc h0 h1
  have tail : ∀ (s : List Int) (i h : Int), CurOk b i → s.length ≤ 2000 → (∀ x ∈ s, -1000000001 ≤ x ∧ x ≤ 1000000001) →
      ∃ r i' h', Ev (fun k => spec_l5DrawAny.j0 k s b i h) (r, i', h') ∧ CurOk b i' ∧ r.length ≤ 2000 ∧ (∀ x ∈ r, -1000000001 ≤ x ∧ x ≤ 1000000001) := by
    intro s i h hc hs hs2
    obtain ⟨t, i2, h2, e, hc2⟩ := l1Once_ok b i h 80 hc
    by_cases ht : t = true
    · obtain ⟨x, i3, h3, e3, hc3, hx0, hx, _⟩ := l1Below_ok b i2 h2 2 hc2
      have := hx (by omega)
      refine ⟨List.replicate (512 + x).toNat 0, i3, h3, ?_, hc3, by simp; omega, ?_⟩
      · rw [ev_shift]
        simp only [spec_l5DrawAny.j0, e, Option.bind_some]
        rw [ev_pos ht]
        simp only [e3, Option.bind_some]
        rw [w64 (by omega) (by omega), ev_pos (by omega), ev_pos (by omega)]
        exact Ev.now _
      · intro y hy
        rw [List.mem_replicate] at hy
        omega
    · refine ⟨s, i2, h2, ?_, hc2, hs, hs2⟩
      rw [ev_shift]
      simp only [spec_l5DrawAny.j0, e, Option.bind_some]
      rw [ev_neg ht]
      exact Ev.now _
  obtain ⟨t, i2, h2, e2, hc2⟩ := l1Once_ok b i1 h1' 25 hc1
  have hr3 : ∀ x ∈ r, -1000000001 ≤ x ∧ x ≤ 1000000001 := fun x hx => by have := hr2 x hx; omega
  by_cases ht : t = true
  · obtain ⟨x, i3, h3, e3, hc3, hx⟩ := l1PickInt_ok b i2 h2 [1000000001, (-1000000001)] (by simp) hc2
    simp only [List.mem_cons, List.not_mem_nil, or_false] at hx
    obtain ⟨q, i4, h4, e4, hc4, hq⟩ := tail (r ++ [x]) i3 h3 hc3 (by simp; omega) (by
      intro y hy
      rw [List.mem_append, List.mem_singleton] at hy
      rcases hy with hy | hy
      · exact hr3 y hy
      · omega)
    refine ⟨q, i4, h4, ?_, hc4, hq⟩
    rw [ev_bind e]
    simp only [e2, Option.bind_some]
    rw [ev_pos ht]
    simp only [e3, Option.bind_some]
    rw [ev_pos (by omega)]
    exact e4
  · obtain ⟨q, i4, h4, e4, hc4, hq⟩ := tail r i2 h2 hc2 (by omega) hr3
    refine ⟨q, i4, h4, ?_, hc4, hq⟩
    rw [ev_bind e]
    simp only [e2, Option.bind_some]
    rw [ev_neg ht]
    exact e4


theorem l10DrawTapsLoop (b : List Int) : ∀ (n : Nat) (s : List Int) (i h : Int), CurOk b i → 0 < s.length + n → s.length + n ≤ 1000000 →
    ∃ r i' h', Ev (fun k => spec_l10DrawTaps.l0 k s (n : Int) b i h) (r, i', h') ∧ CurOk b i' ∧ r.length ≤ s.length + n + 100 := by
  intro n
  induction n with
  | zero =>
    intro s i h hc hn0 hn
    have tail : ∀ (s : List Int) (i h : Int), CurOk b i → ∃ r i' h', Ev (fun k => spec_l10DrawTaps.j1 k s b i h) (r, i', h') ∧ CurOk b i' ∧ r.length ≤ s.length + 100 := by
      intro s i h hc
      obtain ⟨t, i1, h1, e, hc1⟩ := l1Once_ok b i h 60 hc
      by_cases ht : t = true
      · obtain ⟨x, i2, h2, e2, hc2, hx0, hx, _⟩ := l1Below_ok b i1 h1 2 hc1
        have := hx (by omega)
        refine ⟨List.replicate (64 + x).toNat 0, i2, h2, ?_, hc2, by rw [List.length_replicate]; omega⟩
        rw [ev_shift]
        simp only [spec_l10DrawTaps.j1, e, Option.bind_some]
        rw [ev_pos ht]
        simp only [e2, Option.bind_some]
        rw [w64 (by omega) (by omega), ev_pos (by omega), ev_pos (by omega)]
        exact Ev.now _
      · refine ⟨s, i1, h1, ?_, hc1, by omega⟩
        rw [ev_shift]
        simp only [spec_l10DrawTaps.j1, e, Option.bind_some]
        rw [ev_neg ht]
        exact Ev.now _
    obtain ⟨t, i1, h1, e, hc1⟩ := l1Once_ok b i h 20 hc
    by_cases ht : t = true
    · obtain ⟨x, i2, h2, e2, hc2, _⟩ := l1PickInt_ok b i1 h1 [1000000, (-1000000), 1000001] (by simp) hc1
      obtain ⟨r, i3, h3, e3, hc3, hr⟩ := tail (s.set (0 : Int).toNat x) i2 h2 hc2
      refine ⟨r, i3, h3, ?_, hc3, by rw [List.length_set] at hr; omega⟩
      rw [ev_shift]
      simp only [spec_l10DrawTaps.l0, e, Option.bind_some]
      rw [ev_neg (by omega), ev_pos ht]
      simp only [e2, Option.bind_some]
      rw [ev_pos (by omega)]
      exact e3
    · obtain ⟨r, i3, h3, e3, hc3, hr⟩ := tail s i1 h1 hc1
      refine ⟨r, i3, h3, ?_, hc3, by omega⟩
      rw [ev_shift]
      simp only [spec_l10DrawTaps.l0, e, Option.bind_some]
      rw [ev_neg (by omega), ev_neg ht]
      exact e3
  | succ n ih =>
    intro s i h hc hn0 hn
    obtain ⟨x, i1, h1, e, hc1, _⟩ := l1Below_ok b i h 41 hc
    have el : (s ++ [wrap64 (x - 20)]).length = s.length + 1 := by simp
    obtain ⟨r, i4, h4, e4, hc4, hr⟩ := ih (s ++ [wrap64 (x - 20)]) i1 h1 hc1 (by omega) (by omega)
    have e9 : ((n + 1 : Nat) : Int) - 1 = (n : Int) := by omega
    refine ⟨r, i4, h4, ?_, hc4, by omega⟩
    rw [ev_shift]
    simp only [spec_l10DrawTaps.l0, e, Option.bind_some]
    rw [ev_pos (by omega), ev_pos (by omega), w64 (n := ((n + 1 : Nat) : Int) - 1) (by omega) (by omega), e9]
    exact e4
theorem l10DrawTaps_ev (b : List Int) (i h : Int) (hc : CurOk b i) : ∃ r i' h', Ev (fun k => spec_l10DrawTaps.f k b i h) (r, i', h') ∧ CurOk b i' ∧ r.length ≤ 200 := by
  unfold spec_l10DrawTaps.f
  obtain ⟨x, i1, h1', e, hc1, hx0, hx, _⟩ := l1Below_ok b i h 7 hc
  rw [e]
  simp only [Option.bind_some]
  have := hx (by omega)
  rw [w64 (by omega) (by omega)]
  obtain ⟨r, i2, h2, e2, hc2, hr⟩ := l10DrawTapsLoop b (1 + x).toNat [] i1 h1' hc1 (by omega) (by simp; omega)
  rw [Int.toNat_of_nonneg (by omega)] at e2
  exact ⟨r, i2, h2, e2, hc2, by simp only [List.length_nil] at hr; omega⟩

theorem sameInts_ev (a b : List Int) (h : a.length ≤ 2000000) : Ev (fun k => laws_sameInts.f k a b) (decide (a = b)) := by
  unfold laws_sameInts.f
  by_cases e : a.length = b.length
  · rw [ev_pos (by omega)]
    rw [all_iff (fun k i => laws_sameInts.l0 k a b i) (fun i => decide (rd a (i : Int) = rd b (i : Int))) a.length _ false]
    · split
      · rename_i hp
        have : a = b := list_ext_rd e fun i hi => by simpa using range_all.1 hp i hi
        rw [decide_eq_true this]
        exact Ev.step (fun k => by simp only [laws_sameInts.l0]; rw [if_neg (by omega)]) (Ev.now _)
      · rename_i hp
        have : ¬ a = b := fun h => hp (by subst h; rw [range_all]; simp)
        simp [this]
    · intro i hi
      by_cases p : rd a (i : Int) = rd b (i : Int)
      · rw [if_pos (by simpa using p)]
        rw [ev_shift]
        simp only [laws_sameInts.l0]
        rw [ev_pos (by omega), ev_pos (by omega), ev_pos (by omega), ev_pos p, w64 (by omega) (by omega)]
      · rw [if_neg (by simpa using p)]
        rw [ev_shift]
        simp only [laws_sameInts.l0]
        rw [ev_pos (by omega), ev_pos (by omega), ev_pos (by omega), ev_neg p, ev_some_iff]
  · rw [ev_neg (by omega)]
    have : ¬ a = b := fun h => e (by rw [h])
    simp only [this, decide_false]
    exact Ev.now _
theorem big_eq (l : List Int) : laws_big.f l = some (decide ((l.length : Int) > 1048576)) := rfl

theorem byte_of {x : Int} (h : (Lit.int .u8 x).wf = true) : 0 ≤ x ∧ x ≤ 255 := by
  have h1 : IntKind.u8.min ≤ x ∧ x ≤ IntKind.u8.max := by simpa [Lit.wf] using h
  have e1 : IntKind.u8.min = 0 := by decide
  have e2 : IntKind.u8.max = 255 := by decide
  omega
theorem at_ok (b : List Int) (i : Int) (hb : b.length ≤ 2000000) (hw : ∀ x ∈ b, (Lit.int .u8 x).wf = true) (h0 : 0 ≤ i) (h1 : i ≤ 1000000) : ∃ v, laws_at.f b i = some v ∧ 0 ≤ v ∧ v ≤ 255 := by
  unfold laws_at.f
  by_cases h : i < (b.length : Int)
  · have := byte_of (hw _ (rd_mem h0 h))
    rw [if_pos h, if_pos h0, w64 (by omega) (by omega)]
    exact ⟨_, rfl, this.1, this.2⟩
  · rw [if_neg h, w64 (n := i * 7) (by omega) (by omega), w64 (by omega) (by omega)]
    exact ⟨_, rfl, Int.tmod_nonneg _ (by omega), by have := Int.tmod_lt_of_pos (i * 7 + (b.length : Int)) (by omega : (0 : Int) < 256); omega⟩

theorem clone_eq (l : List Int) (h : l.length ≤ 2000000) : slices_Clone_int_int.f l = some l := by
  unfold slices_Clone_int_int.f
  simp only [Option.bind_some, List.nil_append, List.length_nil]
  rw [if_pos (by omega)]

/-! ### Fir -/
def firStep (t l : List Int) (i : Nat) (s : List Int × List Int) : List Int × List Int :=
  (s.1 ++ [wrap64 (dotS t (rd l (i : Int) :: s.2) t.length)], (rd l (i : Int) :: s.2).take s.2.length)
def firV (t st l : List Int) : List Int × List Int := iter (firStep t l) l.length ([], st)
theorem firV_length (t st l : List Int) : (firV t st l).1.length = l.length ∧ (firV t st l).2.length = st.length := by
  unfold firV
  refine iter_inv (fun i (s : List Int × List Int) => s.1.length = i ∧ s.2.length = st.length) l.length _ ⟨rfl, rfl⟩ fun i s _ hs => ?_
  simp only [firStep, List.length_append, List.length_cons, List.length_nil, List.length_take]
  omega
theorem rd_cons_succ (x : Int) (l : List Int) (k : Nat) : rd (x :: l) ((k : Int) + 1) = rd l (k : Int) := by
  have : ((k : Int) + 1).toNat = k + 1 := by omega
  unfold rd
  rw [this, Int.toNat_natCast]
  rfl
theorem rd_cons_zero (x : Int) (l : List Int) : rd (x :: l) 0 = x := rfl
theorem wrap_fold (a b c : Int) (h : a = wrap64 b) : wrap64 (a + wrap64 c) = wrap64 (b + c) := by rw [h, wrap_add_l, wrap_add_r]
theorem implFirV_ev (t st l : List Int) (hl : l.length ≤ 2000000) (ht : t.length = st.length + 1) (hst : st.length ≤ 2000000) : Ev (fun k => impl_fir.f k t st l) (firV t st l) := by
  unfold impl_fir.f
  rw [clone_eq st hst]
  simp only [Option.bind_some]
  have h := for_iff (fun k (s : List Int × List Int) i => impl_fir.l0 k t s.2 s.1 l (l.length : Int) i) (firStep t l) (fun i s => s.1.length = i ∧ s.2.length = st.length) l.length (firV t st l) ?_ ([], st) ⟨rfl, rfl⟩
  · rw [h.2, ev_shift]
    simp only [impl_fir.l0]
    rw [ev_neg (by omega)]
    exact Ev.now _
  · rintro i ⟨out, past⟩ hi ⟨h1, h2⟩
    simp only at h1 h2
    refine ⟨by simp only [firStep, List.length_append, List.length_cons, List.length_nil, List.length_take]; omega, ?_⟩
    rw [ev_shift]
    simp only [impl_fir.l0]
    rw [ev_pos (by omega), ev_pos (by omega), ev_pos (by omega), ev_pos (by omega)]
    have g := for_iff (fun k c j => impl_fir.l1 k t past out (rd l (i : Int)) c l (l.length : Int) (i : Int) past (past.length : Int) j) (fun j _ => wrap64 (dotS t (rd l (i : Int) :: past) (j + 1 + 1))) (fun j c => c = wrap64 (dotS t (rd l (i : Int) :: past) (j + 1))) past.length (firV t st l) ?_ (wrap64 (rd t 0 * rd l (i : Int))) ?_
    · rw [g.2, g.1, ev_shift]
      simp only [impl_fir.l1, Option.bind_some]
      rw [ev_neg (by omega), ev_pos (by omega), ev_pos (by simp; omega), ev_pos (by omega), ev_pos (by simp; omega), w64 (n := (i : Int) + 1) (by omega) (by omega)]
      simp only [firStep, Int.toNat_natCast, List.singleton_append]
      have e : past.length + 1 = t.length := by omega
      rw [e]
    · intro j c hj hc
      refine ⟨rfl, ?_⟩
      rw [ev_shift]
      simp only [impl_fir.l1]
      rw [w64 (n := 1 + (j : Int)) (by omega) (by omega), ev_pos (by omega), ev_pos (by omega), ev_pos (by omega), ev_pos (by omega), ev_pos (by omega), w64 (n := (j : Int) + 1) (by omega) (by omega)]
      rw [wrap_fold _ _ _ hc]
      have e : dotS t (rd l (i : Int) :: past) (j + 1 + 1) = dotS t (rd l (i : Int) :: past) (j + 1) + rd t (1 + (j : Int)) * rd past (j : Int) := by
        rw [dotS]
        have e1 : ((j + 1 : Nat) : Int) = (j : Int) + 1 := by omega
        rw [e1, rd_cons_succ, Int.add_comm (j : Int) 1]
      rw [e]
    · have e : dotS t (rd l (i : Int) :: past) (0 + 1) = rd t 0 * rd l (i : Int) := by
        show 0 + rd t ((0 : Nat) : Int) * rd (rd l (i : Int) :: past) ((0 : Nat) : Int) = _
        rw [Int.zero_add]
        rfl
      rw [e]

theorem within_ev (l : List Int) (m : Int) (hl : l.length ≤ 2000000) (h0 : 0 ≤ m) (h1 : m ≤ 1000000000000) : Ev (fun k => impl_within.f k l m) (inB m l) := by
  unfold impl_within.f
  rw [inB_range]
  rw [all_iff (fun k i => impl_within.l0 k m l (l.length : Int) i) (fun i => decide (-m ≤ rd l (i : Int)) && decide (rd l (i : Int) ≤ m)) l.length _ false]
  · split
    · rename_i hp
      rw [hp]
      exact Ev.step (fun k => by simp only [impl_within.l0]; rw [if_neg (by omega)]) (Ev.now _)
    · rename_i hp
      simpa using hp
  · intro i hi
    by_cases p : -m ≤ rd l (i : Int) ∧ rd l (i : Int) ≤ m
    · rw [if_pos (by simpa using p)]
      rw [ev_shift]
      simp only [impl_within.l0]
      rw [ev_pos (by omega), ev_pos (by omega), ev_pos (by omega), w64 (n := -m) (by omega) (by omega), ev_neg (by omega), ev_neg (by omega), w64 (by omega) (by omega)]
    · rw [if_neg (by simpa using p)]
      rw [ev_shift]
      simp only [impl_within.l0]
      rw [ev_pos (by omega), ev_pos (by omega), ev_pos (by omega), w64 (n := -m) (by omega) (by omega)]
      by_cases q : rd l (i : Int) < -m
      · rw [ev_pos q, ev_some_iff]
      · rw [ev_neg q, ev_pos (by omega), ev_some_iff]

theorem implSig_ev (l : List Int) (hl : l.length ≤ 2000000) : Ev (fun k => impl_SignalOk.f k l) (sigB l) := by
  unfold impl_SignalOk.f
  by_cases h : (l.length : Int) ≤ 512
  · rw [ev_pos h]
    rw [ev_bind (within_ev l 1000000000 hl (by omega) (by omega)), ev_some_iff, sigB, decide_eq_true (by omega : l.length ≤ 512), Bool.true_and]
  · rw [ev_neg h]
    rw [ev_some_iff, sigB, decide_eq_false (by omega : ¬ l.length ≤ 512), Bool.false_and]


def tokB (l : List Int) : Bool := decide (1 ≤ l.length ∧ l.length ≤ 64) && inB 1000000 l
theorem tokB_iff {l : List Int} : tokB l = true ↔ 1 ≤ l.length ∧ l.length ≤ 64 ∧ inB 1000000 l = true := by simp [tokB, and_assoc]
theorem tapsOk_ev (l : List Int) (hl : l.length ≤ 2000000) : Ev (fun k => impl_tapsOk.f k l) (tokB l) := by
  unfold impl_tapsOk.f tokB
  by_cases h1 : (l.length : Int) ≥ 1
  · rw [ev_pos h1]
    by_cases h2 : (l.length : Int) ≤ 64
    · rw [ev_pos h2, ev_bind (within_ev l 1000000 hl (by omega) (by omega)), ev_some_iff, decide_eq_true (by omega), Bool.true_and]
    · rw [ev_neg h2, ev_some_iff, decide_eq_false (by omega), Bool.false_and]
  · rw [ev_neg h1, ev_some_iff, decide_eq_false (by omega), Bool.false_and]

open Classical in
noncomputable def firR (t st l : List Int) : List Int × List Int × Bool :=
  if tokB t = true ∧ sigB l = true ∧ sigB st = true ∧ st.length + 1 = t.length then ((firV t st l).1, (firV t st l).2, true) else ([], [], false)
theorem firR_length (t st l : List Int) : (firR t st l).1.length ≤ 2000000 ∧ (firR t st l).2.1.length ≤ 2000000 := by
  unfold firR
  split
  · rename_i h
    have h1 := firV_length t st l
    have h2 := (sigB_iff.1 h.2.1).1
    have h3 := (sigB_iff.1 h.2.2.1).1
    exact ⟨by show (firV t st l).1.length ≤ _; omega, by show (firV t st l).2.length ≤ _; omega⟩
  · exact ⟨by simp, by simp⟩
theorem implFir_ev (t st l : List Int) (ht : t.length ≤ 2000000) (hst : st.length ≤ 2000000) (hl : l.length ≤ 2000000) : Ev (fun k => impl_Fir.f k t st l) (firR t st l) := by
  unfold impl_Fir.f
  rw [ev_bind (tapsOk_ev t ht)]
  by_cases h1 : tokB t = true
  · rw [ev_pos h1, ev_bind (implSig_ev l hl)]
    by_cases h2 : sigB l = true
    · rw [ev_pos h2, ev_bind (implSig_ev st hst)]
      by_cases h3 : sigB st = true
      · rw [ev_pos h3, w64 (n := (t.length : Int) - 1) (by omega) (by omega)]
        have h1' := tokB_iff.1 h1
        by_cases h4 : (st.length : Int) = (t.length : Int) - 1
        · rw [ev_pos h4, firR, if_pos ⟨h1, h2, h3, by omega⟩, ev_bind (implFirV_ev t st l hl (by omega) hst)]
          exact Ev.now _
        · rw [ev_neg h4, firR, if_neg (by omega)]
          exact Ev.now _
      · rw [ev_neg h3, firR, if_neg (fun h => h3 h.2.2.1)]
        exact Ev.now _
    · rw [ev_neg h2, firR, if_neg (fun h => h2 h.2.1)]
      exact Ev.now _
  · rw [ev_neg h1, firR, if_neg (fun h => h1 h.1)]
    exact Ev.now _

theorem l1In_eq (a b c : Int) : spec_l1In.f a b c = some (decide (b ≤ a ∧ a ≤ c)) := by
  unfold spec_l1In.f
  by_cases h : a ≥ b
  · rw [if_pos h]
    congr 1
    rw [decide_eq_decide]
    omega
  · rw [if_neg h]
    congr 1
    symm
    rw [decide_eq_false_iff_not]
    omega

theorem l9Wide_ev (l : List Int) (m : Int) (hl : l.length ≤ 2000000) (h0 : 0 ≤ m) (h1 : m ≤ 1000000000000) : Ev (fun k => spec_l9Wide.f k l m) (inB m l) := by
  unfold spec_l9Wide.f
  rw [inB_range]
  rw [all_iff (fun k i => spec_l9Wide.l0 k l m i) (fun i => decide (-m ≤ rd l (i : Int)) && decide (rd l (i : Int) ≤ m)) l.length _ false]
  · split
    · rename_i hp
      rw [hp]
      exact Ev.step (fun k => by simp only [spec_l9Wide.l0]; rw [if_neg (by omega)]) (Ev.now _)
    · rename_i hp
      simpa using hp
  · intro i hi
    by_cases p : -m ≤ rd l (i : Int) ∧ rd l (i : Int) ≤ m
    · rw [if_pos (by simpa using p)]
      rw [ev_shift]
      simp only [spec_l9Wide.l0]
      rw [ev_pos (by omega), ev_pos (by omega), w64 (n := -m) (by omega) (by omega), l1In_eq]
      simp only [Option.bind_some]
      rw [ev_pos (by simpa using p), w64 (by omega) (by omega)]
    · rw [if_neg (by simpa using p)]
      rw [ev_shift]
      simp only [spec_l9Wide.l0]
      rw [ev_pos (by omega), ev_pos (by omega), w64 (n := -m) (by omega) (by omega), l1In_eq]
      simp only [Option.bind_some]
      rw [ev_neg (by simpa using p), ev_some_iff]

theorem l10Taps_ev (l : List Int) (hl : l.length ≤ 2000000) : Ev (fun k => spec_l10Taps.f k l) (decide (1 ≤ l.length ∧ l.length ≤ 64) && inB 1000000 l) := by
  unfold spec_l10Taps.f
  simp only [l1In_eq, Option.bind_some]
  by_cases h1 : 1 ≤ (l.length : Int) ∧ (l.length : Int) ≤ 64
  · rw [ev_pos (by simpa using h1), ev_bind (l9Wide_ev l 1000000 hl (by omega) (by omega)), ev_some_iff, decide_eq_true (by omega), Bool.true_and]
  · rw [ev_neg (by simpa using h1), ev_some_iff, decide_eq_false (by omega), Bool.false_and]


theorem l5Sample_eq (a : Int) : spec_l5Sample.f a = some (decide (-1000000000 ≤ a ∧ a ≤ 1000000000)) := by
  unfold spec_l5Sample.f
  rw [l1In_eq]
  rfl
theorem specSig_ev (l : List Int) (hl : l.length ≤ 2000000) : Ev (fun k => spec_SignalOk.f k l) (sigB l) := by
  unfold spec_SignalOk.f
  rw [sigB, inB_range]
  rw [all_iff (fun k i => spec_SignalOk.l0 k l i) (fun i => decide (-1000000000 ≤ rd l (i : Int)) && decide (rd l (i : Int) ≤ 1000000000)) l.length _ false]
  · split
    · rename_i hp
      rw [hp, Bool.and_true]
      exact Ev.step (f := fun _ => some (decide (l.length ≤ 512))) (fun k => by simp only [spec_SignalOk.l0]; rw [if_neg (by omega)]; congr 1; rw [decide_eq_decide]; omega) (Ev.now _)
    · rename_i hp
      simp only [Bool.not_eq_true] at hp
      rw [hp, Bool.and_false]
  · intro i hi
    by_cases p : -1000000000 ≤ rd l (i : Int) ∧ rd l (i : Int) ≤ 1000000000
    · rw [if_pos (by simpa using p)]
      rw [ev_shift]
      simp only [spec_SignalOk.l0]
      rw [ev_pos (by omega), ev_pos (by omega), l5Sample_eq]
      simp only [Option.bind_some]
      rw [ev_pos (by simpa using p), w64 (by omega) (by omega)]
    · rw [if_neg (by simpa using p)]
      rw [ev_shift]
      simp only [spec_SignalOk.l0]
      rw [ev_pos (by omega), ev_pos (by omega), l5Sample_eq]
      simp only [Option.bind_some]
      rw [ev_neg (by simpa using p), ev_some_iff]

theorem specFirV_ev (t st l : List Int) (hl : l.length ≤ 2000000) (ht : t.length = st.length + 1) (hst : st.length ≤ 2000000) : Ev (fun k => spec_Fir.l0 k t l st [] 0) ((firV t st l).1, (firV t st l).2, true) := by
  have h := for_iff (fun k (s : List Int × List Int) i => spec_Fir.l0 k t l s.2 s.1 i) (firStep t l) (fun i s => s.1.length = i ∧ s.2.length = st.length) l.length ((firV t st l).1, (firV t st l).2, true) ?_ ([], st) ⟨rfl, rfl⟩
  · have hl2 := firV_length t st l
    rw [h.2, ev_shift]
    simp only [spec_Fir.l0, Option.bind_some, List.nil_append, List.length_nil]
    have e : iter (firStep t l) l.length ([], st) = firV t st l := rfl
    rw [e, ev_neg (by omega), ev_pos (by omega)]
    exact Ev.now _
  · rintro i ⟨out, past⟩ hi ⟨h1, h2⟩
    simp only at h1 h2
    refine ⟨by simp only [firStep, List.length_append, List.length_cons, List.length_nil, List.length_take]; omega, ?_⟩
    rw [ev_shift]
    simp only [spec_Fir.l0, Option.bind_some]
    rw [ev_pos (by omega), ev_pos (by omega), ev_pos (by simp; omega)]
    have g := for_iff (fun k c j => spec_Fir.l1 k t l out (i : Int) ([rd l (i : Int)] ++ past) c j) (fun j _ => wrap64 (dotS t (rd l (i : Int) :: past) (j + 1))) (fun j c => c = wrap64 (dotS t (rd l (i : Int) :: past) j)) t.length ((firV t st l).1, (firV t st l).2, true) ?_ 0 (by simp [dotS, wrap_zero])
    · rw [g.2, g.1, ev_shift]
      simp only [spec_Fir.l1]
      rw [ev_neg (by omega), ev_pos (by omega), w64 (n := (t.length : Int) - 1) (by omega) (by omega), ev_pos (by omega), ev_pos (by simp; omega), w64 (n := (i : Int) + 1) (by omega) (by omega)]
      simp only [firStep, List.singleton_append]
      have e : ((t.length : Int) - 1).toNat = past.length := by omega
      rw [e]
    · intro j c hj hc
      refine ⟨rfl, ?_⟩
      rw [ev_shift]
      simp only [spec_Fir.l1, List.singleton_append, List.length_cons]
      rw [ev_pos (by omega), ev_pos (by omega), ev_pos (by omega), w64 (n := (j : Int) + 1) (by omega) (by omega)]
      rw [wrap_fold _ _ _ hc, dotS]
theorem specFir_ev (t st l : List Int) (ht : t.length ≤ 2000000) (hst : st.length ≤ 2000000) (hl : l.length ≤ 2000000) : Ev (fun k => spec_Fir.f k t st l) (firR t st l) := by
  unfold spec_Fir.f
  have no : ¬ (tokB t = true ∧ sigB l = true ∧ sigB st = true ∧ st.length + 1 = t.length) → Ev (fun k => spec_Fir.j0 k t st l true) (firR t st l) := by
    intro h
    rw [ev_shift, firR, if_neg h]
    simp only [spec_Fir.j0, if_true]
    exact Ev.now _
  rw [ev_bind (l10Taps_ev t ht)]
  by_cases h1 : tokB t = true
  · rw [ev_pos (by exact h1), ev_bind (specSig_ev l hl)]
    by_cases h2 : sigB l = true
    · rw [ev_pos h2, ev_bind (specSig_ev st hst)]
      by_cases h3 : sigB st = true
      · rw [ev_pos h3, w64 (n := (t.length : Int) - 1) (by omega) (by omega)]
        have h1' := tokB_iff.1 h1
        by_cases h4 : (st.length : Int) = (t.length : Int) - 1
        · have e : ((st.length : Int) != (t.length : Int) - 1) = false := by simpa using h4
          rw [e, firR, if_pos ⟨h1, h2, h3, by omega⟩, ev_shift]
          simp only [spec_Fir.j0, Bool.false_eq_true, if_false, Option.bind_some, List.nil_append, List.length_nil]
          rw [ev_pos (by omega)]
          exact specFirV_ev t st l hl (by omega) hst
        · have e : ((st.length : Int) != (t.length : Int) - 1) = true := by simpa using h4
          rw [e]
          exact no (by omega)
      · rw [ev_neg h3]
        exact no (fun h => h3 h.2.2.1)
    · rw [ev_neg h2]
      exact no (fun h => h2 h.2.1)
  · rw [ev_neg (by exact h1)]
    exact no (fun h => h1 h.1)

theorem implFirTurned_ev (t st l : List Int) (ht : t.length ≤ 2000000) (hst : st.length ≤ 2000000) (hl : l.length ≤ 2000000) : Ev (fun k => impl_FirTurned.f k t st l) (firR t st l) := by
  unfold impl_FirTurned.f
  rw [ev_bind (implFir_ev t st l ht hst hl)]
  exact Ev.now _

theorem DrawFirLoop (b code t : List Int) (ht : t.length ≤ 200) (hcode : code.length ≤ 2000000) : ∀ (n : Nat) (s : List Int) (j i h : Int), CurOk b i → (t.length : Int) - j ≤ (n : Int) → 1 ≤ j → s.length + n ≤ 10000 → j ≤ 10000 →
    ∃ t' st l, Ev (fun k => spec_DrawFir.l0 k code t s j b i h) (t', st, l) ∧ t'.length ≤ 2000 ∧ st.length ≤ 20000 ∧ l.length ≤ 2000 := by
  intro n
  have tail : ∀ (s : List Int) (i h : Int), CurOk b i → s.length ≤ 20000 → ∃ t' st l, Ev (fun k => spec_DrawFir.j1 k code t s b i h) (t', st, l) ∧ t'.length ≤ 2000 ∧ st.length ≤ 20000 ∧ l.length ≤ 2000 := by
    intro s i h hc hs
    obtain ⟨o, i1, h1, e, hc1⟩ := l1Once_ok b i h 40 hc
    obtain ⟨z, e2, hz0, hz1⟩ := l1Size_eq code 30 hcode (by omega)
    obtain ⟨l, i3, h3, e3, hc3, hl, _⟩ := l5DrawAny_ev b i1 h1 z hc1 (by omega) (by omega)
    by_cases ho : o = true
    · refine ⟨[], s, l, ?_, by simp, hs, hl⟩
      rw [ev_shift]
      simp only [spec_DrawFir.j1, e, Option.bind_some]
      rw [ev_pos ho]
      simp only [e2, Option.bind_some]
      rw [ev_bind e3]
      exact Ev.now _
    · refine ⟨t, s, l, ?_, by omega, hs, hl⟩
      rw [ev_shift]
      simp only [spec_DrawFir.j1, e, Option.bind_some]
      rw [ev_neg ho]
      simp only [e2, Option.bind_some]
      rw [ev_bind e3]
      exact Ev.now _
  have stop : ∀ (s : List Int) (j i h : Int), CurOk b i → ¬ j < (t.length : Int) → s.length ≤ 19999 → ∃ t' st l, Ev (fun k => spec_DrawFir.l0 k code t s j b i h) (t', st, l) ∧ t'.length ≤ 2000 ∧ st.length ≤ 20000 ∧ l.length ≤ 2000 := by
    intro s j i h hc hj hs
    obtain ⟨o, i1, h1, e, hc1⟩ := l1Once_ok b i h 15 hc
    by_cases ho : o = true
    · obtain ⟨t', st, l, e2, h2⟩ := tail (s ++ [1]) i1 h1 hc1 (by simp; omega)
      refine ⟨t', st, l, ?_, h2⟩
      rw [ev_shift]
      simp only [spec_DrawFir.l0, e, Option.bind_some]
      rw [ev_neg hj, ev_pos ho, ev_pos (by omega)]
      exact e2
    · obtain ⟨t', st, l, e2, h2⟩ := tail s i1 h1 hc1 (by omega)
      refine ⟨t', st, l, ?_, h2⟩
      rw [ev_shift]
      simp only [spec_DrawFir.l0, e, Option.bind_some]
      rw [ev_neg hj, ev_neg ho]
      exact e2
  induction n with
  | zero =>
    intro s j i h hc hj hj1 hs hj2
    exact stop s j i h hc (by omega) (by omega)
  | succ n ih =>
    intro s j i h hc hj hj1 hs hj2
    by_cases c : j < (t.length : Int)
    · obtain ⟨x, i1, h1, e, hc1, _⟩ := l1Below_ok b i h 201 hc
      have el : (s ++ [wrap64 (x - 100)]).length = s.length + 1 := by simp
      obtain ⟨t', st, l, e2, h2⟩ := ih (s ++ [wrap64 (x - 100)]) (j + 1) i1 h1 hc1 (by omega) (by omega) (by omega) (by omega)
      refine ⟨t', st, l, ?_, h2⟩
      rw [ev_shift]
      simp only [spec_DrawFir.l0, e, Option.bind_some]
      rw [ev_pos c, ev_pos (by omega), w64 (n := j + 1) (by omega) (by omega)]
      exact e2
    · exact stop s j i h hc c (by omega)
theorem DrawFir_ev (b : List Int) (hb : b.length ≤ 2000000) : ∃ t st l, Ev (fun k => spec_DrawFir.f k b) (t, st, l) ∧ t.length ≤ 2000 ∧ st.length ≤ 20000 ∧ l.length ≤ 2000 := by
  unfold spec_DrawFir.f
  obtain ⟨h, e1⟩ := l1New_ev b hb
  obtain ⟨t, i, h', e3, hc, ht⟩ := l10DrawTaps_ev b 0 h ⟨by omega, by omega, hb⟩
  obtain ⟨t', st, l, e4, h4⟩ := DrawFirLoop b b t ht hb 1000 [] 1 i h' hc (by omega) (by omega) (by simp) (by omega)
  refine ⟨t', st, l, ?_, h4⟩
  rw [ev_bind e1]
  simp only
  rw [ev_bind e3]
  exact e4
theorem rd_take' {l : List Int} {m j : Nat} (h : j < m) : rd (l.take m) (j : Int) = rd l (j : Int) := by
  unfold rd
  rw [Int.toNat_natCast, List.getD_eq_getElem?_getD, List.getD_eq_getElem?_getD, List.getElem?_take_of_lt h]
theorem rd_drop' (l : List Int) (m j : Nat) : rd (l.drop m) (j : Int) = rd l ((m + j : Nat) : Int) := by
  unfold rd
  rw [Int.toNat_natCast, Int.toNat_natCast, List.getD_eq_getElem?_getD, List.getD_eq_getElem?_getD, List.getElem?_drop]
theorem firV_pieces (t st l : List Int) (k : Nat) (hk : k ≤ l.length) :
    firV t st l = ((firV t st (l.take k)).1 ++ (firV t (firV t st (l.take k)).2 (l.drop k)).1, (firV t (firV t st (l.take k)).2 (l.drop k)).2) := by
  have e1 : firV t st (l.take k) = iter (firStep t l) k ([], st) := by
    unfold firV
    have : (l.take k).length = k := by rw [List.length_take]; omega
    rw [this]
    refine iter_congr k _ fun i s hi => ?_
    unfold firStep
    rw [rd_take' hi]
  have e2 : ∀ n, iter (firStep t l) (k + n) ([], st) = ((iter (firStep t l) k ([], st)).1 ++ (iter (firStep t (l.drop k)) n ([], (iter (firStep t l) k ([], st)).2)).1, (iter (firStep t (l.drop k)) n ([], (iter (firStep t l) k ([], st)).2)).2) := by
    intro n
    induction n with
    | zero => simp [iter]
    | succ n ih =>
      rw [← Nat.add_assoc, iter_succ, ih, iter_succ]
      unfold firStep
      simp only
      rw [rd_drop', List.append_assoc]
  have e3 : l.length = k + (l.drop k).length := by rw [List.length_drop]; omega
  rw [e1]
  have e4 := e2 (l.drop k).length
  rw [← e3] at e4
  exact e4
theorem inB_sub {m : Int} {a b : List Int} (h : inB m b = true) (hs : ∀ x ∈ a, x ∈ b) : inB m a = true := inB_iff.2 fun x hx => inB_iff.1 h x (hs x hx)
theorem firV_past (t st l : List Int) (m : Int) (hm : 0 ≤ m) (hl : inB m l = true) (hst : inB m st = true) : inB m (firV t st l).2 = true := by
  unfold firV
  refine (iter_inv (fun _ (s : List Int × List Int) => inB m s.2 = true) l.length _ hst fun i s hi hs => ?_)
  simp only [firStep]
  refine inB_iff.2 fun x hx => ?_
  have h1 := List.mem_of_mem_take hx
  rw [List.mem_cons] at h1
  rcases h1 with h1 | h1
  · rw [h1]
    exact inB_rd hl hm _
  · exact inB_iff.1 hs x h1
theorem fir_small : firR [2, 1] [5] [3] = ([11], [3], true) := by
  have h : tokB [2, 1] = true ∧ sigB [3] = true ∧ sigB [5] = true ∧ [(5 : Int)].length + 1 = [(2 : Int), 1].length := by decide
  unfold firR
  rw [if_pos h]
  simp [firV, iter, firStep, dotS, rd, wrap64]
theorem FnFirPieces : laws_FnFirPieces.Pure := by
  intro l0 _ _ hw
  refine Ev.rounds (g := fun k => laws_FnFirPieces.f k l0) ?_
  simp only [laws_FnFirPieces.f, big_eq, Option.bind_some]
  by_cases hlen : (l0.length : Int) > 1048576
  · rw [ev_pos (by simpa using hlen)]
    exact Ev.now _
  rw [ev_neg (by simpa using hlen)]
  obtain ⟨t, st, l, hd, ht, hst, hl⟩ := DrawFir_ev l0 (by omega)
  rw [ev_bind hd]
  simp only
  have hR := firR_length t st l
  rw [ev_bind (implFir_ev t st l (by omega) (by omega) (by omega)), ev_bind (specFir_ev t st l (by omega) (by omega) (by omega))]
  simp only [bne_self_eq_false, Bool.false_eq_true, if_false]
  rw [ev_bind (implFirTurned_ev t st l (by omega) (by omega) (by omega))]
  simp only [bne_self_eq_false, Bool.false_eq_true, if_false]
  rw [ev_bind (sameInts_ev _ _ hR.1), decide_eq_true rfl, ev_pos rfl, ev_bind (sameInts_ev _ _ hR.2), decide_eq_true rfl, ev_shift]
  simp only [laws_FnFirPieces.j0, Bool.not_true, Bool.false_eq_true, if_false]
  by_cases h : tokB t = true ∧ sigB l = true ∧ sigB st = true ∧ st.length + 1 = t.length
  · obtain ⟨h1, h2, h3, h4⟩ := h
    have hr : firR t st l = ((firV t st l).1, (firV t st l).2, true) := by
      unfold firR
      rw [if_pos ⟨h1, h2, h3, h4⟩]
    rw [hr]
    simp only [if_true]
    obtain ⟨v, hv, hv0, hv1⟩ := at_ok l0 2 (by omega) hw (by omega) (by omega)
    rw [hv, ev_sbind]
    rw [w64 (n := (l.length : Int) + 1) (by omega) (by omega), ev_neg (by omega)]
    have hk0 := Int.tmod_nonneg ((l.length : Int) + 1) hv0
    have hk1 := Int.tmod_lt_of_pos v (by omega : (0 : Int) < (l.length : Int) + 1)
    generalize Int.tmod v ((l.length : Int) + 1) = K at *
    obtain ⟨k, rfl⟩ : ∃ k : Nat, K = (k : Int) := ⟨K.toNat, by omega⟩
    rw [ev_pos hk0, ev_pos (by omega), Int.toNat_natCast]
    have s2 := sigB_iff.1 h2
    have s3 := sigB_iff.1 h3
    have hA := firV_length t st (l.take k)
    have hB := firV_length t (firV t st (l.take k)).2 (l.drop k)
    have hT : inB 1000000000 (l.take k) = true := inB_sub s2.2 fun x hx => List.mem_of_mem_take hx
    have hD : inB 1000000000 (l.drop k) = true := inB_sub s2.2 fun x hx => List.mem_of_mem_drop hx
    have hM : inB 1000000000 (firV t st (l.take k)).2 = true := firV_past t st (l.take k) 1000000000 (by omega) hT s3.2
    have hlt : (l.take k).length ≤ 512 := by rw [List.length_take]; omega
    have hld : (l.drop k).length ≤ 512 := by rw [List.length_drop]; omega
    have ra : firR t st (l.take k) = ((firV t st (l.take k)).1, (firV t st (l.take k)).2, true) := by
      unfold firR
      rw [if_pos ⟨h1, sigB_iff.2 ⟨hlt, hT⟩, h3, h4⟩]
    have rb : firR t (firV t st (l.take k)).2 (l.drop k) = ((firV t (firV t st (l.take k)).2 (l.drop k)).1, (firV t (firV t st (l.take k)).2 (l.drop k)).2, true) := by
      unfold firR
      rw [if_pos ⟨h1, sigB_iff.2 ⟨hld, hD⟩, sigB_iff.2 ⟨by omega, hM⟩, by omega⟩]
    rw [ev_bind (implFir_ev t st (l.take k) (by omega) (by omega) (by omega)), ra]
    simp only
    rw [ev_bind (implFir_ev t (firV t st (l.take k)).2 (l.drop k) (by omega) (by omega) (by omega)), rb]
    simp only [if_true]
    have key := firV_pieces t st l k (by omega)
    have hn : ([] : List Int).length = 0 := rfl
    rw [ev_sbind, ev_pos (by omega), ev_sbind, ev_pos (by rw [List.length_append]; omega), List.nil_append, key]
    simp only
    rw [ev_bind (sameInts_ev _ _ (by rw [List.length_append]; omega)), decide_eq_true rfl, ev_pos rfl, ev_bind (sameInts_ev _ _ (by omega)), decide_eq_true rfl]
    exact Ev.now _
  · have hr : firR t st l = ([], [], false) := by
      unfold firR
      rw [if_neg h]
    rw [hr]
    simp only [Bool.false_eq_true, if_false]
    rw [ev_bind (implFir_ev [2, 1] [5] [3] (by simp) (by simp) (by simp)), fir_small]
    simp only [if_true]
    rw [ev_bind (sameInts_ev [11] [11] (by simp)), decide_eq_true rfl]
    exact Ev.now _

end Go.Proofs.Ytinpmpdkoedjnaa.Pure
