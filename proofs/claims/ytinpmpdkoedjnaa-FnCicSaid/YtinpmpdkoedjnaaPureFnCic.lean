/- The pure part of FnCic: gathered and thinned samples are those of a filter of ones run stage by stage, thinned. No conditions. -/
import Derived.Test.YtinpmpdkoedjnaaQFnCicx6
import Derived.Test.YtinpmpdkoedjnaaBase
namespace Go.Proofs.Ytinpmpdkoedjnaa.Pure
open Go.RowKit Go.Proofs.Ytinpmpdkoedjnaa.QFnCic Go.Proofs.YtinpmpdkoedjnaaW.PrintWords Go.Proofs.YtinpmpdkoedjnaaW.PrintLast
open Go.Proofs.Ytinpmpdkoedjnaa.Base
set_option linter.unusedVariables false
set_option linter.unusedSimpArgs false
/-! ### the cursor of a draw -/
def CurOk (b : List Int) (i : Int) : Prop := 0 ≤ i ∧ i ≤ (b.length : Int) ∧ b.length ≤ 2000000
theorem l1New_ev (b : List Int) (hb : b.length ≤ 2000000) : ∃ h, Ev (fun k => spec_l1New.f k b) (b, 0, h) := by
  unfold spec_l1New.f
  refine ⟨iter (fun i h => Go.bits .and .i64 (wrap64 ((wrap64 ((wrap64 (h * 131)) + (wrap64 (rd b (i : Int))))) + 7)) 1073741823) (min b.length 4000) (wrap64 (71933 + (b.length : Int))), ?_⟩
  rw [(for_iff (fun k h i => spec_l1New.l0 k b h i) (fun i h => Go.bits .and .i64 (wrap64 ((wrap64 ((wrap64 (h * 131)) + (wrap64 (rd b (i : Int))))) + 7)) 1073741823) (fun _ _ => True) (min b.length 4000) _ ?_ _ trivial).2]
  · rw [ev_shift]
    simp only [spec_l1New.l0]
    by_cases h : ((min b.length 4000 : Nat) : Int) < (b.length : Int)
    · rw [ev_pos h, ev_neg (by omega)]
      exact Ev.now _
    · rw [ev_neg h]
      exact Ev.now _
  · intro i s hi _
    refine ⟨trivial, ?_⟩
    rw [ev_shift]
    simp only [spec_l1New.l0]
    rw [ev_pos (by omega), ev_pos (by omega), ev_pos (by omega), w64 (n := (i : Int) + 1) (by omega) (by omega)]
theorem l1Byte_ok (b : List Int) (i h : Int) (hc : CurOk b i) : ∃ x i' h', spec_l1Byte.f b i h = some (x, i', h') ∧ CurOk b i' ∧ 0 ≤ x ∧ x ≤ 255 := by
  obtain ⟨h0, h1, h2⟩ := hc
  unfold spec_l1Byte.f
  by_cases c : i < (b.length : Int)
  · rw [if_pos c, if_pos h0]
    have := band_range
    refine ⟨_, _, _, rfl, ⟨?_, ?_, h2⟩, (band_range _ 255 (by omega) (by omega)).1, (band_range _ 255 (by omega) (by omega)).2⟩
    · rw [w64 (by omega) (by omega)]; omega
    · rw [w64 (by omega) (by omega)]; omega
  · rw [if_neg c]
    exact ⟨_, _, _, rfl, ⟨h0, h1, h2⟩, (band_range _ 255 (by omega) (by omega)).1, (band_range _ 255 (by omega) (by omega)).2⟩
theorem l1Below_ok (b : List Int) (i h n : Int) (hc : CurOk b i) : ∃ x i' h', spec_l1Below.f b i h n = some (x, i', h') ∧ CurOk b i' ∧ 0 ≤ x ∧ (0 < n → x < n) ∧ (n ≤ 0 → x = 0) := by
  unfold spec_l1Below.f
  by_cases c : n ≤ 0
  · rw [if_pos c]
    exact ⟨_, _, _, rfl, hc, by omega, by omega, fun _ => rfl⟩
  · rw [if_neg c]
    by_cases d : n ≤ 256
    · rw [if_pos d]
      obtain ⟨x, i1, h1, e, hc1, hx0, hx1⟩ := l1Byte_ok b i h hc
      rw [e]
      simp only [Option.bind_some]
      rw [if_neg (by omega)]
      refine ⟨_, _, _, rfl, hc1, ?_, fun _ => ?_, fun h => absurd h c⟩
      · exact Int.tmod_nonneg _ hx0
      · exact Int.tmod_lt_of_pos _ (by omega)
    · rw [if_neg d]
      obtain ⟨x, i1, h1, e, hc1, hx0, hx1⟩ := l1Byte_ok b i h hc
      rw [e]
      simp only [Option.bind_some]
      obtain ⟨y, i2, h2, e, hc2, hy0, hy1⟩ := l1Byte_ok b i1 h1 hc1
      rw [e]
      simp only [Option.bind_some]
      obtain ⟨z, i3, h3, e, hc3, hz0, hz1⟩ := l1Byte_ok b i2 h2 hc2
      rw [e]
      simp only [Option.bind_some]
      obtain ⟨w, i4, h4, e, hc4, hw0, hw1⟩ := l1Byte_ok b i3 h3 hc3
      rw [e]
      simp only [Option.bind_some]
      rw [if_neg (by omega)]
      refine ⟨_, _, _, rfl, hc4, ?_, fun _ => ?_, fun h => absurd h c⟩
      · refine Int.tmod_nonneg _ ?_
        rw [w64 (n := x * 16777216) (by omega) (by omega), w64 (n := y * 65536) (by omega) (by omega), w64 (n := z * 256) (by omega) (by omega), w64 (n := x * 16777216 + y * 65536) (by omega) (by omega), w64 (n := x * 16777216 + y * 65536 + z * 256) (by omega) (by omega), w64 (by omega) (by omega)]
        omega
      · exact Int.tmod_lt_of_pos _ (by omega)
theorem l1Once_ok (b : List Int) (i h n : Int) (hc : CurOk b i) : ∃ t i' h', spec_l1Once.f b i h n = some (t, i', h') ∧ CurOk b i' := by
  unfold spec_l1Once.f
  obtain ⟨x, i1, h1, e, hc1, _⟩ := l1Below_ok b i h n hc
  rw [e]
  exact ⟨_, _, _, rfl, hc1⟩

theorem l1PickInt_ok (b : List Int) (i h : Int) (l : List Int) (hl : 0 < l.length) (hc : CurOk b i) : ∃ x i' h', spec_l1PickInt.f b i h l = some (x, i', h') ∧ CurOk b i' ∧ x ∈ l := by
  unfold spec_l1PickInt.f
  obtain ⟨x, i1, h1, e, hc1, h0, hx, _⟩ := l1Below_ok b i h (l.length : Int) hc
  rw [e]
  simp only [Option.bind_some]
  have := hx (by omega)
  rw [if_pos h0, if_pos this]
  exact ⟨_, _, _, rfl, hc1, rd_mem h0 this⟩

theorem l1Size_eq (l : List Int) (m : Int) (hl : l.length ≤ 2000000) (hm : 2 ≤ m) : ∃ s, spec_l1Size.f l m = some s ∧ 2 ≤ s ∧ s ≤ m := by
  unfold spec_l1Size.f
  rw [w64 (n := (l.length : Int) / 20) (by omega) (by omega), w64 (by omega) (by omega)]
  by_cases h : 2 + (l.length : Int) / 20 > m
  · rw [if_pos h]
    exact ⟨m, rfl, hm, by omega⟩
  · rw [if_neg h]
    exact ⟨_, rfl, by omega, by omega⟩

theorem l10DrawSmallLoop (b : List Int) : ∀ (n : Nat) (s : List Int) (i h : Int), CurOk b i → s.length + n ≤ 1000000 →
    ∃ r i' h', Ev (fun k => spec_l10DrawSmall.l0 k s (n : Int) b i h) (r, i', h') ∧ CurOk b i' ∧ r.length ≤ s.length + n + 1 := by
  intro n
  induction n with
  | zero =>
    intro s i h hc hn
    obtain ⟨t, i1, h1, e, hc1⟩ := l1Once_ok b i h 40 hc
    by_cases ht : t = true
    · obtain ⟨x, i2, h2, e2, hc2, _⟩ := l1PickInt_ok b i1 h1 [32768, (-32768)] (by simp) hc1
      refine ⟨s ++ [x], i2, h2, ?_, hc2, by simp⟩
      rw [ev_shift]
      simp only [spec_l10DrawSmall.l0, e, Option.bind_some]
      rw [ev_neg (by omega), ev_pos ht]
      simp only [e2, Option.bind_some]
      rw [ev_pos (by omega)]
      exact Ev.now _
    · refine ⟨s, i1, h1, ?_, hc1, by omega⟩
      rw [ev_shift]
      simp only [spec_l10DrawSmall.l0, e, Option.bind_some]
      rw [ev_neg (by omega), ev_neg ht]
      exact Ev.now _
  | succ n ih =>
    intro s i h hc hn
    obtain ⟨x, i1, h1, e, hc1, _⟩ := l1Below_ok b i h 2001 hc
    obtain ⟨t, i2, h2, e2, hc2⟩ := l1Once_ok b i1 h1 20 hc1
    have e9 : ((n + 1 : Nat) : Int) - 1 = (n : Int) := by omega
    by_cases ht : t = true
    · obtain ⟨y, i3, h3, e3, hc3, _⟩ := l1PickInt_ok b i2 h2 [32767, (-32767), 0] (by simp) hc2
      obtain ⟨r, i4, h4, e4, hc4, hr⟩ := ih ((s ++ [wrap64 (x - 1000)]).set ((((s ++ [wrap64 (x - 1000)]).length : Int) - 1).toNat) y) i3 h3 hc3 (by simp; omega)
      have el : (s ++ [wrap64 (x - 1000)]).length = s.length + 1 := by simp
      refine ⟨r, i4, h4, ?_, hc4, by simp at hr; omega⟩
      rw [ev_shift]
      simp only [spec_l10DrawSmall.l0, e, Option.bind_some]
      rw [ev_pos (by omega), ev_pos (by omega)]
      simp only [e2, Option.bind_some]
      rw [ev_pos ht]
      simp only [e3, Option.bind_some]
      rw [w64 (n := ((s ++ [wrap64 (x - 1000)]).length : Int) - 1) (by omega) (by omega), ev_pos (by omega), ev_pos (by omega), w64 (n := ((n + 1 : Nat) : Int) - 1) (by omega) (by omega), e9]
      exact e4
    · obtain ⟨r, i4, h4, e4, hc4, hr⟩ := ih (s ++ [wrap64 (x - 1000)]) i2 h2 hc2 (by simp; omega)
      refine ⟨r, i4, h4, ?_, hc4, by simp at hr; omega⟩
      rw [ev_shift]
      simp only [spec_l10DrawSmall.l0, e, Option.bind_some]
      rw [ev_pos (by omega), ev_pos (by omega)]
      simp only [e2, Option.bind_some]
      rw [ev_neg ht, w64 (n := ((n + 1 : Nat) : Int) - 1) (by omega) (by omega), e9]
      exact e4
theorem l10DrawSmall_ev (b : List Int) (i h m : Int) (hc : CurOk b i) (h0 : 0 ≤ m) (h1 : m ≤ 1000) :
    ∃ r i' h', Ev (fun k => spec_l10DrawSmall.f k b i h m) (r, i', h') ∧ CurOk b i' ∧ (r.length : Int) ≤ m + 1 := by
  unfold spec_l10DrawSmall.f
  rw [w64 (by omega) (by omega)]
  obtain ⟨x, i1, h1', e, hc1, hx0, hx, _⟩ := l1Below_ok b i h (m + 1) hc
  rw [e]
  simp only [Option.bind_some]
  have := hx (by omega)
  obtain ⟨r, i2, h2, e2, hc2, hr⟩ := l10DrawSmallLoop b x.toNat [] i1 h1' hc1 (by simp; omega)
  rw [Int.toNat_of_nonneg hx0] at e2
  exact ⟨r, i2, h2, e2, hc2, by simp at hr; omega⟩

theorem sameInts_ev (a b : List Int) (h : a.length ≤ 2000000) : Ev (fun k => laws_sameInts.f k a b) (decide (a = b)) := by
  unfold laws_sameInts.f
  by_cases e : a.length = b.length
  · rw [ev_pos (by omega)]
    rw [all_iff (fun k i => laws_sameInts.l0 k a b i) (fun i => decide (rd a (i : Int) = rd b (i : Int))) a.length _ false]
    · split
      · rename_i hp
        have : a = b := list_ext_rd e fun i hi => by simpa using range_all.1 hp i hi
        rw [decide_eq_true this]
        exact Ev.step (fun k => by simp only [laws_sameInts.l0]; rw [if_neg (by omega)]) (Ev.now _)
      · rename_i hp
        have : ¬ a = b := fun h => hp (by subst h; rw [range_all]; simp)
        simp [this]
    · intro i hi
      by_cases p : rd a (i : Int) = rd b (i : Int)
      · rw [if_pos (by simpa using p)]
        rw [ev_shift]
        simp only [laws_sameInts.l0]
        rw [ev_pos (by omega), ev_pos (by omega), ev_pos (by omega), ev_pos p, w64 (by omega) (by omega)]
      · rw [if_neg (by simpa using p)]
        rw [ev_shift]
        simp only [laws_sameInts.l0]
        rw [ev_pos (by omega), ev_pos (by omega), ev_pos (by omega), ev_neg p, ev_some_iff]
  · rw [ev_neg (by omega)]
    have : ¬ a = b := fun h => e (by rw [h])
    simp only [this, decide_false]
    exact Ev.now _
theorem big_eq (l : List Int) : laws_big.f l = some (decide ((l.length : Int) > 1048576)) := rfl

theorem within_ev (l : List Int) (m : Int) (hl : l.length ≤ 2000000) (h0 : 0 ≤ m) (h1 : m ≤ 1000000000000) : Ev (fun k => impl_within.f k l m) (inB m l) := by
  unfold impl_within.f
  rw [inB_range]
  rw [all_iff (fun k i => impl_within.l0 k m l (l.length : Int) i) (fun i => decide (-m ≤ rd l (i : Int)) && decide (rd l (i : Int) ≤ m)) l.length _ false]
  · split
    · rename_i hp
      rw [hp]
      exact Ev.step (fun k => by simp only [impl_within.l0]; rw [if_neg (by omega)]) (Ev.now _)
    · rename_i hp
      simpa using hp
  · intro i hi
    by_cases p : -m ≤ rd l (i : Int) ∧ rd l (i : Int) ≤ m
    · rw [if_pos (by simpa using p)]
      rw [ev_shift]
      simp only [impl_within.l0]
      rw [ev_pos (by omega), ev_pos (by omega), ev_pos (by omega), w64 (n := -m) (by omega) (by omega), ev_neg (by omega), ev_neg (by omega), w64 (by omega) (by omega)]
    · rw [if_neg (by simpa using p)]
      rw [ev_shift]
      simp only [impl_within.l0]
      rw [ev_pos (by omega), ev_pos (by omega), ev_pos (by omega), w64 (n := -m) (by omega) (by omega)]
      by_cases q : rd l (i : Int) < -m
      · rw [ev_pos q, ev_some_iff]
      · rw [ev_neg q, ev_pos (by omega), ev_some_iff]

theorem implSig_ev (l : List Int) (hl : l.length ≤ 2000000) : Ev (fun k => impl_SignalOk.f k l) (sigB l) := by
  unfold impl_SignalOk.f
  by_cases h : (l.length : Int) ≤ 512
  · rw [ev_pos h]
    rw [ev_bind (within_ev l 1000000000 hl (by omega) (by omega)), ev_some_iff, sigB, decide_eq_true (by omega : l.length ≤ 512), Bool.true_and]
  · rw [ev_neg h]
    rw [ev_some_iff, sigB, decide_eq_false (by omega : ¬ l.length ≤ 512), Bool.false_and]

/-! ### sums of the last a samples -/
def gathV (l : List Int) (a : Nat) : List Int := tab l.length fun i => wrap64 (psum l (i + 1) - psum l (i + 1 - a))
theorem gathV_length (l : List Int) (a : Nat) : (gathV l a).length = l.length := by simp [gathV]
theorem implGatherV_ev (l : List Int) (a : Nat) (hl : l.length ≤ 2000000) (ha : a ≤ 2000000) (ha0 : 0 < a) : Ev (fun k => impl_gather.f k l (a : Int)) (gathV l a) := by
  unfold impl_gather.f
  have h := for_iff (fun k (s : List Int × Int) i => impl_gather.l0 k l (a : Int) s.1 s.2 l (l.length : Int) i) (fun i s => (s.1 ++ [wrap64 (psum l (i + 1) - psum l (i + 1 - a))], wrap64 (psum l (i + 1) - psum l (i + 1 - a)))) (fun i s => s = (tab i fun i => wrap64 (psum l (i + 1) - psum l (i + 1 - a)), wrap64 (psum l i - psum l (i - a)))) l.length (gathV l a) ?_ ([], 0) (by simp [tab_zero, psum_zero, wrap_zero])
  · rw [h.2, h.1, ev_shift]
    simp only [impl_gather.l0]
    rw [ev_neg (by omega)]
    exact Ev.now _
  · intro i s hi hs
    subst hs
    refine ⟨by simp only [tab_succ], ?_⟩
    rw [ev_shift]
    simp only [impl_gather.l0, tab_length]
    rw [ev_pos (by omega), ev_pos (by omega), ev_pos (by omega), w64 (n := (i : Int) + 1) (by omega) (by omega)]
    by_cases c : (i : Int) ≥ (a : Int)
    · rw [ev_pos c, w64 (n := (i : Int) - (a : Int)) (by omega) (by omega), ev_pos (by omega), ev_pos (by omega), ev_pos (by omega)]
      have e : wrap64 (wrap64 (wrap64 (psum l i - psum l (i - a)) + rd l (i : Int)) - rd l ((i : Int) - (a : Int))) = wrap64 (psum l (i + 1) - psum l (i + 1 - a)) := by
        rw [wrap_add_l, wrap_sub_l]
        have e1 : i + 1 - a = (i - a) + 1 := by omega
        have e2 : (i : Int) - (a : Int) = ((i - a : Nat) : Int) := by omega
        rw [e1, e2, psum, psum]
        congr 1
        omega
      rw [e]
    · rw [ev_neg c, ev_pos (by omega)]
      have e : wrap64 (wrap64 (psum l i - psum l (i - a)) + rd l (i : Int)) = wrap64 (psum l (i + 1) - psum l (i + 1 - a)) := by
        rw [wrap_add_l]
        have e1 : i + 1 - a = 0 := by omega
        have e2 : i - a = 0 := by omega
        rw [e1, e2, psum_succ l i]
        congr 1
        omega
      rw [e]

/-! ### Cic -/
def cicV (l : List Int) (r st : Nat) : List Int := thinV (iter (fun _ x => gathV x r) st l) r (r - 1)
theorem stages_length (l : List Int) (r n : Nat) : (iter (fun _ x => gathV x r) n l).length = l.length :=
  iter_inv (fun _ (x : List Int) => x.length = l.length) n l rfl fun _ x _ hx => by rw [gathV_length, hx]
open Classical in
noncomputable def cicR (l : List Int) (r st : Int) : List Int × Bool :=
  if l.length ≤ 512 ∧ inB 32767 l = true ∧ 1 ≤ r ∧ r ≤ 32 ∧ 1 ≤ st ∧ st ≤ 5 then (cicV l r.toNat st.toNat, true) else ([], false)
theorem cicR_length (l : List Int) (r st : Int) : (cicR l r st).1.length ≤ 2000000 := by
  unfold cicR
  split
  · rename_i h
    have := thinV_length (iter (fun _ x => gathV x r.toNat) st.toNat l) r.toNat (r.toNat - 1) (by omega)
    rw [stages_length] at this
    simp only [cicV]
    omega
  · simp
theorem inB_mono {m n : Int} {l : List Int} (h : inB m l = true) (hmn : m ≤ n) : inB n l = true := inB_iff.2 fun x hx => by have := inB_iff.1 h x hx; omega
theorem implCicV_ev (l : List Int) (r st : Nat) (hl : l.length ≤ 512) (hr : 1 ≤ r) (hr1 : r ≤ 32) (hst : st ≤ 5) : Ev (fun k => impl_Cic.l0 k l (r : Int) (st : Int) 0) (cicV l r st, true) := by
  have h := for_iff (fun k x i => impl_Cic.l0 k x (r : Int) (st : Int) i) (fun _ x => gathV x r) (fun _ x => x.length = l.length) st (cicV l r st, true) ?_ l rfl
  · rw [h.2, ev_shift]
    simp only [impl_Cic.l0]
    rw [ev_neg (by omega), w64 (n := (r : Int) - 1) (by omega) (by omega)]
    have e : (r : Int) - 1 = ((r - 1 : Nat) : Int) := by omega
    rw [e]
    exact thin_loop (fun k s i => impl_Cic.l1 k _ (r : Int) s i) (fun s => (s, true)) _ r (r - 1) (fun _ _ _ => rfl) (by rw [h.1]; omega) (by omega) (by omega) (by omega)
  · intro i x hi hx
    refine ⟨by rw [gathV_length, hx], ?_⟩
    rw [ev_shift]
    simp only [impl_Cic.l0]
    rw [ev_pos (by omega), ev_bind (implGatherV_ev x r (by omega) (by omega) (by omega)), w64 (by omega) (by omega)]
theorem implCic_ev (l : List Int) (r st : Int) (hl : l.length ≤ 2000000) : Ev (fun k => impl_Cic.f k l r st) (cicR l r st) := by
  unfold impl_Cic.f
  have no : ¬ (l.length ≤ 512 ∧ inB 32767 l = true ∧ 1 ≤ r ∧ r ≤ 32 ∧ 1 ≤ st ∧ st ≤ 5) → Ev (fun k => impl_Cic.j0 k l r st true) (cicR l r st) := by
    intro h
    rw [ev_shift, cicR, if_neg h]
    simp only [impl_Cic.j0, if_true]
    exact Ev.now _
  rw [ev_bind (implSig_ev l hl)]
  by_cases hs : sigB l = true
  · rw [ev_pos hs, ev_bind (within_ev l 32767 hl (by omega) (by omega))]
    by_cases hw : inB 32767 l = true
    · rw [ev_pos hw]
      by_cases h1 : r < 1
      · rw [ev_pos h1]
        exact no (by omega)
      rw [ev_neg h1]
      by_cases h2 : r > 32
      · rw [ev_pos h2]
        exact no (by omega)
      rw [ev_neg h2]
      by_cases h3 : st < 1
      · rw [ev_pos h3]
        exact no (by omega)
      rw [ev_neg h3]
      by_cases h4 : st > 5
      · rw [decide_eq_true h4]
        exact no (by omega)
      have hl5 := (sigB_iff.1 hs).1
      rw [decide_eq_false h4, ev_shift, cicR, if_pos ⟨hl5, hw, by omega, by omega, by omega, by omega⟩]
      simp only [impl_Cic.j0, Bool.false_eq_true, if_false]
      have h := implCicV_ev l r.toNat st.toNat hl5 (by omega) (by omega) (by omega)
      rw [Int.toNat_of_nonneg (by omega), Int.toNat_of_nonneg (by omega)] at h
      exact h
    · rw [ev_neg hw]
      exact no (fun h => hw h.2.1)
  · rw [ev_neg hs]
    exact no (fun h => hs (sigB_iff.2 ⟨h.1, inB_mono h.2.1 (by omega)⟩))


theorem specGatherV_ev (l : List Int) (a : Nat) (hl : l.length ≤ 2000000) (ha : a ≤ 2000000) (ha0 : 0 < a) : Ev (fun k => spec_l10Gather.f k l (a : Int)) (gathV l a) := by
  unfold spec_l10Gather.f
  rw [(for_iff (fun k s i => spec_l10Gather.l0 k l (a : Int) s i) (fun i s => s ++ [wrap64 (psum l (i + 1) - psum l (i + 1 - a))]) (fun i s => s.length = i) l.length _ ?_ [] rfl).2]
  · rw [iter_push, ev_shift]
    simp only [spec_l10Gather.l0]
    rw [ev_neg (by omega)]
    exact Ev.now _
  · intro i s hi hs
    refine ⟨by simp [hs], ?_⟩
    rw [ev_shift]
    simp only [spec_l10Gather.l0]
    rw [ev_pos (by omega)]
    have h := for_pos (fun k c j => spec_l10Gather.l1 k l (a : Int) s (i : Int) c j) (fun j => (i : Int) - (j : Int)) (fun j _ => wrap64 (psum l (i + 1) - psum l (i + 1 - (j + 1)))) (fun j c => c = wrap64 (psum l (i + 1) - psum l (i + 1 - j))) (min (i + 1) a) (gathV l a) ?_ 0 (by simp [wrap_zero])
    · simp only [Int.ofNat_zero, Int.sub_zero] at h
      rw [h.2, h.1, ev_shift]
      simp only [spec_l10Gather.l1]
      rw [w64 (n := (i : Int) - (a : Int)) (by omega) (by omega), w64 (n := (i : Int) + 1) (by omega) (by omega)]
      have e : i + 1 - min (i + 1) a = i + 1 - a := by omega
      rw [e]
      by_cases c : (i : Int) - ((min (i + 1) a : Nat) : Int) ≥ 0
      · rw [ev_pos c, ev_neg (by omega), ev_pos (by omega)]
      · rw [ev_neg c, ev_pos (by omega)]
    · intro j c hj hc
      subst hc
      refine ⟨rfl, ?_⟩
      rw [ev_shift]
      simp only [spec_l10Gather.l1]
      rw [w64 (n := (i : Int) - (a : Int)) (by omega) (by omega), ev_pos (by omega), ev_pos (by omega), ev_pos (by omega), ev_pos (by omega), w64 (n := (i : Int) - (j : Int) - 1) (by omega) (by omega)]
      have e : wrap64 (wrap64 (psum l (i + 1) - psum l (i + 1 - j)) + rd l ((i : Int) - (j : Int))) = wrap64 (psum l (i + 1) - psum l (i + 1 - (j + 1))) := by
        rw [wrap_add_l]
        have e1 : i + 1 - j = (i - j) + 1 := by omega
        have e2 : i + 1 - (j + 1) = i - j := by omega
        have e3 : (i : Int) - (j : Int) = ((i - j : Nat) : Int) := by omega
        rw [e1, e2, e3, psum_succ l (i - j)]
        congr 1
        omega
      have e4 : (i : Int) - (j : Int) - 1 = (i : Int) - ((j + 1 : Nat) : Int) := by omega
      rw [e, e4]

theorem l1In_eq (a b c : Int) : spec_l1In.f a b c = some (decide (b ≤ a ∧ a ≤ c)) := by
  unfold spec_l1In.f
  by_cases h : a ≥ b
  · rw [if_pos h]
    congr 1
    rw [decide_eq_decide]
    omega
  · rw [if_neg h]
    congr 1
    symm
    rw [decide_eq_false_iff_not]
    omega

theorem l9Wide_ev (l : List Int) (m : Int) (hl : l.length ≤ 2000000) (h0 : 0 ≤ m) (h1 : m ≤ 1000000000000) : Ev (fun k => spec_l9Wide.f k l m) (inB m l) := by
  unfold spec_l9Wide.f
  rw [inB_range]
  rw [all_iff (fun k i => spec_l9Wide.l0 k l m i) (fun i => decide (-m ≤ rd l (i : Int)) && decide (rd l (i : Int) ≤ m)) l.length _ false]
  · split
    · rename_i hp
      rw [hp]
      exact Ev.step (fun k => by simp only [spec_l9Wide.l0]; rw [if_neg (by omega)]) (Ev.now _)
    · rename_i hp
      simpa using hp
  · intro i hi
    by_cases p : -m ≤ rd l (i : Int) ∧ rd l (i : Int) ≤ m
    · rw [if_pos (by simpa using p)]
      rw [ev_shift]
      simp only [spec_l9Wide.l0]
      rw [ev_pos (by omega), ev_pos (by omega), w64 (n := -m) (by omega) (by omega), l1In_eq]
      simp only [Option.bind_some]
      rw [ev_pos (by simpa using p), w64 (by omega) (by omega)]
    · rw [if_neg (by simpa using p)]
      rw [ev_shift]
      simp only [spec_l9Wide.l0]
      rw [ev_pos (by omega), ev_pos (by omega), w64 (n := -m) (by omega) (by omega), l1In_eq]
      simp only [Option.bind_some]
      rw [ev_neg (by simpa using p), ev_some_iff]

theorem specCicV_ev (l : List Int) (r st : Nat) (hl : l.length ≤ 512) (hr : 1 ≤ r) (hr1 : r ≤ 32) (hst : st ≤ 5) : Ev (fun k => spec_Cic.l0 k (r : Int) (st : Int) l 0) (cicV l r st, true) := by
  have h := for_iff (fun k x i => spec_Cic.l0 k (r : Int) (st : Int) x i) (fun _ x => gathV x r) (fun _ x => x.length = l.length) st (cicV l r st, true) ?_ l rfl
  · rw [h.2, ev_shift]
    simp only [spec_Cic.l0]
    rw [ev_neg (by omega), w64 (n := (r : Int) - 1) (by omega) (by omega)]
    have e : (r : Int) - 1 = ((r - 1 : Nat) : Int) := by omega
    rw [e]
    exact thin_loop (fun k s i => spec_Cic.l1 k (r : Int) _ s i) (fun s => (s, true)) _ r (r - 1) (fun _ _ _ => rfl) (by rw [h.1]; omega) (by omega) (by omega) (by omega)
  · intro i x hi hx
    refine ⟨by rw [gathV_length, hx], ?_⟩
    rw [ev_shift]
    simp only [spec_Cic.l0]
    rw [ev_pos (by omega), ev_bind (specGatherV_ev x r (by omega) (by omega) (by omega)), w64 (by omega) (by omega)]
theorem specCic_ev (l : List Int) (r st : Int) (hl : l.length ≤ 2000000) : Ev (fun k => spec_Cic.f k l r st) (cicR l r st) := by
  unfold spec_Cic.f
  have no : ¬ (l.length ≤ 512 ∧ inB 32767 l = true ∧ 1 ≤ r ∧ r ≤ 32 ∧ 1 ≤ st ∧ st ≤ 5) → Ev (fun k => spec_Cic.j0 k l r st true) (cicR l r st) := by
    intro h
    rw [ev_shift, cicR, if_neg h]
    simp only [spec_Cic.j0, if_true]
    exact Ev.now _
  by_cases hs : (l.length : Int) > 512
  · rw [ev_pos hs]
    exact no (by omega)
  rw [ev_neg hs, ev_bind (l9Wide_ev l 32767 hl (by omega) (by omega))]
  simp only [l1In_eq, Option.bind_some]
  by_cases hw : inB 32767 l = true
  · rw [ev_pos hw]
    by_cases h1 : 1 ≤ r ∧ r ≤ 32
    · rw [ev_pos (by simpa using h1)]
      by_cases h3 : 1 ≤ st ∧ st ≤ 5
      · rw [decide_eq_true h3, ev_shift, cicR, if_pos ⟨by omega, hw, by omega, by omega, by omega, by omega⟩]
        simp only [spec_Cic.j0, Bool.not_true, Bool.false_eq_true, if_false, Option.bind_some, List.nil_append, List.length_nil]
        rw [ev_pos (by omega)]
        have h := specCicV_ev l r.toNat st.toNat (by omega) (by omega) (by omega) (by omega)
        rw [Int.toNat_of_nonneg (by omega), Int.toNat_of_nonneg (by omega)] at h
        exact h
      · rw [decide_eq_false h3]
        exact no (by omega)
    · rw [ev_neg (by simpa using h1)]
      exact no (by omega)
  · rw [ev_neg hw]
    exact no (fun h => hw h.2.1)

theorem clone_eq (l : List Int) (h : l.length ≤ 2000000) : slices_Clone_int_int.f l = some l := by
  unfold slices_Clone_int_int.f
  simp only [Option.bind_some, List.nil_append, List.length_nil]
  rw [if_pos (by omega)]

/-! ### Fir -/
def firStep (t l : List Int) (i : Nat) (s : List Int × List Int) : List Int × List Int :=
  (s.1 ++ [wrap64 (dotS t (rd l (i : Int) :: s.2) t.length)], (rd l (i : Int) :: s.2).take s.2.length)
def firV (t st l : List Int) : List Int × List Int := iter (firStep t l) l.length ([], st)
theorem firV_length (t st l : List Int) : (firV t st l).1.length = l.length ∧ (firV t st l).2.length = st.length := by
  unfold firV
  refine iter_inv (fun i (s : List Int × List Int) => s.1.length = i ∧ s.2.length = st.length) l.length _ ⟨rfl, rfl⟩ fun i s _ hs => ?_
  simp only [firStep, List.length_append, List.length_cons, List.length_nil, List.length_take]
  omega
theorem rd_cons_succ (x : Int) (l : List Int) (k : Nat) : rd (x :: l) ((k : Int) + 1) = rd l (k : Int) := by
  have : ((k : Int) + 1).toNat = k + 1 := by omega
  unfold rd
  rw [this, Int.toNat_natCast]
  rfl
theorem rd_cons_zero (x : Int) (l : List Int) : rd (x :: l) 0 = x := rfl
theorem wrap_fold (a b c : Int) (h : a = wrap64 b) : wrap64 (a + wrap64 c) = wrap64 (b + c) := by rw [h, wrap_add_l, wrap_add_r]
theorem implFirV_ev (t st l : List Int) (hl : l.length ≤ 2000000) (ht : t.length = st.length + 1) (hst : st.length ≤ 2000000) : Ev (fun k => impl_fir.f k t st l) (firV t st l) := by
  unfold impl_fir.f
  rw [clone_eq st hst]
  simp only [Option.bind_some]
  have h := for_iff (fun k (s : List Int × List Int) i => impl_fir.l0 k t s.2 s.1 l (l.length : Int) i) (firStep t l) (fun i s => s.1.length = i ∧ s.2.length = st.length) l.length (firV t st l) ?_ ([], st) ⟨rfl, rfl⟩
  · rw [h.2, ev_shift]
    simp only [impl_fir.l0]
    rw [ev_neg (by omega)]
    exact Ev.now _
  · rintro i ⟨out, past⟩ hi ⟨h1, h2⟩
    simp only at h1 h2
    refine ⟨by simp only [firStep, List.length_append, List.length_cons, List.length_nil, List.length_take]; omega, ?_⟩
    rw [ev_shift]
    simp only [impl_fir.l0]
    rw [ev_pos (by omega), ev_pos (by omega), ev_pos (by omega), ev_pos (by omega)]
    have g := for_iff (fun k c j => impl_fir.l1 k t past out (rd l (i : Int)) c l (l.length : Int) (i : Int) past (past.length : Int) j) (fun j _ => wrap64 (dotS t (rd l (i : Int) :: past) (j + 1 + 1))) (fun j c => c = wrap64 (dotS t (rd l (i : Int) :: past) (j + 1))) past.length (firV t st l) ?_ (wrap64 (rd t 0 * rd l (i : Int))) ?_
    · rw [g.2, g.1, ev_shift]
      simp only [impl_fir.l1, Option.bind_some]
      rw [ev_neg (by omega), ev_pos (by omega), ev_pos (by simp; omega), ev_pos (by omega), ev_pos (by simp; omega), w64 (n := (i : Int) + 1) (by omega) (by omega)]
      simp only [firStep, Int.toNat_natCast, List.singleton_append]
      have e : past.length + 1 = t.length := by omega
      rw [e]
    · intro j c hj hc
      refine ⟨rfl, ?_⟩
      rw [ev_shift]
      simp only [impl_fir.l1]
      rw [w64 (n := 1 + (j : Int)) (by omega) (by omega), ev_pos (by omega), ev_pos (by omega), ev_pos (by omega), ev_pos (by omega), ev_pos (by omega), w64 (n := (j : Int) + 1) (by omega) (by omega)]
      rw [wrap_fold _ _ _ hc]
      have e : dotS t (rd l (i : Int) :: past) (j + 1 + 1) = dotS t (rd l (i : Int) :: past) (j + 1) + rd t (1 + (j : Int)) * rd past (j : Int) := by
        rw [dotS]
        have e1 : ((j + 1 : Nat) : Int) = (j : Int) + 1 := by omega
        rw [e1, rd_cons_succ, Int.add_comm (j : Int) 1]
      rw [e]
    · have e : dotS t (rd l (i : Int) :: past) (0 + 1) = rd t 0 * rd l (i : Int) := by
        show 0 + rd t ((0 : Nat) : Int) * rd (rd l (i : Int) :: past) ((0 : Nat) : Int) = _
        rw [Int.zero_add]
        rfl
      rw [e]



def tokB (l : List Int) : Bool := decide (1 ≤ l.length ∧ l.length ≤ 64) && inB 1000000 l
theorem tokB_iff {l : List Int} : tokB l = true ↔ 1 ≤ l.length ∧ l.length ≤ 64 ∧ inB 1000000 l = true := by simp [tokB, and_assoc]
theorem tapsOk_ev (l : List Int) (hl : l.length ≤ 2000000) : Ev (fun k => impl_tapsOk.f k l) (tokB l) := by
  unfold impl_tapsOk.f tokB
  by_cases h1 : (l.length : Int) ≥ 1
  · rw [ev_pos h1]
    by_cases h2 : (l.length : Int) ≤ 64
    · rw [ev_pos h2, ev_bind (within_ev l 1000000 hl (by omega) (by omega)), ev_some_iff, decide_eq_true (by omega), Bool.true_and]
    · rw [ev_neg h2, ev_some_iff, decide_eq_false (by omega), Bool.false_and]
  · rw [ev_neg h1, ev_some_iff, decide_eq_false (by omega), Bool.false_and]

open Classical in
noncomputable def firR (t st l : List Int) : List Int × List Int × Bool :=
  if tokB t = true ∧ sigB l = true ∧ sigB st = true ∧ st.length + 1 = t.length then ((firV t st l).1, (firV t st l).2, true) else ([], [], false)
theorem firR_length (t st l : List Int) : (firR t st l).1.length ≤ 2000000 ∧ (firR t st l).2.1.length ≤ 2000000 := by
  unfold firR
  split
  · rename_i h
    have h1 := firV_length t st l
    have h2 := (sigB_iff.1 h.2.1).1
    have h3 := (sigB_iff.1 h.2.2.1).1
    exact ⟨by show (firV t st l).1.length ≤ _; omega, by show (firV t st l).2.length ≤ _; omega⟩
  · exact ⟨by simp, by simp⟩
theorem implFir_ev (t st l : List Int) (ht : t.length ≤ 2000000) (hst : st.length ≤ 2000000) (hl : l.length ≤ 2000000) : Ev (fun k => impl_Fir.f k t st l) (firR t st l) := by
  unfold impl_Fir.f
  rw [ev_bind (tapsOk_ev t ht)]
  by_cases h1 : tokB t = true
  · rw [ev_pos h1, ev_bind (implSig_ev l hl)]
    by_cases h2 : sigB l = true
    · rw [ev_pos h2, ev_bind (implSig_ev st hst)]
      by_cases h3 : sigB st = true
      · rw [ev_pos h3, w64 (n := (t.length : Int) - 1) (by omega) (by omega)]
        have h1' := tokB_iff.1 h1
        by_cases h4 : (st.length : Int) = (t.length : Int) - 1
        · rw [ev_pos h4, firR, if_pos ⟨h1, h2, h3, by omega⟩, ev_bind (implFirV_ev t st l hl (by omega) hst)]
          exact Ev.now _
        · rw [ev_neg h4, firR, if_neg (by omega)]
          exact Ev.now _
      · rw [ev_neg h3, firR, if_neg (fun h => h3 h.2.2.1)]
        exact Ev.now _
    · rw [ev_neg h2, firR, if_neg (fun h => h2 h.2.1)]
      exact Ev.now _
  · rw [ev_neg h1, firR, if_neg (fun h => h1 h.1)]
    exact Ev.now _


theorem l10Taps_ev (l : List Int) (hl : l.length ≤ 2000000) : Ev (fun k => spec_l10Taps.f k l) (decide (1 ≤ l.length ∧ l.length ≤ 64) && inB 1000000 l) := by
  unfold spec_l10Taps.f
  simp only [l1In_eq, Option.bind_some]
  by_cases h1 : 1 ≤ (l.length : Int) ∧ (l.length : Int) ≤ 64
  · rw [ev_pos (by simpa using h1), ev_bind (l9Wide_ev l 1000000 hl (by omega) (by omega)), ev_some_iff, decide_eq_true (by omega), Bool.true_and]
  · rw [ev_neg (by simpa using h1), ev_some_iff, decide_eq_false (by omega), Bool.false_and]


theorem l5Sample_eq (a : Int) : spec_l5Sample.f a = some (decide (-1000000000 ≤ a ∧ a ≤ 1000000000)) := by
  unfold spec_l5Sample.f
  rw [l1In_eq]
  rfl
theorem specSig_ev (l : List Int) (hl : l.length ≤ 2000000) : Ev (fun k => spec_SignalOk.f k l) (sigB l) := by
  unfold spec_SignalOk.f
  rw [sigB, inB_range]
  rw [all_iff (fun k i => spec_SignalOk.l0 k l i) (fun i => decide (-1000000000 ≤ rd l (i : Int)) && decide (rd l (i : Int) ≤ 1000000000)) l.length _ false]
  · split
    · rename_i hp
      rw [hp, Bool.and_true]
      exact Ev.step (f := fun _ => some (decide (l.length ≤ 512))) (fun k => by simp only [spec_SignalOk.l0]; rw [if_neg (by omega)]; congr 1; rw [decide_eq_decide]; omega) (Ev.now _)
    · rename_i hp
      simp only [Bool.not_eq_true] at hp
      rw [hp, Bool.and_false]
  · intro i hi
    by_cases p : -1000000000 ≤ rd l (i : Int) ∧ rd l (i : Int) ≤ 1000000000
    · rw [if_pos (by simpa using p)]
      rw [ev_shift]
      simp only [spec_SignalOk.l0]
      rw [ev_pos (by omega), ev_pos (by omega), l5Sample_eq]
      simp only [Option.bind_some]
      rw [ev_pos (by simpa using p), w64 (by omega) (by omega)]
    · rw [if_neg (by simpa using p)]
      rw [ev_shift]
      simp only [spec_SignalOk.l0]
      rw [ev_pos (by omega), ev_pos (by omega), l5Sample_eq]
      simp only [Option.bind_some]
      rw [ev_neg (by simpa using p), ev_some_iff]

theorem specFirV_ev (t st l : List Int) (hl : l.length ≤ 2000000) (ht : t.length = st.length + 1) (hst : st.length ≤ 2000000) : Ev (fun k => spec_Fir.l0 k t l st [] 0) ((firV t st l).1, (firV t st l).2, true) := by
  have h := for_iff (fun k (s : List Int × List Int) i => spec_Fir.l0 k t l s.2 s.1 i) (firStep t l) (fun i s => s.1.length = i ∧ s.2.length = st.length) l.length ((firV t st l).1, (firV t st l).2, true) ?_ ([], st) ⟨rfl, rfl⟩
  · have hl2 := firV_length t st l
    rw [h.2, ev_shift]
    simp only [spec_Fir.l0, Option.bind_some, List.nil_append, List.length_nil]
    have e : iter (firStep t l) l.length ([], st) = firV t st l := rfl
    rw [e, ev_neg (by omega), ev_pos (by omega)]
    exact Ev.now _
  · rintro i ⟨out, past⟩ hi ⟨h1, h2⟩
    simp only at h1 h2
    refine ⟨by simp only [firStep, List.length_append, List.length_cons, List.length_nil, List.length_take]; omega, ?_⟩
    rw [ev_shift]
    simp only [spec_Fir.l0, Option.bind_some]
    rw [ev_pos (by omega), ev_pos (by omega), ev_pos (by simp; omega)]
    have g := for_iff (fun k c j => spec_Fir.l1 k t l out (i : Int) ([rd l (i : Int)] ++ past) c j) (fun j _ => wrap64 (dotS t (rd l (i : Int) :: past) (j + 1))) (fun j c => c = wrap64 (dotS t (rd l (i : Int) :: past) j)) t.length ((firV t st l).1, (firV t st l).2, true) ?_ 0 (by simp [dotS, wrap_zero])
    · rw [g.2, g.1, ev_shift]
      simp only [spec_Fir.l1]
      rw [ev_neg (by omega), ev_pos (by omega), w64 (n := (t.length : Int) - 1) (by omega) (by omega), ev_pos (by omega), ev_pos (by simp; omega), w64 (n := (i : Int) + 1) (by omega) (by omega)]
      simp only [firStep, List.singleton_append]
      have e : ((t.length : Int) - 1).toNat = past.length := by omega
      rw [e]
    · intro j c hj hc
      refine ⟨rfl, ?_⟩
      rw [ev_shift]
      simp only [spec_Fir.l1, List.singleton_append, List.length_cons]
      rw [ev_pos (by omega), ev_pos (by omega), ev_pos (by omega), w64 (n := (j : Int) + 1) (by omega) (by omega)]
      rw [wrap_fold _ _ _ hc, dotS]
theorem specFir_ev (t st l : List Int) (ht : t.length ≤ 2000000) (hst : st.length ≤ 2000000) (hl : l.length ≤ 2000000) : Ev (fun k => spec_Fir.f k t st l) (firR t st l) := by
  unfold spec_Fir.f
  have no : ¬ (tokB t = true ∧ sigB l = true ∧ sigB st = true ∧ st.length + 1 = t.length) → Ev (fun k => spec_Fir.j0 k t st l true) (firR t st l) := by
    intro h
    rw [ev_shift, firR, if_neg h]
    simp only [spec_Fir.j0, if_true]
    exact Ev.now _
  rw [ev_bind (l10Taps_ev t ht)]
  by_cases h1 : tokB t = true
  · rw [ev_pos (by exact h1), ev_bind (specSig_ev l hl)]
    by_cases h2 : sigB l = true
    · rw [ev_pos h2, ev_bind (specSig_ev st hst)]
      by_cases h3 : sigB st = true
      · rw [ev_pos h3, w64 (n := (t.length : Int) - 1) (by omega) (by omega)]
        have h1' := tokB_iff.1 h1
        by_cases h4 : (st.length : Int) = (t.length : Int) - 1
        · have e : ((st.length : Int) != (t.length : Int) - 1) = false := by simpa using h4
          rw [e, firR, if_pos ⟨h1, h2, h3, by omega⟩, ev_shift]
          simp only [spec_Fir.j0, Bool.false_eq_true, if_false, Option.bind_some, List.nil_append, List.length_nil]
          rw [ev_pos (by omega)]
          exact specFirV_ev t st l hl (by omega) hst
        · have e : ((st.length : Int) != (t.length : Int) - 1) = true := by simpa using h4
          rw [e]
          exact no (by omega)
      · rw [ev_neg h3]
        exact no (fun h => h3 h.2.2.1)
    · rw [ev_neg h2]
      exact no (fun h => h2 h.2.1)
  · rw [ev_neg (by exact h1)]
    exact no (fun h => h1 h.1)


/-! ### the convolution's numbers -/
def convAt (t l : List Int) (i : Nat) : Nat → Int
  | 0 => 0
  | n + 1 => convAt t l i n + rd t (n : Int) * (if n ≤ i then rd l ((i - n : Nat) : Int) else 0)
theorem convAt_succ (t l : List Int) (i n : Nat) : convAt t l i (n + 1) = convAt t l i n + rd t (n : Int) * (if n ≤ i then rd l ((i - n : Nat) : Int) else 0) := rfl

theorem rd_take {l : List Int} {m j : Nat} (h : j < m) : rd (l.take m) (j : Int) = rd l (j : Int) := by
  unfold rd
  rw [Int.toNat_natCast, List.getD_eq_getElem?_getD, List.getD_eq_getElem?_getD, List.getElem?_take_of_lt h]
theorem dot_conv (t l past : List Int) (i n : Nat) (hp : ∀ j, j + 1 < n → rd past (j : Int) = if j < i then rd l ((i - 1 - j : Nat) : Int) else 0) :
    ∀ m, m ≤ n → dotS t (rd l (i : Int) :: past) m = convAt t l i m := by
  intro m
  induction m with
  | zero => intro _; rfl
  | succ m ih =>
    intro hm
    rw [dotS, convAt_succ, ih (by omega)]
    congr 2
    cases m with
    | zero => simp [rd]
    | succ j =>
      have e1 : ((j + 1 : Nat) : Int) = (j : Int) + 1 := by omega
      rw [e1, rd_cons_succ, hp j (by omega)]
      by_cases c : j < i
      · rw [if_pos c, if_pos (by omega)]
        have e2 : i - 1 - j = i - (j + 1) := by omega
        rw [e2]
      · rw [if_neg c, if_neg (by omega)]
theorem firV_zero (t l : List Int) (n : Nat) (ht : t.length = n + 1) : (firV t (List.replicate n 0) l).1 = tab l.length fun i => wrap64 (convAt t l i t.length) := by
  unfold firV
  refine (iter_inv (fun i (s : List Int × List Int) => s.1 = tab i (fun i => wrap64 (convAt t l i t.length)) ∧ s.2.length = n ∧ ∀ j, j < n → rd s.2 (j : Int) = if j < i then rd l ((i - 1 - j : Nat) : Int) else 0) l.length _ ⟨rfl, by simp, fun j _ => by rw [rd_replicate]; simp⟩ ?_).1
  rintro i ⟨out, past⟩ hi ⟨h1, h2, h3⟩
  simp only at h1 h2 h3
  refine ⟨?_, ?_, ?_⟩
  · simp only [firStep]
    rw [h1, tab_succ, dot_conv t l past i t.length (fun j hj => h3 j (by omega)) t.length (Nat.le_refl _)]
  · simp only [firStep, List.length_take, List.length_cons]
    omega
  · intro j hj
    simp only [firStep]
    rw [h2, rd_take hj]
    cases j with
    | zero => simp [rd]
    | succ j =>
      have e1 : ((j + 1 : Nat) : Int) = (j : Int) + 1 := by omega
      rw [e1, rd_cons_succ, h3 j (by omega)]
      by_cases c : j < i
      · rw [if_pos c, if_pos (by omega)]
        have e2 : i - 1 - j = i + 1 - 1 - (j + 1) := by omega
        rw [e2]
      · rw [if_neg c, if_neg (by omega)]

theorem DrawCic_ev (b : List Int) (hb : b.length ≤ 2000000) : ∃ l r st, Ev (fun k => spec_DrawCic.f k b) (l, r, st) ∧ l.length ≤ 2000 := by
  unfold spec_DrawCic.f
  obtain ⟨h, e1⟩ := l1New_ev b hb
  obtain ⟨s, e2, hs0, hs1⟩ := l1Size_eq b 40 hb (by omega)
  obtain ⟨l, i, h', e3, hc, hl⟩ := l10DrawSmall_ev b 0 h s ⟨by omega, by omega, hb⟩ (by omega) (by omega)
  obtain ⟨r, i2, h2, e4, hc2, _⟩ := l1PickInt_ok b i h' [1, 2, 3, 4, 7, 32, 33, 0, 5] (by simp) hc
  obtain ⟨st, i3, h3, e5, _⟩ := l1PickInt_ok b i2 h2 [1, 2, 3, 5, 6, 0] (by simp) hc2
  refine ⟨l, r, st, ?_, by omega⟩
  rw [ev_bind e1]
  simp only [e2, Option.bind_some]
  rw [ev_bind e3]
  simp only [e4, e5, Option.bind_some]
  exact Ev.now _
def onesV (n : Nat) : List Int := tab n fun _ => 1
theorem conv_ones (l : List Int) (n i : Nat) : ∀ m, m ≤ n → convAt (onesV n) l i m = psum l (i + 1) - psum l (i + 1 - m) := by
  intro m
  induction m with
  | zero => intro _; simp [convAt]
  | succ m ih =>
    intro hm
    rw [convAt_succ, ih (by omega)]
    have e1 : rd (onesV n) (m : Int) = 1 := by unfold onesV; rw [rd_tab' (by omega)]
    rw [e1, Int.one_mul]
    by_cases c : m ≤ i
    · rw [if_pos c]
      have e2 : i + 1 - m = (i - m) + 1 := by omega
      have e3 : i + 1 - (m + 1) = i - m := by omega
      rw [e2, e3, psum_succ l (i - m)]
      omega
    · rw [if_neg c]
      have e2 : i + 1 - m = 0 := by omega
      have e3 : i + 1 - (m + 1) = 0 := by omega
      rw [e2, e3]
      omega
theorem fir_ones (l : List Int) (n : Nat) : (firV (onesV (n + 1)) (List.replicate n 0) l).1 = gathV l (n + 1) := by
  have hl : (onesV (n + 1)).length = n + 1 := by simp [onesV]
  rw [firV_zero _ _ n hl, hl]
  unfold gathV
  refine tab_congr fun i _ => ?_
  rw [conv_ones l (n + 1) i (n + 1) (Nat.le_refl _)]
theorem stagesLoop (l x : List Int) (n st : Nat) (hn : n < 16) (hst : st ≤ 5) (hl : l.length ≤ 512) (hx : cicV l (n + 1) st = x) : ∀ d s : Nat, s + d = st →
    Ev (fun k => laws_FnCic.l1 k ((n : Int) + 1) (st : Int) x (iter (fun _ y => gathV y (n + 1)) s l) (onesV (n + 1)) (s : Int)) true := by
  intro d
  induction d with
  | zero =>
    intro s hs
    have e : s = st := by omega
    subst e
    have hlen := stages_length l (n + 1) s
    rw [ev_shift]
    simp only [laws_FnCic.l1]
    rw [ev_neg (by omega), w64 (by omega) (by omega)]
    have e : (n : Int) + 1 - 1 = ((n : Nat) : Int) := by omega
    rw [e]
    have e2 : (n : Int) + 1 = ((n + 1 : Nat) : Int) := by omega
    rw [e2]
    refine thin_loop_then (fun k s i => laws_FnCic.l2 k ((n + 1 : Nat) : Int) x _ s i) (fun k s => (laws_sameInts.f k s x).bind fun t => some t) _ (n + 1) n true (fun _ _ _ => rfl) (by omega) (by omega) (by omega) (by omega) ?_
    have e3 : thinV (iter (fun _ y => gathV y (n + 1)) s l) (n + 1) n = x := by
      rw [← hx]
      unfold cicV
      rfl
    have hxl : x.length ≤ 2000000 := by
      have := thinV_length (iter (fun _ y => gathV y (n + 1)) s l) (n + 1) n (by omega)
      rw [e3] at this
      omega
    rw [e3, ev_bind (sameInts_ev x x hxl), decide_eq_true rfl]
    exact Ev.now _
  | succ d ih =>
    intro s hs
    have hlen := stages_length l (n + 1) s
    have g := ih (s + 1) (by omega)
    rw [iter_succ] at g
    generalize iter (fun _ y => gathV y (n + 1)) s l = now at *
    have e0 : ((n : Int) + 1 - 1).toNat = n := by omega
    have ho : (onesV (n + 1)).length = n + 1 := by simp [onesV]
    rw [ev_shift]
    simp only [laws_FnCic.l1]
    rw [ev_pos (by omega), w64 (n := (n : Int) + 1 - 1) (by omega) (by omega), ev_pos (by omega), e0, ev_pos (by omega)]
    rw [ev_bind (implFir_ev (onesV (n + 1)) (List.replicate n 0) now (by omega) (by rw [List.length_replicate]; omega) (by omega)), ev_bind (specFir_ev (onesV (n + 1)) (List.replicate n 0) now (by omega) (by rw [List.length_replicate]; omega) (by omega))]
    simp only [bne_self_eq_false, Bool.false_eq_true, if_false]
    have hgl := gathV_length now (n + 1)
    unfold firR
    by_cases h : tokB (onesV (n + 1)) = true ∧ sigB now = true ∧ sigB (List.replicate n 0) = true ∧ (List.replicate n (0 : Int)).length + 1 = (onesV (n + 1)).length
    · simp only [if_pos h, if_true, fir_ones]
      rw [ev_bind (specSig_ev (gathV now (n + 1)) (by omega)), w64 (n := (s : Int) + 1) (by omega) (by omega)]
      have e1 : ((s + 1 : Nat) : Int) = (s : Int) + 1 := by omega
      rw [e1] at g
      by_cases c : sigB (gathV now (n + 1)) = true
      · rw [ev_pos c]
        exact g
      · rw [ev_neg c]
        by_cases c2 : (s : Int) + 1 < (st : Int)
        · rw [ev_pos c2]
          exact Ev.now _
        · rw [ev_neg c2]
          exact g
    · simp only [if_neg h, Bool.false_eq_true, if_false]
      exact Ev.now _
theorem cic_small : cicR [1, 2, 3, 4] 2 1 = ([3, 7], true) := by
  have h : [(1 : Int), 2, 3, 4].length ≤ 512 ∧ inB 32767 [1, 2, 3, 4] = true ∧ 1 ≤ (2 : Int) ∧ (2 : Int) ≤ 32 ∧ 1 ≤ (1 : Int) ∧ (1 : Int) ≤ 5 := by decide
  unfold cicR
  rw [if_pos h]
  simp [cicV, iter, thinV, gathV, tab, psum, rd, wrap64, List.range_succ]
theorem FnCic : laws_FnCic.Pure := by
  intro l0 _ _ _
  refine Ev.rounds (g := fun k => laws_FnCic.f k l0) ?_
  simp only [laws_FnCic.f, big_eq, Option.bind_some]
  by_cases hlen : (l0.length : Int) > 1048576
  · rw [ev_pos (by simpa using hlen)]
    exact Ev.now _
  rw [ev_neg (by simpa using hlen)]
  obtain ⟨l, r, st, hd, hl⟩ := DrawCic_ev l0 (by omega)
  rw [ev_bind hd]
  simp only
  rw [ev_bind (implCic_ev l r st (by omega)), ev_bind (specCic_ev l r st (by omega))]
  simp only [bne_self_eq_false, Bool.false_eq_true, if_false]
  rw [ev_bind (implCic_ev [1, 2, 3, 4] 2 1 (by simp)), cic_small]
  simp only [if_true]
  rw [ev_bind (sameInts_ev [3, 7] [3, 7] (by simp)), decide_eq_true rfl, ev_shift]
  simp only [laws_FnCic.j0, Bool.not_true, Bool.false_eq_true, if_false]
  have yes : ∀ x, Ev (fun k => laws_FnCic.j1 k l r st x true) true := by
    intro x
    rw [ev_shift]
    simp only [laws_FnCic.j1, if_true]
    exact Ev.now _
  unfold cicR
  by_cases h : l.length ≤ 512 ∧ inB 32767 l = true ∧ 1 ≤ r ∧ r ≤ 32 ∧ 1 ≤ st ∧ st ≤ 5
  · simp only [if_pos h, if_true]
    by_cases c : r > 16
    · rw [decide_eq_true c]
      exact yes _
    · rw [decide_eq_false c, ev_shift]
      simp only [laws_FnCic.j1, Bool.false_eq_true, if_false]
      obtain ⟨n, rfl⟩ : ∃ n : Nat, r = (n : Int) + 1 := ⟨(r - 1).toNat, by omega⟩
      obtain ⟨m, rfl⟩ : ∃ m : Nat, st = (m : Int) := ⟨st.toNat, by omega⟩
      have en : ((n : Int) + 1).toNat = n + 1 := by omega
      rw [en, Int.toNat_natCast]
      have g := for_iff (fun k s i => laws_FnCic.l0 k ((n : Int) + 1) (m : Int) (cicV l (n + 1) m) l s i) (fun _ s => s ++ [1]) (fun i s => s.length = i) (n + 1) true ?_ [] rfl
      · rw [g.2, iter_push, List.nil_append, ev_shift]
        simp only [laws_FnCic.l0]
        rw [ev_neg (by omega)]
        exact stagesLoop l _ n m (by omega) (by omega) h.1 rfl m 0 (by omega)
      · intro i s hi hs
        refine ⟨by simp [hs], ?_⟩
        rw [ev_shift]
        simp only [laws_FnCic.l0]
        rw [ev_pos (by omega), ev_pos (by omega), w64 (by omega) (by omega)]
  · simp only [if_neg h, Bool.false_eq_true, if_false]
    exact yes _

end Go.Proofs.Ytinpmpdkoedjnaa.Pure
