/- The pure part of FnFirConvolves: taps run from a state of noughts tell the beginning of the convolution. No conditions. -/
import Derived.Test.YtinpmpdkoedjnaaQFnFirConvolvesx5
import Derived.Test.YtinpmpdkoedjnaaBase
namespace Go.Proofs.Ytinpmpdkoedjnaa.Pure
open Go.RowKit Go.Proofs.Ytinpmpdkoedjnaa.QFnFirConvolves Go.Proofs.YtinpmpdkoedjnaaW.PrintWords Go.Proofs.YtinpmpdkoedjnaaW.PrintLast
open Go.Proofs.Ytinpmpdkoedjnaa.Base
set_option linter.unusedVariables false
set_option linter.unusedSimpArgs false
/-! ### the cursor of a draw -/
def CurOk (b : List Int) (i : Int) : Prop := 0 ≤ i ∧ i ≤ (b.length : Int) ∧ b.length ≤ 2000000
theorem l1New_ev (b : List Int) (hb : b.length ≤ 2000000) : ∃ h, Ev (fun k => spec_l1New.f k b) (b, 0, h) := by
  unfold spec_l1New.f
  refine ⟨iter (fun i h => Go.bits .and .i64 (wrap64 ((wrap64 ((wrap64 (h * 131)) + (wrap64 (rd b (i : Int))))) + 7)) 1073741823) (min b.length 4000) (wrap64 (71933 + (b.length : Int))), ?_⟩
  rw [(for_iff (fun k h i => spec_l1New.l0 k b h i) (fun i h => Go.bits .and .i64 (wrap64 ((wrap64 ((wrap64 (h * 131)) + (wrap64 (rd b (i : Int))))) + 7)) 1073741823) (fun _ _ => True) (min b.length 4000) _ ?_ _ trivial).2]
  · rw [ev_shift]
    simp only [spec_l1New.l0]
    by_cases h : ((min b.length 4000 : Nat) : Int) < (b.length : Int)
    · rw [ev_pos h, ev_neg (by omega)]
      exact Ev.now _
    · rw [ev_neg h]
      exact Ev.now _
  · intro i s hi _
    refine ⟨trivial, ?_⟩
    rw [ev_shift]
    simp only [spec_l1New.l0]
    rw [ev_pos (by omega), ev_pos (by omega), ev_pos (by omega), w64 (n := (i : Int) + 1) (by omega) (by omega)]
theorem l1Byte_ok (b : List Int) (i h : Int) (hc : CurOk b i) : ∃ x i' h', spec_l1Byte.f b i h = some (x, i', h') ∧ CurOk b i' ∧ 0 ≤ x ∧ x ≤ 255 := by
  obtain ⟨h0, h1, h2⟩ := hc
  unfold spec_l1Byte.f
  by_cases c : i < (b.length : Int)
  · rw [if_pos c, if_pos h0]
    have := band_range
    refine ⟨_, _, _, rfl, ⟨?_, ?_, h2⟩, (band_range _ 255 (by omega) (by omega)).1, (band_range _ 255 (by omega) (by omega)).2⟩
    · rw [w64 (by omega) (by omega)]; omega
    · rw [w64 (by omega) (by omega)]; omega
  · rw [if_neg c]
    exact ⟨_, _, _, rfl, ⟨h0, h1, h2⟩, (band_range _ 255 (by omega) (by omega)).1, (band_range _ 255 (by omega) (by omega)).2⟩
theorem l1Below_ok (b : List Int) (i h n : Int) (hc : CurOk b i) : ∃ x i' h', spec_l1Below.f b i h n = some (x, i', h') ∧ CurOk b i' ∧ 0 ≤ x ∧ (0 < n → x < n) ∧ (n ≤ 0 → x = 0) := by
  unfold spec_l1Below.f
  by_cases c : n ≤ 0
  · rw [if_pos c]
    exact ⟨_, _, _, rfl, hc, by omega, by omega, fun _ => rfl⟩
  · rw [if_neg c]
    by_cases d : n ≤ 256
    · rw [if_pos d]
      obtain ⟨x, i1, h1, e, hc1, hx0, hx1⟩ := l1Byte_ok b i h hc
      rw [e]
      simp only [Option.bind_some]
      rw [if_neg (by omega)]
      refine ⟨_, _, _, rfl, hc1, ?_, fun _ => ?_, fun h => absurd h c⟩
      · exact Int.tmod_nonneg _ hx0
      · exact Int.tmod_lt_of_pos _ (by omega)
    · rw [if_neg d]
      obtain ⟨x, i1, h1, e, hc1, hx0, hx1⟩ := l1Byte_ok b i h hc
      rw [e]
      simp only [Option.bind_some]
      obtain ⟨y, i2, h2, e, hc2, hy0, hy1⟩ := l1Byte_ok b i1 h1 hc1
      rw [e]
      simp only [Option.bind_some]
      obtain ⟨z, i3, h3, e, hc3, hz0, hz1⟩ := l1Byte_ok b i2 h2 hc2
      rw [e]
      simp only [Option.bind_some]
      obtain ⟨w, i4, h4, e, hc4, hw0, hw1⟩ := l1Byte_ok b i3 h3 hc3
      rw [e]
      simp only [Option.bind_some]
      rw [if_neg (by omega)]
      refine ⟨_, _, _, rfl, hc4, ?_, fun _ => ?_, fun h => absurd h c⟩
      · refine Int.tmod_nonneg _ ?_
        rw [w64 (n := x * 16777216) (by omega) (by omega), w64 (n := y * 65536) (by omega) (by omega), w64 (n := z * 256) (by omega) (by omega), w64 (n := x * 16777216 + y * 65536) (by omega) (by omega), w64 (n := x * 16777216 + y * 65536 + z * 256) (by omega) (by omega), w64 (by omega) (by omega)]
        omega
      · exact Int.tmod_lt_of_pos _ (by omega)
theorem l1Once_ok (b : List Int) (i h n : Int) (hc : CurOk b i) : ∃ t i' h', spec_l1Once.f b i h n = some (t, i', h') ∧ CurOk b i' := by
  unfold spec_l1Once.f
  obtain ⟨x, i1, h1, e, hc1, _⟩ := l1Below_ok b i h n hc
  rw [e]
  exact ⟨_, _, _, rfl, hc1⟩

theorem l1PickInt_ok (b : List Int) (i h : Int) (l : List Int) (hl : 0 < l.length) (hc : CurOk b i) : ∃ x i' h', spec_l1PickInt.f b i h l = some (x, i', h') ∧ CurOk b i' ∧ x ∈ l := by
  unfold spec_l1PickInt.f
  obtain ⟨x, i1, h1, e, hc1, h0, hx, _⟩ := l1Below_ok b i h (l.length : Int) hc
  rw [e]
  simp only [Option.bind_some]
  have := hx (by omega)
  rw [if_pos h0, if_pos this]
  exact ⟨_, _, _, rfl, hc1, rd_mem h0 this⟩

theorem l1Size_eq (l : List Int) (m : Int) (hl : l.length ≤ 2000000) (hm : 2 ≤ m) : ∃ s, spec_l1Size.f l m = some s ∧ 2 ≤ s ∧ s ≤ m := by
  unfold spec_l1Size.f
  rw [w64 (n := (l.length : Int) / 20) (by omega) (by omega), w64 (by omega) (by omega)]
  by_cases h : 2 + (l.length : Int) / 20 > m
  · rw [if_pos h]
    exact ⟨m, rfl, hm, by omega⟩
  · rw [if_neg h]
    exact ⟨_, rfl, by omega, by omega⟩

theorem l6DrawTapsLoop (b : List Int) : ∀ (n : Nat) (s : List Int) (i h : Int), CurOk b i → s.length + n ≤ 1000000 →
    ∃ r i' h', Ev (fun k => spec_l6DrawTaps.l0 k s (n : Int) b i h) (r, i', h') ∧ CurOk b i' ∧ r.length ≤ s.length + n + 1 := by
  intro n
  induction n with
  | zero =>
    intro s i h hc hn
    obtain ⟨t, i1, h1, e, hc1⟩ := l1Once_ok b i h 40 hc
    by_cases ht : t = true
    · obtain ⟨x, i2, h2, e2, hc2, _⟩ := l1PickInt_ok b i1 h1 [1000001, (-1000001)] (by simp) hc1
      refine ⟨s ++ [x], i2, h2, ?_, hc2, by simp⟩
      rw [ev_shift]
      simp only [spec_l6DrawTaps.l0, e, Option.bind_some]
      rw [ev_neg (by omega), ev_pos ht]
      simp only [e2, Option.bind_some]
      rw [ev_pos (by omega)]
      exact Ev.now _
    · refine ⟨s, i1, h1, ?_, hc1, by omega⟩
      rw [ev_shift]
      simp only [spec_l6DrawTaps.l0, e, Option.bind_some]
      rw [ev_neg (by omega), ev_neg ht]
      exact Ev.now _
  | succ n ih =>
    intro s i h hc hn
    obtain ⟨x, i1, h1, e, hc1, _⟩ := l1Below_ok b i h 41 hc
    obtain ⟨t, i2, h2, e2, hc2⟩ := l1Once_ok b i1 h1 20 hc1
    have e9 : ((n + 1 : Nat) : Int) - 1 = (n : Int) := by omega
    by_cases ht : t = true
    · obtain ⟨y, i3, h3, e3, hc3, _⟩ := l1PickInt_ok b i2 h2 [1000000, (-1000000), 999] (by simp) hc2
      obtain ⟨r, i4, h4, e4, hc4, hr⟩ := ih ((s ++ [wrap64 (x - 20)]).set ((((s ++ [wrap64 (x - 20)]).length : Int) - 1).toNat) y) i3 h3 hc3 (by simp; omega)
      have el : (s ++ [wrap64 (x - 20)]).length = s.length + 1 := by simp
      refine ⟨r, i4, h4, ?_, hc4, by simp at hr; omega⟩
      rw [ev_shift]
      simp only [spec_l6DrawTaps.l0, e, Option.bind_some]
      rw [ev_pos (by omega), ev_pos (by omega)]
      simp only [e2, Option.bind_some]
      rw [ev_pos ht]
      simp only [e3, Option.bind_some]
      rw [w64 (n := ((s ++ [wrap64 (x - 20)]).length : Int) - 1) (by omega) (by omega), ev_pos (by omega), ev_pos (by omega), w64 (n := ((n + 1 : Nat) : Int) - 1) (by omega) (by omega), e9]
      exact e4
    · obtain ⟨r, i4, h4, e4, hc4, hr⟩ := ih (s ++ [wrap64 (x - 20)]) i2 h2 hc2 (by simp; omega)
      refine ⟨r, i4, h4, ?_, hc4, by simp at hr; omega⟩
      rw [ev_shift]
      simp only [spec_l6DrawTaps.l0, e, Option.bind_some]
      rw [ev_pos (by omega), ev_pos (by omega)]
      simp only [e2, Option.bind_some]
      rw [ev_neg ht, w64 (n := ((n + 1 : Nat) : Int) - 1) (by omega) (by omega), e9]
      exact e4
theorem l6DrawTaps_ev (b : List Int) (i h m : Int) (hc : CurOk b i) (h0 : 0 ≤ m) (h1 : m ≤ 1000) :
    ∃ r i' h', Ev (fun k => spec_l6DrawTaps.f k b i h m) (r, i', h') ∧ CurOk b i' ∧ (r.length : Int) ≤ m + 1 := by
  unfold spec_l6DrawTaps.f
  rw [w64 (by omega) (by omega)]
  obtain ⟨x, i1, h1', e, hc1, hx0, hx, _⟩ := l1Below_ok b i h (m + 1) hc
  rw [e]
  simp only [Option.bind_some]
  have := hx (by omega)
  obtain ⟨r, i2, h2, e2, hc2, hr⟩ := l6DrawTapsLoop b x.toNat [] i1 h1' hc1 (by simp; omega)
  rw [Int.toNat_of_nonneg hx0] at e2
  exact ⟨r, i2, h2, e2, hc2, by simp at hr; omega⟩

theorem sameInts_ev (a b : List Int) (h : a.length ≤ 2000000) : Ev (fun k => laws_sameInts.f k a b) (decide (a = b)) := by
  unfold laws_sameInts.f
  by_cases e : a.length = b.length
  · rw [ev_pos (by omega)]
    rw [all_iff (fun k i => laws_sameInts.l0 k a b i) (fun i => decide (rd a (i : Int) = rd b (i : Int))) a.length _ false]
    · split
      · rename_i hp
        have : a = b := list_ext_rd e fun i hi => by simpa using range_all.1 hp i hi
        rw [decide_eq_true this]
        exact Ev.step (fun k => by simp only [laws_sameInts.l0]; rw [if_neg (by omega)]) (Ev.now _)
      · rename_i hp
        have : ¬ a = b := fun h => hp (by subst h; rw [range_all]; simp)
        simp [this]
    · intro i hi
      by_cases p : rd a (i : Int) = rd b (i : Int)
      · rw [if_pos (by simpa using p)]
        rw [ev_shift]
        simp only [laws_sameInts.l0]
        rw [ev_pos (by omega), ev_pos (by omega), ev_pos (by omega), ev_pos p, w64 (by omega) (by omega)]
      · rw [if_neg (by simpa using p)]
        rw [ev_shift]
        simp only [laws_sameInts.l0]
        rw [ev_pos (by omega), ev_pos (by omega), ev_pos (by omega), ev_neg p, ev_some_iff]
  · rw [ev_neg (by omega)]
    have : ¬ a = b := fun h => e (by rw [h])
    simp only [this, decide_false]
    exact Ev.now _
theorem big_eq (l : List Int) : laws_big.f l = some (decide ((l.length : Int) > 1048576)) := rfl

theorem clone_eq (l : List Int) (h : l.length ≤ 2000000) : slices_Clone_int_int.f l = some l := by
  unfold slices_Clone_int_int.f
  simp only [Option.bind_some, List.nil_append, List.length_nil]
  rw [if_pos (by omega)]

/-! ### Fir -/
def firStep (t l : List Int) (i : Nat) (s : List Int × List Int) : List Int × List Int :=
  (s.1 ++ [wrap64 (dotS t (rd l (i : Int) :: s.2) t.length)], (rd l (i : Int) :: s.2).take s.2.length)
def firV (t st l : List Int) : List Int × List Int := iter (firStep t l) l.length ([], st)
theorem firV_length (t st l : List Int) : (firV t st l).1.length = l.length ∧ (firV t st l).2.length = st.length := by
  unfold firV
  refine iter_inv (fun i (s : List Int × List Int) => s.1.length = i ∧ s.2.length = st.length) l.length _ ⟨rfl, rfl⟩ fun i s _ hs => ?_
  simp only [firStep, List.length_append, List.length_cons, List.length_nil, List.length_take]
  omega
theorem rd_cons_succ (x : Int) (l : List Int) (k : Nat) : rd (x :: l) ((k : Int) + 1) = rd l (k : Int) := by
  have : ((k : Int) + 1).toNat = k + 1 := by omega
  unfold rd
  rw [this, Int.toNat_natCast]
  rfl
theorem rd_cons_zero (x : Int) (l : List Int) : rd (x :: l) 0 = x := rfl
theorem wrap_fold (a b c : Int) (h : a = wrap64 b) : wrap64 (a + wrap64 c) = wrap64 (b + c) := by rw [h, wrap_add_l, wrap_add_r]
theorem implFirV_ev (t st l : List Int) (hl : l.length ≤ 2000000) (ht : t.length = st.length + 1) (hst : st.length ≤ 2000000) : Ev (fun k => impl_fir.f k t st l) (firV t st l) := by
  unfold impl_fir.f
  rw [clone_eq st hst]
  simp only [Option.bind_some]
  have h := for_iff (fun k (s : List Int × List Int) i => impl_fir.l0 k t s.2 s.1 l (l.length : Int) i) (firStep t l) (fun i s => s.1.length = i ∧ s.2.length = st.length) l.length (firV t st l) ?_ ([], st) ⟨rfl, rfl⟩
  · rw [h.2, ev_shift]
    simp only [impl_fir.l0]
    rw [ev_neg (by omega)]
    exact Ev.now _
  · rintro i ⟨out, past⟩ hi ⟨h1, h2⟩
    simp only at h1 h2
    refine ⟨by simp only [firStep, List.length_append, List.length_cons, List.length_nil, List.length_take]; omega, ?_⟩
    rw [ev_shift]
    simp only [impl_fir.l0]
    rw [ev_pos (by omega), ev_pos (by omega), ev_pos (by omega), ev_pos (by omega)]
    have g := for_iff (fun k c j => impl_fir.l1 k t past out (rd l (i : Int)) c l (l.length : Int) (i : Int) past (past.length : Int) j) (fun j _ => wrap64 (dotS t (rd l (i : Int) :: past) (j + 1 + 1))) (fun j c => c = wrap64 (dotS t (rd l (i : Int) :: past) (j + 1))) past.length (firV t st l) ?_ (wrap64 (rd t 0 * rd l (i : Int))) ?_
    · rw [g.2, g.1, ev_shift]
      simp only [impl_fir.l1, Option.bind_some]
      rw [ev_neg (by omega), ev_pos (by omega), ev_pos (by simp; omega), ev_pos (by omega), ev_pos (by simp; omega), w64 (n := (i : Int) + 1) (by omega) (by omega)]
      simp only [firStep, Int.toNat_natCast, List.singleton_append]
      have e : past.length + 1 = t.length := by omega
      rw [e]
    · intro j c hj hc
      refine ⟨rfl, ?_⟩
      rw [ev_shift]
      simp only [impl_fir.l1]
      rw [w64 (n := 1 + (j : Int)) (by omega) (by omega), ev_pos (by omega), ev_pos (by omega), ev_pos (by omega), ev_pos (by omega), ev_pos (by omega), w64 (n := (j : Int) + 1) (by omega) (by omega)]
      rw [wrap_fold _ _ _ hc]
      have e : dotS t (rd l (i : Int) :: past) (j + 1 + 1) = dotS t (rd l (i : Int) :: past) (j + 1) + rd t (1 + (j : Int)) * rd past (j : Int) := by
        rw [dotS]
        have e1 : ((j + 1 : Nat) : Int) = (j : Int) + 1 := by omega
        rw [e1, rd_cons_succ, Int.add_comm (j : Int) 1]
      rw [e]
    · have e : dotS t (rd l (i : Int) :: past) (0 + 1) = rd t 0 * rd l (i : Int) := by
        show 0 + rd t ((0 : Nat) : Int) * rd (rd l (i : Int) :: past) ((0 : Nat) : Int) = _
        rw [Int.zero_add]
        rfl
      rw [e]

theorem within_ev (l : List Int) (m : Int) (hl : l.length ≤ 2000000) (h0 : 0 ≤ m) (h1 : m ≤ 1000000000000) : Ev (fun k => impl_within.f k l m) (inB m l) := by
  unfold impl_within.f
  rw [inB_range]
  rw [all_iff (fun k i => impl_within.l0 k m l (l.length : Int) i) (fun i => decide (-m ≤ rd l (i : Int)) && decide (rd l (i : Int) ≤ m)) l.length _ false]
  · split
    · rename_i hp
      rw [hp]
      exact Ev.step (fun k => by simp only [impl_within.l0]; rw [if_neg (by omega)]) (Ev.now _)
    · rename_i hp
      simpa using hp
  · intro i hi
    by_cases p : -m ≤ rd l (i : Int) ∧ rd l (i : Int) ≤ m
    · rw [if_pos (by simpa using p)]
      rw [ev_shift]
      simp only [impl_within.l0]
      rw [ev_pos (by omega), ev_pos (by omega), ev_pos (by omega), w64 (n := -m) (by omega) (by omega), ev_neg (by omega), ev_neg (by omega), w64 (by omega) (by omega)]
    · rw [if_neg (by simpa using p)]
      rw [ev_shift]
      simp only [impl_within.l0]
      rw [ev_pos (by omega), ev_pos (by omega), ev_pos (by omega), w64 (n := -m) (by omega) (by omega)]
      by_cases q : rd l (i : Int) < -m
      · rw [ev_pos q, ev_some_iff]
      · rw [ev_neg q, ev_pos (by omega), ev_some_iff]

theorem implSig_ev (l : List Int) (hl : l.length ≤ 2000000) : Ev (fun k => impl_SignalOk.f k l) (sigB l) := by
  unfold impl_SignalOk.f
  by_cases h : (l.length : Int) ≤ 512
  · rw [ev_pos h]
    rw [ev_bind (within_ev l 1000000000 hl (by omega) (by omega)), ev_some_iff, sigB, decide_eq_true (by omega : l.length ≤ 512), Bool.true_and]
  · rw [ev_neg h]
    rw [ev_some_iff, sigB, decide_eq_false (by omega : ¬ l.length ≤ 512), Bool.false_and]

def tokB (l : List Int) : Bool := decide (1 ≤ l.length ∧ l.length ≤ 64) && inB 1000000 l
theorem tokB_iff {l : List Int} : tokB l = true ↔ 1 ≤ l.length ∧ l.length ≤ 64 ∧ inB 1000000 l = true := by simp [tokB, and_assoc]
theorem tapsOk_ev (l : List Int) (hl : l.length ≤ 2000000) : Ev (fun k => impl_tapsOk.f k l) (tokB l) := by
  unfold impl_tapsOk.f tokB
  by_cases h1 : (l.length : Int) ≥ 1
  · rw [ev_pos h1]
    by_cases h2 : (l.length : Int) ≤ 64
    · rw [ev_pos h2, ev_bind (within_ev l 1000000 hl (by omega) (by omega)), ev_some_iff, decide_eq_true (by omega), Bool.true_and]
    · rw [ev_neg h2, ev_some_iff, decide_eq_false (by omega), Bool.false_and]
  · rw [ev_neg h1, ev_some_iff, decide_eq_false (by omega), Bool.false_and]
open Classical in
noncomputable def firR (t st l : List Int) : List Int × List Int × Bool :=
  if tokB t = true ∧ sigB l = true ∧ sigB st = true ∧ st.length + 1 = t.length then ((firV t st l).1, (firV t st l).2, true) else ([], [], false)
theorem firR_length (t st l : List Int) : (firR t st l).1.length ≤ 2000000 ∧ (firR t st l).2.1.length ≤ 2000000 := by
  unfold firR
  split
  · rename_i h
    have h1 := firV_length t st l
    have h2 := (sigB_iff.1 h.2.1).1
    have h3 := (sigB_iff.1 h.2.2.1).1
    exact ⟨by show (firV t st l).1.length ≤ _; omega, by show (firV t st l).2.length ≤ _; omega⟩
  · exact ⟨by simp, by simp⟩
theorem implFir_ev (t st l : List Int) (ht : t.length ≤ 2000000) (hst : st.length ≤ 2000000) (hl : l.length ≤ 2000000) : Ev (fun k => impl_Fir.f k t st l) (firR t st l) := by
  unfold impl_Fir.f
  rw [ev_bind (tapsOk_ev t ht)]
  by_cases h1 : tokB t = true
  · rw [ev_pos h1, ev_bind (implSig_ev l hl)]
    by_cases h2 : sigB l = true
    · rw [ev_pos h2, ev_bind (implSig_ev st hst)]
      by_cases h3 : sigB st = true
      · rw [ev_pos h3, w64 (n := (t.length : Int) - 1) (by omega) (by omega)]
        have h1' := tokB_iff.1 h1
        by_cases h4 : (st.length : Int) = (t.length : Int) - 1
        · rw [ev_pos h4, firR, if_pos ⟨h1, h2, h3, by omega⟩, ev_bind (implFirV_ev t st l hl (by omega) hst)]
          exact Ev.now _
        · rw [ev_neg h4, firR, if_neg (by omega)]
          exact Ev.now _
      · rw [ev_neg h3, firR, if_neg (fun h => h3 h.2.2.1)]
        exact Ev.now _
    · rw [ev_neg h2, firR, if_neg (fun h => h2 h.2.1)]
      exact Ev.now _
  · rw [ev_neg h1, firR, if_neg (fun h => h1 h.1)]
    exact Ev.now _


/-! ### the convolution's numbers -/
def convAt (t l : List Int) (i : Nat) : Nat → Int
  | 0 => 0
  | n + 1 => convAt t l i n + rd t (n : Int) * (if n ≤ i then rd l ((i - n : Nat) : Int) else 0)
theorem convAt_succ (t l : List Int) (i n : Nat) : convAt t l i (n + 1) = convAt t l i n + rd t (n : Int) * (if n ≤ i then rd l ((i - n : Nat) : Int) else 0) := rfl

theorem rd_take {l : List Int} {m j : Nat} (h : j < m) : rd (l.take m) (j : Int) = rd l (j : Int) := by
  unfold rd
  rw [Int.toNat_natCast, List.getD_eq_getElem?_getD, List.getD_eq_getElem?_getD, List.getElem?_take_of_lt h]
theorem dot_conv (t l past : List Int) (i n : Nat) (hp : ∀ j, j + 1 < n → rd past (j : Int) = if j < i then rd l ((i - 1 - j : Nat) : Int) else 0) :
    ∀ m, m ≤ n → dotS t (rd l (i : Int) :: past) m = convAt t l i m := by
  intro m
  induction m with
  | zero => intro _; rfl
  | succ m ih =>
    intro hm
    rw [dotS, convAt_succ, ih (by omega)]
    congr 2
    cases m with
    | zero => simp [rd]
    | succ j =>
      have e1 : ((j + 1 : Nat) : Int) = (j : Int) + 1 := by omega
      rw [e1, rd_cons_succ, hp j (by omega)]
      by_cases c : j < i
      · rw [if_pos c, if_pos (by omega)]
        have e2 : i - 1 - j = i - (j + 1) := by omega
        rw [e2]
      · rw [if_neg c, if_neg (by omega)]
theorem firV_zero (t l : List Int) (n : Nat) (ht : t.length = n + 1) : (firV t (List.replicate n 0) l).1 = tab l.length fun i => wrap64 (convAt t l i t.length) := by
  unfold firV
  refine (iter_inv (fun i (s : List Int × List Int) => s.1 = tab i (fun i => wrap64 (convAt t l i t.length)) ∧ s.2.length = n ∧ ∀ j, j < n → rd s.2 (j : Int) = if j < i then rd l ((i - 1 - j : Nat) : Int) else 0) l.length _ ⟨rfl, by simp, fun j _ => by rw [rd_replicate]; simp⟩ ?_).1
  rintro i ⟨out, past⟩ hi ⟨h1, h2, h3⟩
  simp only at h1 h2 h3
  refine ⟨?_, ?_, ?_⟩
  · simp only [firStep]
    rw [h1, tab_succ, dot_conv t l past i t.length (fun j hj => h3 j (by omega)) t.length (Nat.le_refl _)]
  · simp only [firStep, List.length_take, List.length_cons]
    omega
  · intro j hj
    simp only [firStep]
    rw [h2, rd_take hj]
    cases j with
    | zero => simp [rd]
    | succ j =>
      have e1 : ((j + 1 : Nat) : Int) = (j : Int) + 1 := by omega
      rw [e1, rd_cons_succ, h3 j (by omega)]
      by_cases c : j < i
      · rw [if_pos c, if_pos (by omega)]
        have e2 : i - 1 - j = i + 1 - 1 - (j + 1) := by omega
        rw [e2]
      · rw [if_neg c, if_neg (by omega)]

theorem l1In_eq (a b c : Int) : spec_l1In.f a b c = some (decide (b ≤ a ∧ a ≤ c)) := by
  unfold spec_l1In.f
  by_cases h : a ≥ b
  · rw [if_pos h]
    congr 1
    rw [decide_eq_decide]
    omega
  · rw [if_neg h]
    congr 1
    symm
    rw [decide_eq_false_iff_not]
    omega

theorem specTaps_ev (l : List Int) (hl : l.length ≤ 2000000) : Ev (fun k => spec_l6Taps.f k l) (tapB l) := by
  unfold spec_l6Taps.f
  rw [tapB, inB_range]
  rw [all_iff (fun k i => spec_l6Taps.l0 k l i) (fun i => decide (-1000000 ≤ rd l (i : Int)) && decide (rd l (i : Int) ≤ 1000000)) l.length _ false]
  · split
    · rename_i hp
      rw [hp, Bool.and_true]
      exact Ev.step (f := fun _ => some (decide (l.length ≤ 256))) (fun k => by simp only [spec_l6Taps.l0]; rw [if_neg (by omega)]; congr 1; rw [decide_eq_decide]; omega) (Ev.now _)
    · rename_i hp
      simp only [Bool.not_eq_true] at hp
      rw [hp, Bool.and_false]
  · intro i hi
    by_cases p : -1000000 ≤ rd l (i : Int) ∧ rd l (i : Int) ≤ 1000000
    · rw [if_pos (by simpa using p)]
      rw [ev_shift]
      simp only [spec_l6Taps.l0]
      rw [ev_pos (by omega), ev_pos (by omega), l1In_eq]
      simp only [Option.bind_some]
      rw [ev_pos (by simpa using p), w64 (by omega) (by omega)]
    · rw [if_neg (by simpa using p)]
      rw [ev_shift]
      simp only [spec_l6Taps.l0]
      rw [ev_pos (by omega), ev_pos (by omega), l1In_eq]
      simp only [Option.bind_some]
      rw [ev_neg (by simpa using p), ev_some_iff]


theorem implTaps_ev (l : List Int) (hl : l.length ≤ 2000000) : Ev (fun k => impl_taps.f k l) (tapB l) := by
  unfold impl_taps.f
  by_cases h : (l.length : Int) ≤ 256
  · rw [ev_pos h]
    rw [ev_bind (within_ev l 1000000 hl (by omega) (by omega)), ev_some_iff, tapB, decide_eq_true (by omega : l.length ≤ 256), Bool.true_and]
  · rw [ev_neg h]
    rw [ev_some_iff, tapB, decide_eq_false (by omega : ¬ l.length ≤ 256), Bool.false_and]


/-! ### Convolve -/
def convV (a b : List Int) : List Int := tab (a.length + b.length - 1) fun m => wrap64 (convAt a b m a.length)
/-- One round: x times the list b, laid upon s from place i on, the first j of b. -/
def addAt (b : List Int) (i : Nat) (x : Int) (s : Nat → Int) (j : Nat) (m : Nat) : Int := s m + (if i ≤ m ∧ m - i < j then x * rd b ((m - i : Nat) : Int) else 0)
theorem addAt_zero (b : List Int) (i : Nat) (x : Int) (s : Nat → Int) (m : Nat) : addAt b i x s 0 m = s m := by simp [addAt]
theorem addAt_succ (b : List Int) (i : Nat) (x : Int) (s : Nat → Int) (j m : Nat) : addAt b i x s (j + 1) m = addAt b i x s j m + (if m = i + j then x * rd b (j : Int) else 0) := by
  unfold addAt
  by_cases h : m = i + j
  · subst h
    rw [if_pos (by omega), if_neg (by omega), if_pos rfl]
    have e : i + j - i = j := by omega
    rw [e]
    omega
  · rw [if_neg h]
    by_cases c : i ≤ m ∧ m - i < j
    · rw [if_pos (by omega), if_pos c]
      omega
    · rw [if_neg (by omega), if_neg c]
      omega
theorem addAt_all (a b : List Int) (i m : Nat) : addAt b i (rd a (i : Int)) (fun m => convAt a b m i) b.length m = convAt a b m (i + 1) := by
  unfold addAt
  rw [convAt_succ]
  congr 1
  by_cases c : i ≤ m
  · rw [if_pos c]
    by_cases d : m - i < b.length
    · rw [if_pos ⟨c, d⟩]
    · rw [if_neg (by omega), rd_out (l := b) (i := ((m - i : Nat) : Int)) (by omega), Int.mul_zero]
  · rw [if_neg (by omega), if_neg c, Int.mul_zero]
theorem set_tab {n p : Nat} (g : Nat → Int) (v : Int) (hp : p < n) : (tab n g).set p v = tab n fun m => if m = p then v else g m := by
  refine eq_tab (by simp) fun i hi => ?_
  have h := rd_set (l := tab n g) (i := (i : Int)) (j := (p : Int)) (v := v) (by omega) (by simpa using hp) (by omega)
  rw [Int.toNat_natCast] at h
  rw [h]
  by_cases c : i = p
  · subst c
    rw [if_pos rfl, if_pos rfl]
  · rw [if_neg (by omega), if_neg c, rd_tab' hi]
theorem addAt_set {n i j : Nat} (b : List Int) (x : Int) (s : Nat → Int) (h : i + j < n) :
    (tab n fun m => wrap64 (addAt b i x s j m)).set (i + j) (wrap64 (wrap64 (addAt b i x s j (i + j)) + wrap64 (x * rd b (j : Int)))) = tab n fun m => wrap64 (addAt b i x s (j + 1) m) := by
  rw [set_tab _ _ h]
  refine tab_congr fun m _ => ?_
  rw [addAt_succ]
  by_cases c : m = i + j
  · subst c
    rw [if_pos rfl, if_pos rfl, wrap_add_l, wrap_add_r]
  · rw [if_neg c, if_neg c, Int.add_zero]

theorem implConv0_ev (a b : List Int) (ha : a.length ≤ 2000) (hb : b.length ≤ 2000) (ha0 : 0 < a.length) (hb0 : 0 < b.length) :
    Ev (fun k => impl_convolve.l0 k b (List.replicate (a.length + b.length - 1) 0) a (a.length : Int) 0) (convV a b) := by
  have h := for_iff (fun k s i => impl_convolve.l0 k b s a (a.length : Int) i) (fun i _ => tab (a.length + b.length - 1) fun m => wrap64 (convAt a b m (i + 1))) (fun i s => s = tab (a.length + b.length - 1) fun m => wrap64 (convAt a b m i)) a.length (convV a b) ?_ (List.replicate (a.length + b.length - 1) 0) ?_
  · rw [h.2, h.1, ev_shift]
    simp only [impl_convolve.l0]
    rw [ev_neg (by omega)]
    exact Ev.now _
  · intro i s hi hs
    refine ⟨rfl, ?_⟩
    rw [ev_shift]
    simp only [impl_convolve.l0]
    rw [ev_pos (by omega), ev_pos (by omega), ev_pos (by omega)]
    have g := for_iff (fun k s j => impl_convolve.l1 k b s (i : Int) (rd a (i : Int)) a (a.length : Int) (i : Int) b (b.length : Int) j) (fun j _ => tab (a.length + b.length - 1) fun m => wrap64 (addAt b i (rd a (i : Int)) (fun m => convAt a b m i) (j + 1) m)) (fun j s => s = tab (a.length + b.length - 1) fun m => wrap64 (addAt b i (rd a (i : Int)) (fun m => convAt a b m i) j m)) b.length (convV a b) ?_ s ?_
    · rw [g.2, g.1, ev_shift]
      simp only [impl_convolve.l1, addAt_all]
      rw [ev_neg (by omega), w64 (by omega) (by omega)]
    · intro j s hj hs
      refine ⟨rfl, ?_⟩
      subst hs
      rw [ev_shift]
      simp only [impl_convolve.l1, tab_length]
      rw [w64 (n := (i : Int) + (j : Int)) (by omega) (by omega), w64 (n := (j : Int) + 1) (by omega) (by omega)]
      have e : (i : Int) + (j : Int) = ((i + j : Nat) : Int) := by omega
      rw [e, ev_pos (by omega), ev_pos (by omega), ev_pos (by omega), ev_pos (by omega), ev_pos (by omega), rd_tab' (by omega), Int.toNat_natCast, addAt_set b _ _ (by omega)]
    · rw [hs]
      refine tab_congr fun m _ => ?_
      rw [addAt_zero]
  · refine (eq_tab (by simp) fun i hi => ?_)
    rw [rd_replicate]
    simp [convAt, wrap_zero]
theorem implConv_ev (a b : List Int) (ha : a.length ≤ 2000) (hb : b.length ≤ 2000) : Ev (fun k => impl_convolve.f k a b) (if a.length = 0 ∨ b.length = 0 then [] else convV a b) := by
  unfold impl_convolve.f
  by_cases h1 : (a.length : Int) = 0
  · rw [ev_pos h1, if_pos (by omega), ev_shift]
    simp only [impl_convolve.j0, if_true]
    exact Ev.now _
  · rw [ev_neg h1]
    by_cases h2 : (b.length : Int) = 0
    · have e : ((b.length : Int) == 0) = true := by simpa using h2
      rw [e, if_pos (by omega), ev_shift]
      simp only [impl_convolve.j0, if_true]
      exact Ev.now _
    · have e : ((b.length : Int) == 0) = false := by simpa using h2
      rw [e, if_neg (by omega), ev_shift]
      simp only [impl_convolve.j0, Bool.false_eq_true, if_false]
      rw [w64 (n := (a.length : Int) + (b.length : Int)) (by omega) (by omega), w64 (by omega) (by omega)]
      have e2 : (a.length : Int) + (b.length : Int) - 1 = ((a.length + b.length - 1 : Nat) : Int) := by omega
      rw [e2, Int.toNat_natCast, ev_pos (by omega), ev_pos (by omega)]
      exact implConv0_ev a b ha hb (by omega) (by omega)
def convR (a b : List Int) : List Int × Bool := if (tapB a && tapB b) = true then (if a.length = 0 ∨ b.length = 0 then [] else convV a b, true) else ([], false)
theorem convR_length (a b : List Int) : (convR a b).1.length ≤ 2000 := by
  unfold convR
  split
  · rename_i h
    simp only [Bool.and_eq_true] at h
    have h1 := (tapB_iff.1 h.1).1
    have h2 := (tapB_iff.1 h.2).1
    show (if a.length = 0 ∨ b.length = 0 then [] else convV a b).length ≤ 2000
    split
    · simp
    · simp [convV]; omega
  · simp

theorem specConv0_ev (a b : List Int) (ha : a.length ≤ 2000) (hb : b.length ≤ 2000) (ha0 : 0 < a.length) (hb0 : 0 < b.length) :
    Ev (fun k => spec_Convolve.l0 k a b (List.replicate (a.length + b.length - 1) 0) 0) (convV a b, true) := by
  have h := for_iff (fun k s i => spec_Convolve.l0 k a b s i) (fun i _ => tab (a.length + b.length - 1) fun m => wrap64 (convAt a b m (i + 1))) (fun i s => s = tab (a.length + b.length - 1) fun m => wrap64 (convAt a b m i)) a.length (convV a b, true) ?_ (List.replicate (a.length + b.length - 1) 0) ?_
  · rw [h.2, h.1, ev_shift]
    simp only [spec_Convolve.l0]
    rw [ev_neg (by omega)]
    exact Ev.now _
  · intro i s hi hs
    refine ⟨rfl, ?_⟩
    rw [ev_shift]
    simp only [spec_Convolve.l0]
    rw [ev_pos (by omega)]
    have g := for_iff (fun k s j => spec_Convolve.l1 k a b s (i : Int) j) (fun j _ => tab (a.length + b.length - 1) fun m => wrap64 (addAt b i (rd a (i : Int)) (fun m => convAt a b m i) (j + 1) m)) (fun j s => s = tab (a.length + b.length - 1) fun m => wrap64 (addAt b i (rd a (i : Int)) (fun m => convAt a b m i) j m)) b.length (convV a b, true) ?_ s ?_
    · rw [g.2, g.1, ev_shift]
      simp only [spec_Convolve.l1, addAt_all]
      rw [ev_neg (by omega), w64 (by omega) (by omega)]
    · intro j s hj hs
      refine ⟨rfl, ?_⟩
      subst hs
      rw [ev_shift]
      simp only [spec_Convolve.l1, tab_length]
      rw [w64 (n := (i : Int) + (j : Int)) (by omega) (by omega), w64 (n := (j : Int) + 1) (by omega) (by omega)]
      have e : (i : Int) + (j : Int) = ((i + j : Nat) : Int) := by omega
      rw [e, ev_pos (by omega), ev_pos (by omega), ev_pos (by omega), ev_pos (by omega), ev_pos (by omega), ev_pos (by omega), rd_tab' (by omega), Int.toNat_natCast, addAt_set b _ _ (by omega)]
    · rw [hs]
      refine tab_congr fun m _ => ?_
      rw [addAt_zero]
  · refine (eq_tab (by simp) fun i hi => ?_)
    rw [rd_replicate]
    simp [convAt, wrap_zero]
theorem specConvolve_ev (a b : List Int) (ha : a.length ≤ 2000000) (hb : b.length ≤ 2000000) : Ev (fun k => spec_Convolve.f k a b) (convR a b) := by
  unfold spec_Convolve.f convR
  have no : ¬ (tapB a && tapB b) = true → Ev (fun k => spec_Convolve.j0 k a b true) (convR a b) := by
    intro h
    rw [ev_shift, convR, if_neg h]
    simp only [spec_Convolve.j0, if_true]
    exact Ev.now _
  rw [ev_bind (specTaps_ev a ha)]
  by_cases h1 : tapB a = true
  · rw [ev_pos h1, ev_bind (specTaps_ev b hb)]
    by_cases h2 : tapB b = true
    · have h1' := (tapB_iff.1 h1).1
      have h2' := (tapB_iff.1 h2).1
      rw [h2, if_pos (by simp [h1]), ev_shift]
      simp only [spec_Convolve.j0, Bool.not_true, Bool.false_eq_true, if_false]
      by_cases h3 : (a.length : Int) = 0
      · rw [ev_pos h3, if_pos (by omega), ev_shift]
        simp only [spec_Convolve.j1, if_true]
        exact Ev.now _
      · rw [ev_neg h3]
        by_cases h4 : (b.length : Int) = 0
        · have e : ((b.length : Int) == 0) = true := by simpa using h4
          rw [e, if_pos (by omega), ev_shift]
          simp only [spec_Convolve.j1, if_true]
          exact Ev.now _
        · have e : ((b.length : Int) == 0) = false := by simpa using h4
          rw [e, if_neg (by omega), ev_shift]
          simp only [spec_Convolve.j1, Bool.false_eq_true, if_false]
          rw [w64 (n := (a.length : Int) + (b.length : Int)) (by omega) (by omega), w64 (by omega) (by omega)]
          have e2 : (a.length : Int) + (b.length : Int) - 1 = ((a.length + b.length - 1 : Nat) : Int) := by omega
          rw [e2, Int.toNat_natCast, ev_pos (by omega), ev_pos (by omega)]
          exact specConv0_ev a b (by omega) (by omega) (by omega) (by omega)
    · have e : tapB b = false := by simpa using h2
      rw [e]
      have := no (by simp [h2])
      simpa only [convR, e, Bool.and_false, Bool.not_false] using this
  · rw [ev_neg h1]
    exact no (by simp [h1])


theorem implConvolve_ev (a b : List Int) (ha : a.length ≤ 2000000) (hb : b.length ≤ 2000000) : Ev (fun k => impl_Convolve.f k a b) (convR a b) := by
  unfold impl_Convolve.f convR
  rw [ev_bind (implTaps_ev a ha)]
  by_cases h1 : tapB a = true
  · rw [ev_pos h1, ev_bind (implTaps_ev b hb)]
    by_cases h2 : tapB b = true
    · have h1' := (tapB_iff.1 h1).1
      have h2' := (tapB_iff.1 h2).1
      rw [ev_pos h2, if_pos (by simp [h1, h2]), ev_bind (implConv_ev a b (by omega) (by omega))]
      exact Ev.now _
    · rw [ev_neg h2, if_neg (by simp [h2])]
      exact Ev.now _
  · rw [ev_neg h1, if_neg (by simp [h1])]
    exact Ev.now _

theorem DrawConvolve_ev (b : List Int) (hb : b.length ≤ 2000000) : ∃ t l, Ev (fun k => spec_DrawConvolve.f k b) (t, l) ∧ t.length ≤ 2000 ∧ l.length ≤ 2000 := by
  unfold spec_DrawConvolve.f
  obtain ⟨h, e1⟩ := l1New_ev b hb
  obtain ⟨s, e2, hs0, hs1⟩ := l1Size_eq b 20 hb (by omega)
  obtain ⟨t, i, h', e3, hc, ht⟩ := l6DrawTaps_ev b 0 h s ⟨by omega, by omega, hb⟩ (by omega) (by omega)
  obtain ⟨l, i2, h2, e4, hc2, hl⟩ := l6DrawTaps_ev b i h' s hc (by omega) (by omega)
  obtain ⟨o, i3, h3, e5, hc3⟩ := l1Once_ok b i2 h2 80 hc2
  by_cases ho : o = true
  · obtain ⟨x, i4, h4, e6, hc4, hx0, hx, _⟩ := l1Below_ok b i3 h3 2 hc3
    have := hx (by omega)
    refine ⟨List.replicate (256 + x).toNat 0, l, ?_, by simp; omega, by omega⟩
    rw [ev_bind e1]
    simp only [e2, Option.bind_some]
    rw [ev_bind e3, ev_bind e4]
    simp only [e5, Option.bind_some]
    rw [ev_pos ho]
    simp only [e6, Option.bind_some]
    rw [w64 (by omega) (by omega), ev_pos (by omega), ev_pos (by omega)]
    exact Ev.now _
  · refine ⟨t, l, ?_, by omega, by omega⟩
    rw [ev_bind e1]
    simp only [e2, Option.bind_some]
    rw [ev_bind e3, ev_bind e4]
    simp only [e5, Option.bind_some]
    rw [ev_neg ho]
    exact Ev.now _
theorem take_tab {m n : Nat} (g : Nat → Int) (h : m ≤ n) : (tab n g).take m = tab m g := by
  refine eq_tab (by simp; omega) fun i hi => ?_
  rw [rd_take hi, rd_tab' (by omega)]
theorem sig_of_tap {l : List Int} (h : tapB l = true) : sigB l = true := by
  obtain ⟨h1, h2⟩ := tapB_iff.1 h
  exact sigB_iff.2 ⟨by omega, inB_iff.2 fun x hx => by have := inB_iff.1 h2 x hx; omega⟩
theorem inner_ev (t l : List Int) (ht0 : 1 ≤ t.length) (ht1 : t.length ≤ 64) (hl0 : 1 ≤ l.length) (hl1 : l.length ≤ 2000) : Ev (fun k => laws_FnFirConvolves.j1 k t l) true := by
  rw [ev_shift]
  simp only [laws_FnFirConvolves.j1]
  rw [ev_bind (implConvolve_ev t l (by omega) (by omega)), w64 (by omega) (by omega), ev_pos (by omega), ev_pos (by omega)]
  have e : ((t.length : Int) - 1).toNat = t.length - 1 := by omega
  rw [e, ev_bind (implFir_ev t (List.replicate (t.length - 1) 0) l (by omega) (by simp; omega) (by omega)), ev_bind (specConvolve_ev t l (by omega) (by omega))]
  simp only [bne_self_eq_false, Bool.false_eq_true, if_false]
  by_cases h : (tapB t && tapB l) = true
  · have h12 : tapB t = true ∧ tapB l = true := by simpa using h
    obtain ⟨h1, h2⟩ := h12
    have hr : convR t l = (convV t l, true) := by
      unfold convR
      rw [if_pos h, if_neg (by omega)]
    have hz : sigB (List.replicate (t.length - 1) 0) = true := sigB_iff.2 ⟨by simp; omega, inB_iff.2 fun x hx => by rw [List.mem_replicate] at hx; omega⟩
    have hk : tokB t = true := tokB_iff.2 ⟨ht0, ht1, (tapB_iff.1 h1).2⟩
    have hf : firR t (List.replicate (t.length - 1) 0) l = ((firV t (List.replicate (t.length - 1) 0) l).1, (firV t (List.replicate (t.length - 1) 0) l).2, true) := by
      unfold firR
      rw [if_pos ⟨hk, sig_of_tap h2, hz, by simp; omega⟩]
    have hlen := (firV_length t (List.replicate (t.length - 1) 0) l).1
    have hc : (convV t l).length = t.length + l.length - 1 := by simp [convV]
    rw [hr, hf]
    simp only [if_true]
    rw [ev_pos (by omega), ev_pos (by omega), ev_pos (by omega), hlen, Int.toNat_natCast]
    have key : (convV t l).take l.length = (firV t (List.replicate (t.length - 1) 0) l).1 := by
      rw [firV_zero t l (t.length - 1) (by omega), convV, take_tab _ (by omega)]
    rw [key, ev_bind (sameInts_ev _ _ (by omega)), decide_eq_true rfl]
    exact Ev.now _
  · have hr : convR t l = ([], false) := by
      unfold convR
      rw [if_neg h]
    rw [hr]
    simp only [Bool.false_eq_true, if_false]
    have h6 : firR [2] [] [3] = ([6], [], true) := by
      unfold firR
      rw [if_pos (by decide)]
      decide +kernel
    rw [ev_bind (implFir_ev [2] [] [3] (by simp) (by simp) (by simp)), h6]
    simp only [if_true]
    rw [ev_bind (sameInts_ev [6] [6] (by simp)), decide_eq_true rfl]
    exact Ev.now _
theorem FnFirConvolves : laws_FnFirConvolves.Pure := by
  intro l0 _ _ _
  refine Ev.rounds (g := fun k => laws_FnFirConvolves.f k l0) ?_
  simp only [laws_FnFirConvolves.f, big_eq, Option.bind_some]
  by_cases hlen : (l0.length : Int) > 1048576
  · rw [ev_pos (by simpa using hlen)]
    exact Ev.now _
  rw [ev_neg (by simpa using hlen)]
  obtain ⟨t, l, hd, ht, hl⟩ := DrawConvolve_ev l0 (by omega)
  rw [ev_bind hd]
  simp only
  have other : Ev (fun k => laws_FnFirConvolves.j0 k t l true) true := by
    rw [ev_shift]
    simp only [laws_FnFirConvolves.j0, if_true]
    exact inner_ev [1, 2, 3] [4, 5] (by simp) (by simp) (by simp) (by simp)
  by_cases h1 : (t.length : Int) = 0
  · rw [ev_pos h1]
    exact other
  rw [ev_neg h1]
  by_cases h2 : (t.length : Int) > 64
  · rw [ev_pos h2]
    exact other
  rw [ev_neg h2]
  by_cases h3 : (l.length : Int) = 0
  · have e : ((l.length : Int) == 0) = true := by simpa using h3
    rw [e]
    exact other
  · have e : ((l.length : Int) == 0) = false := by simpa using h3
    rw [e, ev_shift]
    simp only [laws_FnFirConvolves.j0, Bool.false_eq_true, if_false]
    exact inner_ev t l (by omega) (by omega) (by omega) hl

end Go.Proofs.Ytinpmpdkoedjnaa.Pure
