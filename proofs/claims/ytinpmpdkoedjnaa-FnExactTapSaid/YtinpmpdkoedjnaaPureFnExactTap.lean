/- The pure part of FnExactTap: the program's Tap and the reference's Tap answer alike. No conditions. -/
import Derived.Test.YtinpmpdkoedjnaaQFnExactTapx2
import Derived.Test.YtinpmpdkoedjnaaBase
namespace Go.Proofs.Ytinpmpdkoedjnaa.Pure
open Go.RowKit Go.Proofs.Ytinpmpdkoedjnaa.QFnExactTap Go.Proofs.YtinpmpdkoedjnaaW.PrintWords Go.Proofs.YtinpmpdkoedjnaaW.PrintLast
open Go.Proofs.Ytinpmpdkoedjnaa.Base
set_option linter.unusedVariables false
set_option linter.unusedSimpArgs false
/-! ### toIntS, eqIntS, markIntS, heldIntS -/
theorem toIntS_ev (l : List Int) (h : l.length ≤ 2000000) : Ev (fun k => laws_toIntS.f k l) l := by
  unfold laws_toIntS.f
  simp only [Int.toNat_natCast]
  rw [ev_pos (by omega), ev_pos (by omega)]
  rw [(for_iff (fun k s i => laws_toIntS.l0 k l s i) (fun i s => s.set i (rd l (i : Int))) (fun _ s => s.length = l.length) l.length l ?_ _ (by simp)).2]
  · rw [iter_store_all _ _ _ (by simp), tab_rd]
    exact Ev.step (fun k => by simp only [laws_toIntS.l0]; rw [if_neg (by omega)]) (Ev.now _)
  · intro i s hi hs
    refine ⟨by simpa using hs, ?_⟩
    rw [ev_shift]
    simp only [laws_toIntS.l0]
    rw [ev_pos (by omega), ev_pos (by omega), ev_pos (by omega), w64 (by omega) (by omega), Int.toNat_natCast]

theorem eqIntS_ev (a b : List Int) (h : a.length ≤ 2000000) : Ev (fun k => laws_eqIntS.f k a b) (decide (a = b)) := by
  unfold laws_eqIntS.f
  by_cases e : a.length = b.length
  · rw [ev_pos (by omega)]
    rw [all_iff (fun k i => laws_eqIntS.l0 k a b i) (fun i => decide (rd a (i : Int) = rd b (i : Int))) a.length _ false]
    · split
      · rename_i hp
        have : a = b := list_ext_rd e fun i hi => by simpa using range_all.1 hp i hi
        rw [decide_eq_true this]
        exact Ev.step (fun k => by simp only [laws_eqIntS.l0]; rw [if_neg (by omega)]) (Ev.now _)
      · rename_i hp
        have : ¬ a = b := fun h => hp (by subst h; rw [range_all]; simp)
        simp [this]
    · intro i hi
      by_cases p : rd a (i : Int) = rd b (i : Int)
      · rw [if_pos (by simpa using p)]
        rw [ev_shift]
        simp only [laws_eqIntS.l0]
        rw [ev_pos (by omega), ev_pos (by omega), ev_pos (by omega), ev_pos p, w64 (by omega) (by omega)]
      · rw [if_neg (by simpa using p)]
        rw [ev_shift]
        simp only [laws_eqIntS.l0]
        rw [ev_pos (by omega), ev_pos (by omega), ev_pos (by omega), ev_neg p, ev_some_iff]
  · rw [ev_neg (by omega)]
    have : ¬ a = b := fun h => e (by rw [h])
    simp only [this, decide_false]
    exact Ev.now _


theorem within_ev (l : List Int) (m : Int) (hl : l.length ≤ 2000000) (h0 : 0 ≤ m) (h1 : m ≤ 1000000000000) : Ev (fun k => impl_within.f k l m) (inB m l) := by
  unfold impl_within.f
  rw [inB_range]
  rw [all_iff (fun k i => impl_within.l0 k m l (l.length : Int) i) (fun i => decide (-m ≤ rd l (i : Int)) && decide (rd l (i : Int) ≤ m)) l.length _ false]
  · split
    · rename_i hp
      rw [hp]
      exact Ev.step (fun k => by simp only [impl_within.l0]; rw [if_neg (by omega)]) (Ev.now _)
    · rename_i hp
      simpa using hp
  · intro i hi
    by_cases p : -m ≤ rd l (i : Int) ∧ rd l (i : Int) ≤ m
    · rw [if_pos (by simpa using p)]
      rw [ev_shift]
      simp only [impl_within.l0]
      rw [ev_pos (by omega), ev_pos (by omega), ev_pos (by omega), w64 (n := -m) (by omega) (by omega), ev_neg (by omega), ev_neg (by omega), w64 (by omega) (by omega)]
    · rw [if_neg (by simpa using p)]
      rw [ev_shift]
      simp only [impl_within.l0]
      rw [ev_pos (by omega), ev_pos (by omega), ev_pos (by omega), w64 (n := -m) (by omega) (by omega)]
      by_cases q : rd l (i : Int) < -m
      · rw [ev_pos q, ev_some_iff]
      · rw [ev_neg q, ev_pos (by omega), ev_some_iff]

theorem implSig_ev (l : List Int) (hl : l.length ≤ 2000000) : Ev (fun k => impl_SignalOk.f k l) (sigB l) := by
  unfold impl_SignalOk.f
  by_cases h : (l.length : Int) ≤ 512
  · rw [ev_pos h]
    rw [ev_bind (within_ev l 1000000000 hl (by omega) (by omega)), ev_some_iff, sigB, decide_eq_true (by omega : l.length ≤ 512), Bool.true_and]
  · rw [ev_neg h]
    rw [ev_some_iff, sigB, decide_eq_false (by omega : ¬ l.length ≤ 512), Bool.false_and]

theorem l1In_eq (a b c : Int) : spec_l1In.f a b c = some (decide (b ≤ a ∧ a ≤ c)) := by
  unfold spec_l1In.f
  by_cases h : a ≥ b
  · rw [if_pos h]
    congr 1
    rw [decide_eq_decide]
    omega
  · rw [if_neg h]
    congr 1
    symm
    rw [decide_eq_false_iff_not]
    omega

theorem l5Sample_eq (a : Int) : spec_l5Sample.f a = some (decide (-1000000000 ≤ a ∧ a ≤ 1000000000)) := by
  unfold spec_l5Sample.f
  rw [l1In_eq]
  rfl
theorem specSig_ev (l : List Int) (hl : l.length ≤ 2000000) : Ev (fun k => spec_SignalOk.f k l) (sigB l) := by
  unfold spec_SignalOk.f
  rw [sigB, inB_range]
  rw [all_iff (fun k i => spec_SignalOk.l0 k l i) (fun i => decide (-1000000000 ≤ rd l (i : Int)) && decide (rd l (i : Int) ≤ 1000000000)) l.length _ false]
  · split
    · rename_i hp
      rw [hp, Bool.and_true]
      exact Ev.step (f := fun _ => some (decide (l.length ≤ 512))) (fun k => by simp only [spec_SignalOk.l0]; rw [if_neg (by omega)]; congr 1; rw [decide_eq_decide]; omega) (Ev.now _)
    · rename_i hp
      simp only [Bool.not_eq_true] at hp
      rw [hp, Bool.and_false]
  · intro i hi
    by_cases p : -1000000000 ≤ rd l (i : Int) ∧ rd l (i : Int) ≤ 1000000000
    · rw [if_pos (by simpa using p)]
      rw [ev_shift]
      simp only [spec_SignalOk.l0]
      rw [ev_pos (by omega), ev_pos (by omega), l5Sample_eq]
      simp only [Option.bind_some]
      rw [ev_pos (by simpa using p), w64 (by omega) (by omega)]
    · rw [if_neg (by simpa using p)]
      rw [ev_shift]
      simp only [spec_SignalOk.l0]
      rw [ev_pos (by omega), ev_pos (by omega), l5Sample_eq]
      simp only [Option.bind_some]
      rw [ev_neg (by simpa using p), ev_some_iff]

def TapOk (l : List Int) (p b : Int) : Prop := sigB l = true ∧ 1 ≤ l.length ∧ 0 ≤ p ∧ p < (l.length : Int) ∧ 1 ≤ b ∧ b ≤ (l.length : Int)
open Classical in
noncomputable def tapR (l : List Int) (p b : Int) : Int × Bool := if TapOk l p b then (rd l (Int.tmod (p - b + (l.length : Int)) (l.length : Int)), true) else (0, false)
theorem ringOk_ev (l : List Int) (p : Int) (hl : l.length ≤ 2000000) : Ev (fun k => impl_Ring_ok.f k l p) (decide (sigB l = true ∧ 1 ≤ l.length ∧ 0 ≤ p ∧ p < (l.length : Int))) := by
  unfold impl_Ring_ok.f
  by_cases h1 : (l.length : Int) ≥ 1
  · rw [ev_pos h1, ev_bind (implSig_ev l hl)]
    by_cases h2 : sigB l = true
    · rw [ev_pos h2]
      by_cases h3 : p ≥ 0
      · rw [ev_pos h3, ev_some_iff, decide_eq_decide]
        exact ⟨fun h => ⟨h2, by omega, by omega, h⟩, fun h => h.2.2.2⟩
      · rw [ev_neg h3, ev_some_iff]
        symm
        rw [decide_eq_false_iff_not]
        exact fun h => h3 h.2.2.1
    · rw [ev_neg h2, ev_some_iff]
      symm
      rw [decide_eq_false_iff_not]
      exact fun h => h2 h.1
  · rw [ev_neg h1, ev_some_iff]
    symm
    rw [decide_eq_false_iff_not]
    exact fun h => h1 (by omega)
theorem l11Ring_ev (l : List Int) (p : Int) (hl : l.length ≤ 2000000) : Ev (fun k => spec_l11Ring.f k l p) (decide (sigB l = true ∧ 1 ≤ l.length ∧ 0 ≤ p ∧ p < (l.length : Int))) := by
  unfold spec_l11Ring.f
  rw [ev_bind (specSig_ev l hl)]
  by_cases h2 : sigB l = true
  · rw [ev_pos h2]
    by_cases h1 : (l.length : Int) > 0
    · rw [ev_pos h1, w64 (by omega) (by omega), l1In_eq, ev_sbind, ev_some_iff, decide_eq_decide]
      exact ⟨fun h => ⟨h2, by omega, by omega, by omega⟩, fun h => ⟨h.2.2.1, by omega⟩⟩
    · rw [ev_neg h1, ev_some_iff]
      symm
      rw [decide_eq_false_iff_not]
      exact fun h => h1 (by omega)
  · rw [ev_neg h2, ev_some_iff]
    symm
    rw [decide_eq_false_iff_not]
    exact fun h => h2 h.1
theorem implTap_ev (l : List Int) (p b : Int) (hl : l.length ≤ 2000000) : Ev (fun k => impl_Tap.f k l p b) (tapR l p b) := by
  unfold impl_Tap.f tapR
  rw [ev_bind (ringOk_ev l p hl)]
  by_cases h : sigB l = true ∧ 1 ≤ l.length ∧ 0 ≤ p ∧ p < (l.length : Int)
  · obtain ⟨h1, h2, h3, h4⟩ := h
    rw [decide_eq_true ⟨h1, h2, h3, h4⟩, ev_pos rfl]
    by_cases c : b < 1
    · rw [ev_pos c, if_neg (fun h => by have := h.2.2.2.2.1; omega)]
      exact Ev.now _
    · rw [ev_neg c]
      by_cases d : b > (l.length : Int)
      · rw [ev_pos d, if_neg (fun h => by have := h.2.2.2.2.2; omega)]
        exact Ev.now _
      · have m0 := Int.tmod_nonneg (l.length : Int) (by omega : 0 ≤ p - b + (l.length : Int))
        have m1 := Int.tmod_lt_of_pos (p - b + (l.length : Int)) (by omega : (0 : Int) < (l.length : Int))
        rw [ev_neg d, ev_neg (by omega), w64 (n := p - b) (by omega) (by omega), w64 (by omega) (by omega), ev_pos m0, ev_pos m1, if_pos ⟨h1, h2, h3, h4, by omega, by omega⟩]
        exact Ev.now _
  · rw [decide_eq_false h, ev_neg (by simp), if_neg (fun k => h ⟨k.1, k.2.1, k.2.2.1, k.2.2.2.1⟩)]
    exact Ev.now _
theorem specTap_ev (l : List Int) (p b : Int) (hl : l.length ≤ 2000000) : Ev (fun k => spec_Tap.f k l p b) (tapR l p b) := by
  unfold spec_Tap.f tapR
  rw [ev_bind (l11Ring_ev l p hl)]
  by_cases h : sigB l = true ∧ 1 ≤ l.length ∧ 0 ≤ p ∧ p < (l.length : Int)
  · obtain ⟨h1, h2, h3, h4⟩ := h
    rw [decide_eq_true ⟨h1, h2, h3, h4⟩, ev_pos rfl, l1In_eq, ev_sbind]
    by_cases c : 1 ≤ b ∧ b ≤ (l.length : Int)
    · have m0 := Int.tmod_nonneg (l.length : Int) (by omega : 0 ≤ p - b + (l.length : Int))
      have m1 := Int.tmod_lt_of_pos (p - b + (l.length : Int)) (by omega : (0 : Int) < (l.length : Int))
      rw [decide_eq_true c, ev_pos rfl, ev_neg (by omega), w64 (n := p - b) (by omega) (by omega), w64 (by omega) (by omega), ev_pos m0, ev_pos m1, if_pos ⟨h1, h2, h3, h4, by omega, by omega⟩]
      exact Ev.now _
    · rw [decide_eq_false c, ev_neg (by simp), if_neg (fun h => c h.2.2.2.2)]
      exact Ev.now _
  · rw [decide_eq_false h, ev_neg (by simp), if_neg (fun k => h ⟨k.1, k.2.1, k.2.2.1, k.2.2.2.1⟩)]
    exact Ev.now _
theorem toRing_ev (l : List Int) (p : Int) (hl : l.length ≤ 2000000) : Ev (fun k => laws_toRing.f k l p) (l, p) := by
  unfold laws_toRing.f
  rw [ev_bind (toIntS_ev l hl)]
  exact Ev.now _
theorem szRing_eq (l : List Int) (p : Int) (hl : l.length ≤ maxLen) : ∃ v, laws_szRing.f l p 1048576 = some v ∧ (0 ≤ v → l.length ≤ 1048576) := by
  have hm : maxLen ≤ 9223372036854775807 := by decide
  unfold laws_szRing.f laws_szIntS.f
  rw [w64 (by omega) (by omega)]
  by_cases c : 1048576 - (l.length : Int) < 0
  · rw [if_pos c]
    exact ⟨-1, rfl, fun h => by omega⟩
  · rw [if_neg c, Option.bind_some, if_neg c]
    exact ⟨_, rfl, fun _ => by omega⟩
theorem FnExactTap (l : List Int) (p b : Int) (hl : l.length ≤ maxLen) : ∃ k, laws_FnExactTap.f k l p b = some true := by
  refine Ev.rounds (g := fun k => laws_FnExactTap.f k l p b) ?_
  obtain ⟨v, ev, hv⟩ := szRing_eq l p hl
  unfold laws_FnExactTap.f
  rw [ev, ev_sbind]
  by_cases c : v < 0
  · rw [ev_pos c]
    exact Ev.now _
  have hl2 := hv (by omega)
  rw [ev_neg c, ev_bind (toRing_ev l p (by omega))]
  dsimp only
  rw [ev_bind (specTap_ev l p b (by omega)), ev_bind (toRing_ev l p (by omega))]
  dsimp only
  rw [ev_bind (implTap_ev l p b (by omega)), ev_pos rfl, bne_self_eq_false, ev_shift]
  simp only [laws_FnExactTap.j0, Bool.false_eq_true, if_false]
  rw [ev_bind (toRing_ev l p (by omega))]
  have e : Ev (fun k => laws_eqRing.f k l p l p) true := by
    unfold laws_eqRing.f
    rw [ev_bind (eqIntS_ev l l (by omega)), decide_eq_true rfl, ev_pos rfl, ev_pos rfl]
    exact Ev.now _
  dsimp only
  rw [ev_bind e, ev_pos rfl]
  exact Ev.now _
theorem FnExactTap.walk (a0 : Option Addr) (len0 cap0 : Nat) (z0 : List Int) (p b : Int) (w : World) (w0 : (a0 = none ∧ len0 = 0 ∧ cap0 = 0 ∧ z0 = []) ∨ ∃ x, a0 = some x ∧ len0 ≤ cap0 ∧ cap0 ≤ maxLen ∧ z0.length = cap0 ∧ (∀ i, i < z0.length → w.cell? (x.add i) = some (.int .i64 (z0.getD i 0))) ∧ ∀ n ∈ z0, (Lit.int .i64 n).wf = true) :
    Calls Try.prog 4 #[.agg #[.slice a0 len0 cap0, .int .i64 p], .int .i64 b] w fun e w' => e = .returned (.bool true) ∧ Below w.heap.size w w' := by
  obtain ⟨l0, rfl, hr0, hm0, hw0, hc0⟩ := ReadsInt.ofRowC w0
  obtain ⟨k, h⟩ := FnExactTap l0 p b hm0
  refine (laws_FnExactTap.calls k _ _ l0 p b true w (Kd.C_of_reads (d := (0 : Int)) (h1 := fun _ => rfl) hr0) hc0 h).mono ?_
  rintro e w' ⟨rfl, hd⟩
  exact ⟨rfl, hd⟩

end Go.Proofs.Ytinpmpdkoedjnaa.Pure
