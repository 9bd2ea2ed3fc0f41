/- The pure part of FnExactGather: the program's Gather and the reference's Gather answer alike. No conditions. -/
import Derived.Test.YtinpmpdkoedjnaaPFnExactGatherx3
import Derived.Test.YtinpmpdkoedjnaaBase
namespace Go.Proofs.Ytinpmpdkoedjnaa.Pure
open Go.RowKit Go.Proofs.Ytinpmpdkoedjnaa.PFnExactGather Go.Proofs.YtinpmpdkoedjnaaW.PrintWords Go.Proofs.YtinpmpdkoedjnaaW.PrintLast
open Go.Proofs.Ytinpmpdkoedjnaa.Base
set_option linter.unusedVariables false
set_option linter.unusedSimpArgs false
/-! ### toIntS, eqIntS, markIntS, heldIntS -/
theorem toIntS_ev (l : List Int) (h : l.length ≤ 2000000) : Ev (fun k => laws_toIntS.f k l) l := by
  unfold laws_toIntS.f
  simp only [Int.toNat_natCast]
  rw [ev_pos (by omega), ev_pos (by omega)]
  rw [(for_iff (fun k s i => laws_toIntS.l0 k l s i) (fun i s => s.set i (rd l (i : Int))) (fun _ s => s.length = l.length) l.length l ?_ _ (by simp)).2]
  · rw [iter_store_all _ _ _ (by simp), tab_rd]
    exact Ev.step (fun k => by simp only [laws_toIntS.l0]; rw [if_neg (by omega)]) (Ev.now _)
  · intro i s hi hs
    refine ⟨by simpa using hs, ?_⟩
    rw [ev_shift]
    simp only [laws_toIntS.l0]
    rw [ev_pos (by omega), ev_pos (by omega), ev_pos (by omega), w64 (by omega) (by omega), Int.toNat_natCast]

theorem eqIntS_ev (a b : List Int) (h : a.length ≤ 2000000) : Ev (fun k => laws_eqIntS.f k a b) (decide (a = b)) := by
  unfold laws_eqIntS.f
  by_cases e : a.length = b.length
  · rw [ev_pos (by omega)]
    rw [all_iff (fun k i => laws_eqIntS.l0 k a b i) (fun i => decide (rd a (i : Int) = rd b (i : Int))) a.length _ false]
    · split
      · rename_i hp
        have : a = b := list_ext_rd e fun i hi => by simpa using range_all.1 hp i hi
        rw [decide_eq_true this]
        exact Ev.step (fun k => by simp only [laws_eqIntS.l0]; rw [if_neg (by omega)]) (Ev.now _)
      · rename_i hp
        have : ¬ a = b := fun h => hp (by subst h; rw [range_all]; simp)
        simp [this]
    · intro i hi
      by_cases p : rd a (i : Int) = rd b (i : Int)
      · rw [if_pos (by simpa using p)]
        rw [ev_shift]
        simp only [laws_eqIntS.l0]
        rw [ev_pos (by omega), ev_pos (by omega), ev_pos (by omega), ev_pos p, w64 (by omega) (by omega)]
      · rw [if_neg (by simpa using p)]
        rw [ev_shift]
        simp only [laws_eqIntS.l0]
        rw [ev_pos (by omega), ev_pos (by omega), ev_pos (by omega), ev_neg p, ev_some_iff]
  · rw [ev_neg (by omega)]
    have : ¬ a = b := fun h => e (by rw [h])
    simp only [this, decide_false]
    exact Ev.now _

theorem markIntS_ev (l : List Int) (m : Int) (h : l.length ≤ 2000000) (h0 : 0 ≤ m) (h1 : m ≤ 1000000000) :
    Ev (fun k => laws_markIntS.f k l m) (m + (l.length : Int), tab l.length (fun i => m + (i : Int))) := by
  unfold laws_markIntS.f
  rw [(for_iff (fun k (s : List Int × Int) i => laws_markIntS.l0 k s.1 s.2 i) (fun i s => (s.1.set i (m + (i : Int)), m + ((i : Int) + 1))) (fun i s => s.1.length = l.length ∧ s.2 = m + (i : Int)) l.length _ ?_ (l, m) ⟨rfl, by simp⟩).2]
  · have hI : ∀ n, n ≤ l.length → iter (fun (i : Nat) (s : List Int × Int) => (s.1.set i (m + (i : Int)), m + ((i : Int) + 1))) n (l, m) = (iter (fun i s => s.set i (m + (i : Int))) n l, m + (n : Int)) := by
      intro n
      induction n with
      | zero => intro _; simp [iter]
      | succ n ih => intro hn; rw [iter_succ, ih (by omega), iter_succ]; simp
    rw [hI _ (Nat.le_refl _), iter_store_all _ _ _ rfl]
    exact Ev.step (fun k => by simp only [laws_markIntS.l0]; rw [if_neg (by simp)]) (Ev.now _)
  · rintro i ⟨s, c⟩ hi ⟨hs, hc⟩
    simp only at hs hc
    subst hc
    refine ⟨⟨by simpa using hs, by simp⟩, ?_⟩
    rw [ev_shift]
    simp only [laws_markIntS.l0]
    rw [ev_pos (by omega), ev_pos (by omega), w64 (by omega) (by omega), w64 (by omega) (by omega), Int.toNat_natCast, Int.add_assoc]

theorem heldIntS_ev (n : Nat) (m : Int) (h : n ≤ 2000000) (h0 : 0 ≤ m) (h1 : m ≤ 1000000000) :
    Ev (fun k => laws_heldIntS.f k (tab n (fun i => m + (i : Int))) m) (m + (n : Int)) := by
  unfold laws_heldIntS.f
  rw [(for_iff (fun k (c : Int) i => laws_heldIntS.l0 k (tab n (fun i => m + (i : Int))) c i) (fun i c => m + ((i : Int) + 1)) (fun i c => c = m + (i : Int)) n _ ?_ m (by simp)).2]
  · have hI : iter (fun (i : Nat) (c : Int) => m + ((i : Int) + 1)) n m = m + (n : Int) := by
      cases n with
      | zero => simp [iter]
      | succ n => rw [iter_succ]; simp
    rw [hI]
    exact Ev.step (fun k => by simp only [laws_heldIntS.l0]; rw [if_neg (by simp)]) (Ev.now _)
  · intro i c hi hc
    refine ⟨by simp, ?_⟩
    rw [ev_shift]
    simp only [laws_heldIntS.l0, tab_length]
    rw [ev_pos (by omega), ev_pos (by omega), rd_tab' hi, ev_pos hc.symm, hc, w64 (by omega) (by omega), w64 (by omega) (by omega), Int.add_assoc]

theorem within_ev (l : List Int) (m : Int) (hl : l.length ≤ 2000000) (h0 : 0 ≤ m) (h1 : m ≤ 1000000000000) : Ev (fun k => impl_within.f k l m) (inB m l) := by
  unfold impl_within.f
  rw [inB_range]
  rw [all_iff (fun k i => impl_within.l0 k m l (l.length : Int) i) (fun i => decide (-m ≤ rd l (i : Int)) && decide (rd l (i : Int) ≤ m)) l.length _ false]
  · split
    · rename_i hp
      rw [hp]
      exact Ev.step (fun k => by simp only [impl_within.l0]; rw [if_neg (by omega)]) (Ev.now _)
    · rename_i hp
      simpa using hp
  · intro i hi
    by_cases p : -m ≤ rd l (i : Int) ∧ rd l (i : Int) ≤ m
    · rw [if_pos (by simpa using p)]
      rw [ev_shift]
      simp only [impl_within.l0]
      rw [ev_pos (by omega), ev_pos (by omega), ev_pos (by omega), w64 (n := -m) (by omega) (by omega), ev_neg (by omega), ev_neg (by omega), w64 (by omega) (by omega)]
    · rw [if_neg (by simpa using p)]
      rw [ev_shift]
      simp only [impl_within.l0]
      rw [ev_pos (by omega), ev_pos (by omega), ev_pos (by omega), w64 (n := -m) (by omega) (by omega)]
      by_cases q : rd l (i : Int) < -m
      · rw [ev_pos q, ev_some_iff]
      · rw [ev_neg q, ev_pos (by omega), ev_some_iff]

theorem implSig_ev (l : List Int) (hl : l.length ≤ 2000000) : Ev (fun k => impl_SignalOk.f k l) (sigB l) := by
  unfold impl_SignalOk.f
  by_cases h : (l.length : Int) ≤ 512
  · rw [ev_pos h]
    rw [ev_bind (within_ev l 1000000000 hl (by omega) (by omega)), ev_some_iff, sigB, decide_eq_true (by omega : l.length ≤ 512), Bool.true_and]
  · rw [ev_neg h]
    rw [ev_some_iff, sigB, decide_eq_false (by omega : ¬ l.length ≤ 512), Bool.false_and]

theorem combOk_ev (l : List Int) (a : Int) (hl : l.length ≤ 2000000) : Ev (fun k => impl_combOk.f k l a) (sigB l && decide (1 ≤ a ∧ a ≤ 512)) := by
  unfold impl_combOk.f
  rw [ev_bind (implSig_ev l hl)]
  by_cases h : sigB l = true
  · rw [ev_pos h, h, Bool.true_and]
    by_cases h1 : a ≥ 1
    · rw [ev_pos h1, ev_some_iff, decide_eq_decide]
      omega
    · rw [ev_neg h1, ev_some_iff, decide_eq_false (by omega)]
  · rw [ev_neg h, ev_some_iff]
    simp only [Bool.not_eq_true] at h
    rw [h, Bool.false_and]

/-! ### sums of the last a samples -/
def gathV (l : List Int) (a : Nat) : List Int := tab l.length fun i => wrap64 (psum l (i + 1) - psum l (i + 1 - a))
theorem gathV_length (l : List Int) (a : Nat) : (gathV l a).length = l.length := by simp [gathV]
theorem implGatherV_ev (l : List Int) (a : Nat) (hl : l.length ≤ 2000000) (ha : a ≤ 2000000) (ha0 : 0 < a) : Ev (fun k => impl_gather.f k l (a : Int)) (gathV l a) := by
  unfold impl_gather.f
  have h := for_iff (fun k (s : List Int × Int) i => impl_gather.l0 k l (a : Int) s.1 s.2 l (l.length : Int) i) (fun i s => (s.1 ++ [wrap64 (psum l (i + 1) - psum l (i + 1 - a))], wrap64 (psum l (i + 1) - psum l (i + 1 - a)))) (fun i s => s = (tab i fun i => wrap64 (psum l (i + 1) - psum l (i + 1 - a)), wrap64 (psum l i - psum l (i - a)))) l.length (gathV l a) ?_ ([], 0) (by simp [tab_zero, psum_zero, wrap_zero])
  · rw [h.2, h.1, ev_shift]
    simp only [impl_gather.l0]
    rw [ev_neg (by omega)]
    exact Ev.now _
  · intro i s hi hs
    subst hs
    refine ⟨by simp only [tab_succ], ?_⟩
    rw [ev_shift]
    simp only [impl_gather.l0, tab_length]
    rw [ev_pos (by omega), ev_pos (by omega), ev_pos (by omega), w64 (n := (i : Int) + 1) (by omega) (by omega)]
    by_cases c : (i : Int) ≥ (a : Int)
    · rw [ev_pos c, w64 (n := (i : Int) - (a : Int)) (by omega) (by omega), ev_pos (by omega), ev_pos (by omega), ev_pos (by omega)]
      have e : wrap64 (wrap64 (wrap64 (psum l i - psum l (i - a)) + rd l (i : Int)) - rd l ((i : Int) - (a : Int))) = wrap64 (psum l (i + 1) - psum l (i + 1 - a)) := by
        rw [wrap_add_l, wrap_sub_l]
        have e1 : i + 1 - a = (i - a) + 1 := by omega
        have e2 : (i : Int) - (a : Int) = ((i - a : Nat) : Int) := by omega
        rw [e1, e2, psum, psum]
        congr 1
        omega
      rw [e]
    · rw [ev_neg c, ev_pos (by omega)]
      have e : wrap64 (wrap64 (psum l i - psum l (i - a)) + rd l (i : Int)) = wrap64 (psum l (i + 1) - psum l (i + 1 - a)) := by
        rw [wrap_add_l]
        have e1 : i + 1 - a = 0 := by omega
        have e2 : i - a = 0 := by omega
        rw [e1, e2, psum_succ l i]
        congr 1
        omega
      rw [e]

def gathR (l : List Int) (a : Int) : List Int × Bool := if (sigB l && decide (1 ≤ a ∧ a ≤ 512)) = true then (gathV l a.toNat, true) else ([], false)
theorem gathR_length (l : List Int) (a : Int) (hl : l.length ≤ 2000000) : (gathR l a).1.length ≤ 2000000 := by
  unfold gathR
  split
  · simpa [gathV] using hl
  · simp
theorem implGather_ev (l : List Int) (a : Int) (hl : l.length ≤ 2000000) : Ev (fun k => impl_Gather.f k l a) (gathR l a) := by
  unfold impl_Gather.f gathR
  rw [ev_bind (combOk_ev l a hl)]
  by_cases h : (sigB l && decide (1 ≤ a ∧ a ≤ 512)) = true
  · rw [ev_pos h, if_pos h]
    have ha : 1 ≤ a ∧ a ≤ 512 := by simp at h; exact h.2
    have g := implGatherV_ev l a.toNat hl (by omega) (by omega)
    rw [Int.toNat_of_nonneg (by omega)] at g
    rw [ev_bind g]
    exact Ev.now _
  · rw [ev_neg h, if_neg h]
    exact Ev.now _


theorem specGatherV_ev (l : List Int) (a : Nat) (hl : l.length ≤ 2000000) (ha : a ≤ 2000000) (ha0 : 0 < a) : Ev (fun k => spec_l10Gather.f k l (a : Int)) (gathV l a) := by
  unfold spec_l10Gather.f
  rw [(for_iff (fun k s i => spec_l10Gather.l0 k l (a : Int) s i) (fun i s => s ++ [wrap64 (psum l (i + 1) - psum l (i + 1 - a))]) (fun i s => s.length = i) l.length _ ?_ [] rfl).2]
  · rw [iter_push, ev_shift]
    simp only [spec_l10Gather.l0]
    rw [ev_neg (by omega)]
    exact Ev.now _
  · intro i s hi hs
    refine ⟨by simp [hs], ?_⟩
    rw [ev_shift]
    simp only [spec_l10Gather.l0]
    rw [ev_pos (by omega)]
    have h := for_pos (fun k c j => spec_l10Gather.l1 k l (a : Int) s (i : Int) c j) (fun j => (i : Int) - (j : Int)) (fun j _ => wrap64 (psum l (i + 1) - psum l (i + 1 - (j + 1)))) (fun j c => c = wrap64 (psum l (i + 1) - psum l (i + 1 - j))) (min (i + 1) a) (gathV l a) ?_ 0 (by simp [wrap_zero])
    · simp only [Int.ofNat_zero, Int.sub_zero] at h
      rw [h.2, h.1, ev_shift]
      simp only [spec_l10Gather.l1]
      rw [w64 (n := (i : Int) - (a : Int)) (by omega) (by omega), w64 (n := (i : Int) + 1) (by omega) (by omega)]
      have e : i + 1 - min (i + 1) a = i + 1 - a := by omega
      rw [e]
      by_cases c : (i : Int) - ((min (i + 1) a : Nat) : Int) ≥ 0
      · rw [ev_pos c, ev_neg (by omega), ev_pos (by omega)]
      · rw [ev_neg c, ev_pos (by omega)]
    · intro j c hj hc
      subst hc
      refine ⟨rfl, ?_⟩
      rw [ev_shift]
      simp only [spec_l10Gather.l1]
      rw [w64 (n := (i : Int) - (a : Int)) (by omega) (by omega), ev_pos (by omega), ev_pos (by omega), ev_pos (by omega), ev_pos (by omega), w64 (n := (i : Int) - (j : Int) - 1) (by omega) (by omega)]
      have e : wrap64 (wrap64 (psum l (i + 1) - psum l (i + 1 - j)) + rd l ((i : Int) - (j : Int))) = wrap64 (psum l (i + 1) - psum l (i + 1 - (j + 1))) := by
        rw [wrap_add_l]
        have e1 : i + 1 - j = (i - j) + 1 := by omega
        have e2 : i + 1 - (j + 1) = i - j := by omega
        have e3 : (i : Int) - (j : Int) = ((i - j : Nat) : Int) := by omega
        rw [e1, e2, e3, psum_succ l (i - j)]
        congr 1
        omega
      have e4 : (i : Int) - (j : Int) - 1 = (i : Int) - ((j + 1 : Nat) : Int) := by omega
      rw [e, e4]

theorem l1In_eq (a b c : Int) : spec_l1In.f a b c = some (decide (b ≤ a ∧ a ≤ c)) := by
  unfold spec_l1In.f
  by_cases h : a ≥ b
  · rw [if_pos h]
    congr 1
    rw [decide_eq_decide]
    omega
  · rw [if_neg h]
    congr 1
    symm
    rw [decide_eq_false_iff_not]
    omega

theorem l5Sample_eq (a : Int) : spec_l5Sample.f a = some (decide (-1000000000 ≤ a ∧ a ≤ 1000000000)) := by
  unfold spec_l5Sample.f
  rw [l1In_eq]
  rfl
theorem specSig_ev (l : List Int) (hl : l.length ≤ 2000000) : Ev (fun k => spec_SignalOk.f k l) (sigB l) := by
  unfold spec_SignalOk.f
  rw [sigB, inB_range]
  rw [all_iff (fun k i => spec_SignalOk.l0 k l i) (fun i => decide (-1000000000 ≤ rd l (i : Int)) && decide (rd l (i : Int) ≤ 1000000000)) l.length _ false]
  · split
    · rename_i hp
      rw [hp, Bool.and_true]
      exact Ev.step (f := fun _ => some (decide (l.length ≤ 512))) (fun k => by simp only [spec_SignalOk.l0]; rw [if_neg (by omega)]; congr 1; rw [decide_eq_decide]; omega) (Ev.now _)
    · rename_i hp
      simp only [Bool.not_eq_true] at hp
      rw [hp, Bool.and_false]
  · intro i hi
    by_cases p : -1000000000 ≤ rd l (i : Int) ∧ rd l (i : Int) ≤ 1000000000
    · rw [if_pos (by simpa using p)]
      rw [ev_shift]
      simp only [spec_SignalOk.l0]
      rw [ev_pos (by omega), ev_pos (by omega), l5Sample_eq]
      simp only [Option.bind_some]
      rw [ev_pos (by simpa using p), w64 (by omega) (by omega)]
    · rw [if_neg (by simpa using p)]
      rw [ev_shift]
      simp only [spec_SignalOk.l0]
      rw [ev_pos (by omega), ev_pos (by omega), l5Sample_eq]
      simp only [Option.bind_some]
      rw [ev_neg (by simpa using p), ev_some_iff]

theorem l10Back_ev (l : List Int) (a : Int) (hl : l.length ≤ 2000000) : Ev (fun k => spec_l10Back.f k l a) (sigB l && decide (1 ≤ a ∧ a ≤ 512)) := by
  unfold spec_l10Back.f
  rw [ev_bind (specSig_ev l hl)]
  by_cases h : sigB l = true
  · rw [ev_pos h, h, Bool.true_and]
    simp only [l1In_eq, Option.bind_some]
    exact Ev.now _
  · rw [ev_neg h, ev_some_iff]
    simp only [Bool.not_eq_true] at h
    rw [h, Bool.false_and]

theorem specGather_ev (l : List Int) (a : Int) (hl : l.length ≤ 2000000) : Ev (fun k => spec_Gather.f k l a) (gathR l a) := by
  unfold spec_Gather.f gathR
  rw [ev_bind (l10Back_ev l a hl)]
  by_cases h : (sigB l && decide (1 ≤ a ∧ a ≤ 512)) = true
  · rw [ev_pos h, if_pos h]
    have ha : 1 ≤ a ∧ a ≤ 512 := by simp at h; exact h.2
    have g := specGatherV_ev l a.toNat hl (by omega) (by omega)
    rw [Int.toNat_of_nonneg (by omega)] at g
    rw [ev_bind g]
    exact Ev.now _
  · rw [ev_neg h, if_neg h]
    exact Ev.now _

theorem FnExactGather : laws_FnExactGather.Pure := by
  intro l0 a1 _ _ wl0 wa1
  refine Ev.rounds (g := fun k => laws_FnExactGather.f k l0 a1) ?_
  by_cases hl0 : (l0.length : Int) > 1048576
  · simp only [laws_FnExactGather.f, if_pos hl0]
    exact Ev.now _
  have hS := specGather_ev l0 a1 (by omega)
  have hI := implGather_ev l0 a1 (by omega)
  have := gathR_length l0 a1 (by omega)
  generalize gathR l0 a1 = R at *
  simp only [laws_FnExactGather.f, if_neg hl0]
  have t_l0 := toIntS_ev l0 (by omega)
  have e_l0 := eqIntS_ev l0 l0 (by omega)
  have v_0 := eqIntS_ev (R.1) (R.1) (by omega)
  have m_l0 := markIntS_ev l0 (1) (by omega) (by omega) (by omega)
  have n_0 := markIntS_ev (R.1) (1) (by omega) (by omega) (by omega)
  have h_0 := heldIntS_ev (R.1).length (1) (by omega) (by omega) (by omega)
  simp only [decide_true] at e_l0 v_0
  repeat (first
    | exact Ev.now _
    | (rw [ev_bind t_l0])
    | (rw [ev_bind e_l0])
    | (rw [ev_bind v_0])
    | (rw [ev_bind m_l0])
    | (rw [ev_bind n_0])
    | (rw [ev_bind h_0])
    | (rw [ev_bind hS])
    | (rw [ev_bind hI])
    | (simp only [if_true, if_false, bne_self_eq_false, Bool.false_eq_true]; done)
    | (rw [ev_neg (by omega)])
    | (rw [ev_pos rfl])
    | (simp only [if_true, if_false, bne_self_eq_false, Bool.false_eq_true])
    | (rw [ev_shift]; simp only [laws_FnExactGather.j0])
    | (rw [ev_shift]; simp only [laws_FnExactGather.j1])
    | (rw [ev_shift]; simp only [laws_FnExactGather.j2])
    | (rw [ev_shift]; simp only [laws_FnExactGather.j3]))

end Go.Proofs.Ytinpmpdkoedjnaa.Pure
