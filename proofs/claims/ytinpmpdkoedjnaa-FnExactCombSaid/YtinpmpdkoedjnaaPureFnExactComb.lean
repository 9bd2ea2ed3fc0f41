/- The pure part of FnExactComb: the program's Comb and the reference's Comb answer alike. No conditions. -/
import Derived.Test.YtinpmpdkoedjnaaPFnExactCombx3
import Derived.Test.YtinpmpdkoedjnaaBase
namespace Go.Proofs.Ytinpmpdkoedjnaa.Pure
open Go.RowKit Go.Proofs.Ytinpmpdkoedjnaa.PFnExactComb Go.Proofs.YtinpmpdkoedjnaaW.PrintWords Go.Proofs.YtinpmpdkoedjnaaW.PrintLast
open Go.Proofs.Ytinpmpdkoedjnaa.Base
set_option linter.unusedVariables false
set_option linter.unusedSimpArgs false
/-! ### toIntS, eqIntS, markIntS, heldIntS -/
theorem toIntS_ev (l : List Int) (h : l.length ≤ 2000000) : Ev (fun k => laws_toIntS.f k l) l := by
  unfold laws_toIntS.f
  simp only [Int.toNat_natCast]
  rw [ev_pos (by omega), ev_pos (by omega)]
  rw [(for_iff (fun k s i => laws_toIntS.l0 k l s i) (fun i s => s.set i (rd l (i : Int))) (fun _ s => s.length = l.length) l.length l ?_ _ (by simp)).2]
  · rw [iter_store_all _ _ _ (by simp), tab_rd]
    exact Ev.step (fun k => by simp only [laws_toIntS.l0]; rw [if_neg (by omega)]) (Ev.now _)
  · intro i s hi hs
    refine ⟨by simpa using hs, ?_⟩
    rw [ev_shift]
    simp only [laws_toIntS.l0]
    rw [ev_pos (by omega), ev_pos (by omega), ev_pos (by omega), w64 (by omega) (by omega), Int.toNat_natCast]

theorem eqIntS_ev (a b : List Int) (h : a.length ≤ 2000000) : Ev (fun k => laws_eqIntS.f k a b) (decide (a = b)) := by
  unfold laws_eqIntS.f
  by_cases e : a.length = b.length
  · rw [ev_pos (by omega)]
    rw [all_iff (fun k i => laws_eqIntS.l0 k a b i) (fun i => decide (rd a (i : Int) = rd b (i : Int))) a.length _ false]
    · split
      · rename_i hp
        have : a = b := list_ext_rd e fun i hi => by simpa using range_all.1 hp i hi
        rw [decide_eq_true this]
        exact Ev.step (fun k => by simp only [laws_eqIntS.l0]; rw [if_neg (by omega)]) (Ev.now _)
      · rename_i hp
        have : ¬ a = b := fun h => hp (by subst h; rw [range_all]; simp)
        simp [this]
    · intro i hi
      by_cases p : rd a (i : Int) = rd b (i : Int)
      · rw [if_pos (by simpa using p)]
        rw [ev_shift]
        simp only [laws_eqIntS.l0]
        rw [ev_pos (by omega), ev_pos (by omega), ev_pos (by omega), ev_pos p, w64 (by omega) (by omega)]
      · rw [if_neg (by simpa using p)]
        rw [ev_shift]
        simp only [laws_eqIntS.l0]
        rw [ev_pos (by omega), ev_pos (by omega), ev_pos (by omega), ev_neg p, ev_some_iff]
  · rw [ev_neg (by omega)]
    have : ¬ a = b := fun h => e (by rw [h])
    simp only [this, decide_false]
    exact Ev.now _

theorem markIntS_ev (l : List Int) (m : Int) (h : l.length ≤ 2000000) (h0 : 0 ≤ m) (h1 : m ≤ 1000000000) :
    Ev (fun k => laws_markIntS.f k l m) (m + (l.length : Int), tab l.length (fun i => m + (i : Int))) := by
  unfold laws_markIntS.f
  rw [(for_iff (fun k (s : List Int × Int) i => laws_markIntS.l0 k s.1 s.2 i) (fun i s => (s.1.set i (m + (i : Int)), m + ((i : Int) + 1))) (fun i s => s.1.length = l.length ∧ s.2 = m + (i : Int)) l.length _ ?_ (l, m) ⟨rfl, by simp⟩).2]
  · have hI : ∀ n, n ≤ l.length → iter (fun (i : Nat) (s : List Int × Int) => (s.1.set i (m + (i : Int)), m + ((i : Int) + 1))) n (l, m) = (iter (fun i s => s.set i (m + (i : Int))) n l, m + (n : Int)) := by
      intro n
      induction n with
      | zero => intro _; simp [iter]
      | succ n ih => intro hn; rw [iter_succ, ih (by omega), iter_succ]; simp
    rw [hI _ (Nat.le_refl _), iter_store_all _ _ _ rfl]
    exact Ev.step (fun k => by simp only [laws_markIntS.l0]; rw [if_neg (by simp)]) (Ev.now _)
  · rintro i ⟨s, c⟩ hi ⟨hs, hc⟩
    simp only at hs hc
    subst hc
    refine ⟨⟨by simpa using hs, by simp⟩, ?_⟩
    rw [ev_shift]
    simp only [laws_markIntS.l0]
    rw [ev_pos (by omega), ev_pos (by omega), w64 (by omega) (by omega), w64 (by omega) (by omega), Int.toNat_natCast, Int.add_assoc]

theorem heldIntS_ev (n : Nat) (m : Int) (h : n ≤ 2000000) (h0 : 0 ≤ m) (h1 : m ≤ 1000000000) :
    Ev (fun k => laws_heldIntS.f k (tab n (fun i => m + (i : Int))) m) (m + (n : Int)) := by
  unfold laws_heldIntS.f
  rw [(for_iff (fun k (c : Int) i => laws_heldIntS.l0 k (tab n (fun i => m + (i : Int))) c i) (fun i c => m + ((i : Int) + 1)) (fun i c => c = m + (i : Int)) n _ ?_ m (by simp)).2]
  · have hI : iter (fun (i : Nat) (c : Int) => m + ((i : Int) + 1)) n m = m + (n : Int) := by
      cases n with
      | zero => simp [iter]
      | succ n => rw [iter_succ]; simp
    rw [hI]
    exact Ev.step (fun k => by simp only [laws_heldIntS.l0]; rw [if_neg (by simp)]) (Ev.now _)
  · intro i c hi hc
    refine ⟨by simp, ?_⟩
    rw [ev_shift]
    simp only [laws_heldIntS.l0, tab_length]
    rw [ev_pos (by omega), ev_pos (by omega), rd_tab' hi, ev_pos hc.symm, hc, w64 (by omega) (by omega), w64 (by omega) (by omega), Int.add_assoc]

theorem within_ev (l : List Int) (m : Int) (hl : l.length ≤ 2000000) (h0 : 0 ≤ m) (h1 : m ≤ 1000000000000) : Ev (fun k => impl_within.f k l m) (inB m l) := by
  unfold impl_within.f
  rw [inB_range]
  rw [all_iff (fun k i => impl_within.l0 k m l (l.length : Int) i) (fun i => decide (-m ≤ rd l (i : Int)) && decide (rd l (i : Int) ≤ m)) l.length _ false]
  · split
    · rename_i hp
      rw [hp]
      exact Ev.step (fun k => by simp only [impl_within.l0]; rw [if_neg (by omega)]) (Ev.now _)
    · rename_i hp
      simpa using hp
  · intro i hi
    by_cases p : -m ≤ rd l (i : Int) ∧ rd l (i : Int) ≤ m
    · rw [if_pos (by simpa using p)]
      rw [ev_shift]
      simp only [impl_within.l0]
      rw [ev_pos (by omega), ev_pos (by omega), ev_pos (by omega), w64 (n := -m) (by omega) (by omega), ev_neg (by omega), ev_neg (by omega), w64 (by omega) (by omega)]
    · rw [if_neg (by simpa using p)]
      rw [ev_shift]
      simp only [impl_within.l0]
      rw [ev_pos (by omega), ev_pos (by omega), ev_pos (by omega), w64 (n := -m) (by omega) (by omega)]
      by_cases q : rd l (i : Int) < -m
      · rw [ev_pos q, ev_some_iff]
      · rw [ev_neg q, ev_pos (by omega), ev_some_iff]

theorem implSig_ev (l : List Int) (hl : l.length ≤ 2000000) : Ev (fun k => impl_SignalOk.f k l) (sigB l) := by
  unfold impl_SignalOk.f
  by_cases h : (l.length : Int) ≤ 512
  · rw [ev_pos h]
    rw [ev_bind (within_ev l 1000000000 hl (by omega) (by omega)), ev_some_iff, sigB, decide_eq_true (by omega : l.length ≤ 512), Bool.true_and]
  · rw [ev_neg h]
    rw [ev_some_iff, sigB, decide_eq_false (by omega : ¬ l.length ≤ 512), Bool.false_and]

theorem combOk_ev (l : List Int) (a : Int) (hl : l.length ≤ 2000000) : Ev (fun k => impl_combOk.f k l a) (sigB l && decide (1 ≤ a ∧ a ≤ 512)) := by
  unfold impl_combOk.f
  rw [ev_bind (implSig_ev l hl)]
  by_cases h : sigB l = true
  · rw [ev_pos h, h, Bool.true_and]
    by_cases h1 : a ≥ 1
    · rw [ev_pos h1, ev_some_iff, decide_eq_decide]
      omega
    · rw [ev_neg h1, ev_some_iff, decide_eq_false (by omega)]
  · rw [ev_neg h, ev_some_iff]
    simp only [Bool.not_eq_true] at h
    rw [h, Bool.false_and]

def combV (l : List Int) (a : Int) : List Int := tab l.length fun i => if (i : Int) ≥ a then wrap64 (rd l (i : Int) - rd l ((i : Int) - a)) else rd l (i : Int)
def combR (l : List Int) (a : Int) : List Int × Bool := if (sigB l && decide (1 ≤ a ∧ a ≤ 512)) = true then (combV l a, true) else ([], false)
theorem combR_length (l : List Int) (a : Int) (hl : l.length ≤ 2000000) : (combR l a).1.length ≤ 2000000 := by
  unfold combR
  split
  · simpa [combV] using hl
  · simp
theorem implComb_ev (l : List Int) (a : Int) (hl : l.length ≤ 2000000) : Ev (fun k => impl_Comb.f k l a) (combR l a) := by
  unfold impl_Comb.f combR
  rw [ev_bind (combOk_ev l a hl)]
  by_cases h : (sigB l && decide (1 ≤ a ∧ a ≤ 512)) = true
  · rw [ev_pos h, if_pos h]
    have ha : 1 ≤ a ∧ a ≤ 512 := by simp at h; exact h.2
    rw [(for_iff (fun k s i => impl_Comb.l0 k l a s l (l.length : Int) i) (fun i s => s ++ [if (i : Int) ≥ a then wrap64 (rd l (i : Int) - rd l ((i : Int) - a)) else rd l (i : Int)]) (fun i s => s.length = i) l.length _ ?_ [] rfl).2]
    · rw [iter_push, ev_shift]
      simp only [impl_Comb.l0]
      rw [ev_neg (by omega)]
      exact Ev.now _
    · intro i s hi hs
      refine ⟨by simp [hs], ?_⟩
      rw [ev_shift]
      simp only [impl_Comb.l0]
      rw [ev_pos (by omega), ev_pos (by omega), ev_pos (by omega), w64 (n := (i : Int) + 1) (by omega) (by omega)]
      by_cases c : (i : Int) ≥ a
      · rw [ev_pos c, if_pos c, w64 (n := (i : Int) - a) (by omega) (by omega), ev_pos (by omega), ev_pos (by omega), ev_pos (by omega)]
      · rw [ev_neg c, if_neg c, ev_pos (by omega)]
  · rw [ev_neg h, if_neg h]
    exact Ev.now _

theorem l1In_eq (a b c : Int) : spec_l1In.f a b c = some (decide (b ≤ a ∧ a ≤ c)) := by
  unfold spec_l1In.f
  by_cases h : a ≥ b
  · rw [if_pos h]
    congr 1
    rw [decide_eq_decide]
    omega
  · rw [if_neg h]
    congr 1
    symm
    rw [decide_eq_false_iff_not]
    omega

theorem l5Sample_eq (a : Int) : spec_l5Sample.f a = some (decide (-1000000000 ≤ a ∧ a ≤ 1000000000)) := by
  unfold spec_l5Sample.f
  rw [l1In_eq]
  rfl
theorem specSig_ev (l : List Int) (hl : l.length ≤ 2000000) : Ev (fun k => spec_SignalOk.f k l) (sigB l) := by
  unfold spec_SignalOk.f
  rw [sigB, inB_range]
  rw [all_iff (fun k i => spec_SignalOk.l0 k l i) (fun i => decide (-1000000000 ≤ rd l (i : Int)) && decide (rd l (i : Int) ≤ 1000000000)) l.length _ false]
  · split
    · rename_i hp
      rw [hp, Bool.and_true]
      exact Ev.step (f := fun _ => some (decide (l.length ≤ 512))) (fun k => by simp only [spec_SignalOk.l0]; rw [if_neg (by omega)]; congr 1; rw [decide_eq_decide]; omega) (Ev.now _)
    · rename_i hp
      simp only [Bool.not_eq_true] at hp
      rw [hp, Bool.and_false]
  · intro i hi
    by_cases p : -1000000000 ≤ rd l (i : Int) ∧ rd l (i : Int) ≤ 1000000000
    · rw [if_pos (by simpa using p)]
      rw [ev_shift]
      simp only [spec_SignalOk.l0]
      rw [ev_pos (by omega), ev_pos (by omega), l5Sample_eq]
      simp only [Option.bind_some]
      rw [ev_pos (by simpa using p), w64 (by omega) (by omega)]
    · rw [if_neg (by simpa using p)]
      rw [ev_shift]
      simp only [spec_SignalOk.l0]
      rw [ev_pos (by omega), ev_pos (by omega), l5Sample_eq]
      simp only [Option.bind_some]
      rw [ev_neg (by simpa using p), ev_some_iff]

theorem l10Back_ev (l : List Int) (a : Int) (hl : l.length ≤ 2000000) : Ev (fun k => spec_l10Back.f k l a) (sigB l && decide (1 ≤ a ∧ a ≤ 512)) := by
  unfold spec_l10Back.f
  rw [ev_bind (specSig_ev l hl)]
  by_cases h : sigB l = true
  · rw [ev_pos h, h, Bool.true_and]
    simp only [l1In_eq, Option.bind_some]
    exact Ev.now _
  · rw [ev_neg h, ev_some_iff]
    simp only [Bool.not_eq_true] at h
    rw [h, Bool.false_and]

theorem specComb_ev (l : List Int) (a : Int) (hl : l.length ≤ 2000000) : Ev (fun k => spec_Comb.f k l a) (combR l a) := by
  unfold spec_Comb.f combR
  simp only [Option.bind_some]
  rw [ev_bind (l10Back_ev l a hl)]
  by_cases h : (sigB l && decide (1 ≤ a ∧ a ≤ 512)) = true
  · rw [ev_pos h, if_pos h]
    have ha : 1 ≤ a ∧ a ≤ 512 := by simp at h; exact h.2
    rw [(for_iff (fun k s i => spec_Comb.l0 k l a s i) (fun i s => s ++ [if (i : Int) ≥ a then wrap64 (rd l (i : Int) - rd l ((i : Int) - a)) else rd l (i : Int)]) (fun i s => s.length = i) l.length _ ?_ [] rfl).2]
    · rw [iter_push, ev_shift]
      simp only [spec_Comb.l0]
      rw [ev_neg (by omega)]
      exact Ev.now _
    · intro i s hi hs
      refine ⟨by simp [hs], ?_⟩
      rw [ev_shift]
      simp only [spec_Comb.l0]
      rw [ev_pos (by omega), ev_pos (by omega), w64 (n := (i : Int) + 1) (by omega) (by omega)]
      by_cases c : (i : Int) ≥ a
      · rw [ev_pos c, if_pos c, w64 (n := (i : Int) - a) (by omega) (by omega), ev_pos (by omega), ev_pos (by omega), ev_pos (by omega)]
      · rw [ev_neg c, if_neg c, ev_pos (by omega)]
  · rw [ev_neg h, if_neg h]
    exact Ev.now _

theorem FnExactComb : laws_FnExactComb.Pure := by
  intro l0 a1 _ _ wl0 wa1
  refine Ev.rounds (g := fun k => laws_FnExactComb.f k l0 a1) ?_
  by_cases hl0 : (l0.length : Int) > 1048576
  · simp only [laws_FnExactComb.f, if_pos hl0]
    exact Ev.now _
  have hS := specComb_ev l0 a1 (by omega)
  have hI := implComb_ev l0 a1 (by omega)
  have := combR_length l0 a1 (by omega)
  generalize combR l0 a1 = R at *
  simp only [laws_FnExactComb.f, if_neg hl0]
  have t_l0 := toIntS_ev l0 (by omega)
  have e_l0 := eqIntS_ev l0 l0 (by omega)
  have v_0 := eqIntS_ev (R.1) (R.1) (by omega)
  have m_l0 := markIntS_ev l0 (1) (by omega) (by omega) (by omega)
  have n_0 := markIntS_ev (R.1) (1) (by omega) (by omega) (by omega)
  have h_0 := heldIntS_ev (R.1).length (1) (by omega) (by omega) (by omega)
  simp only [decide_true] at e_l0 v_0
  repeat (first
    | exact Ev.now _
    | (rw [ev_bind t_l0])
    | (rw [ev_bind e_l0])
    | (rw [ev_bind v_0])
    | (rw [ev_bind m_l0])
    | (rw [ev_bind n_0])
    | (rw [ev_bind h_0])
    | (rw [ev_bind hS])
    | (rw [ev_bind hI])
    | (simp only [if_true, if_false, bne_self_eq_false, Bool.false_eq_true]; done)
    | (rw [ev_neg (by omega)])
    | (rw [ev_pos rfl])
    | (simp only [if_true, if_false, bne_self_eq_false, Bool.false_eq_true])
    | (rw [ev_shift]; simp only [laws_FnExactComb.j0])
    | (rw [ev_shift]; simp only [laws_FnExactComb.j1])
    | (rw [ev_shift]; simp only [laws_FnExactComb.j2])
    | (rw [ev_shift]; simp only [laws_FnExactComb.j3]))

end Go.Proofs.Ytinpmpdkoedjnaa.Pure
