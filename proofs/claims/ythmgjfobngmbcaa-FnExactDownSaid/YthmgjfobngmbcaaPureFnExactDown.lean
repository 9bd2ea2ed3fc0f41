/- The pure part of FnExactDown: the program's Down and the reference's Down compute the same list and flag. No conditions. -/
import Derived.Test.YthmgjfobngmbcaaPFnExactDownx3
import Derived.Test.YthmgjfobngmbcaaBase
namespace Go.Proofs.Ythmgjfobngmbcaa.Pure
open Go.RowKit Go.Proofs.Ythmgjfobngmbcaa.PFnExactDown Go.Proofs.YthmgjfobngmbcaaW.PrintWords Go.Proofs.YthmgjfobngmbcaaW.PrintLast
open Go.Proofs.Ythmgjfobngmbcaa.Base
set_option linter.unusedVariables false
set_option linter.unusedSimpArgs false
/-! ### toIntS, eqIntS, markIntS, heldIntS -/
theorem toIntS_ev (l : List Int) (h : l.length ≤ 2000000) : Ev (fun k => laws_toIntS.f k l) l := by
  unfold laws_toIntS.f
  simp only [Int.toNat_natCast]
  rw [ev_pos (by omega), ev_pos (by omega)]
  rw [(for_iff (fun k s i => laws_toIntS.l0 k l s i) (fun i s => s.set i (rd l (i : Int))) (fun _ s => s.length = l.length) l.length l ?_ _ (by simp)).2]
  · rw [iter_store_all _ _ _ (by simp), tab_rd]
    exact Ev.step (fun k => by simp only [laws_toIntS.l0]; rw [if_neg (by omega)]) (Ev.now _)
  · intro i s hi hs
    refine ⟨by simpa using hs, ?_⟩
    rw [ev_shift]
    simp only [laws_toIntS.l0]
    rw [ev_pos (by omega), ev_pos (by omega), ev_pos (by omega), w64 (by omega) (by omega), Int.toNat_natCast]

theorem eqIntS_ev (a b : List Int) (h : a.length ≤ 2000000) : Ev (fun k => laws_eqIntS.f k a b) (decide (a = b)) := by
  unfold laws_eqIntS.f
  by_cases e : a.length = b.length
  · rw [ev_pos (by omega)]
    rw [all_iff (fun k i => laws_eqIntS.l0 k a b i) (fun i => decide (rd a (i : Int) = rd b (i : Int))) a.length _ false]
    · split
      · rename_i hp
        have : a = b := list_ext_rd e fun i hi => by simpa using range_all.1 hp i hi
        rw [decide_eq_true this]
        exact Ev.step (fun k => by simp only [laws_eqIntS.l0]; rw [if_neg (by omega)]) (Ev.now _)
      · rename_i hp
        have : ¬ a = b := fun h => hp (by subst h; rw [range_all]; simp)
        simp [this]
    · intro i hi
      by_cases p : rd a (i : Int) = rd b (i : Int)
      · rw [if_pos (by simpa using p)]
        rw [ev_shift]
        simp only [laws_eqIntS.l0]
        rw [ev_pos (by omega), ev_pos (by omega), ev_pos (by omega), ev_pos p, w64 (by omega) (by omega)]
      · rw [if_neg (by simpa using p)]
        rw [ev_shift]
        simp only [laws_eqIntS.l0]
        rw [ev_pos (by omega), ev_pos (by omega), ev_pos (by omega), ev_neg p, ev_some_iff]
  · rw [ev_neg (by omega)]
    have : ¬ a = b := fun h => e (by rw [h])
    simp only [this, decide_false]
    exact Ev.now _

theorem markIntS_ev (l : List Int) (m : Int) (h : l.length ≤ 2000000) (h0 : 0 ≤ m) (h1 : m ≤ 1000000000) :
    Ev (fun k => laws_markIntS.f k l m) (m + (l.length : Int), tab l.length (fun i => m + (i : Int))) := by
  unfold laws_markIntS.f
  rw [(for_iff (fun k (s : List Int × Int) i => laws_markIntS.l0 k s.1 s.2 i) (fun i s => (s.1.set i (m + (i : Int)), m + ((i : Int) + 1))) (fun i s => s.1.length = l.length ∧ s.2 = m + (i : Int)) l.length _ ?_ (l, m) ⟨rfl, by simp⟩).2]
  · have hI : ∀ n, n ≤ l.length → iter (fun (i : Nat) (s : List Int × Int) => (s.1.set i (m + (i : Int)), m + ((i : Int) + 1))) n (l, m) = (iter (fun i s => s.set i (m + (i : Int))) n l, m + (n : Int)) := by
      intro n
      induction n with
      | zero => intro _; simp [iter]
      | succ n ih => intro hn; rw [iter_succ, ih (by omega), iter_succ]; simp
    rw [hI _ (Nat.le_refl _), iter_store_all _ _ _ rfl]
    exact Ev.step (fun k => by simp only [laws_markIntS.l0]; rw [if_neg (by simp)]) (Ev.now _)
  · rintro i ⟨s, c⟩ hi ⟨hs, hc⟩
    simp only at hs hc
    subst hc
    refine ⟨⟨by simpa using hs, by simp⟩, ?_⟩
    rw [ev_shift]
    simp only [laws_markIntS.l0]
    rw [ev_pos (by omega), ev_pos (by omega), w64 (by omega) (by omega), w64 (by omega) (by omega), Int.toNat_natCast, Int.add_assoc]

theorem heldIntS_ev (n : Nat) (m : Int) (h : n ≤ 2000000) (h0 : 0 ≤ m) (h1 : m ≤ 1000000000) :
    Ev (fun k => laws_heldIntS.f k (tab n (fun i => m + (i : Int))) m) (m + (n : Int)) := by
  unfold laws_heldIntS.f
  rw [(for_iff (fun k (c : Int) i => laws_heldIntS.l0 k (tab n (fun i => m + (i : Int))) c i) (fun i c => m + ((i : Int) + 1)) (fun i c => c = m + (i : Int)) n _ ?_ m (by simp)).2]
  · have hI : iter (fun (i : Nat) (c : Int) => m + ((i : Int) + 1)) n m = m + (n : Int) := by
      cases n with
      | zero => simp [iter]
      | succ n => rw [iter_succ]; simp
    rw [hI]
    exact Ev.step (fun k => by simp only [laws_heldIntS.l0]; rw [if_neg (by simp)]) (Ev.now _)
  · intro i c hi hc
    refine ⟨by simp, ?_⟩
    rw [ev_shift]
    simp only [laws_heldIntS.l0, tab_length]
    rw [ev_pos (by omega), ev_pos (by omega), rd_tab' hi, ev_pos hc.symm, hc, w64 (by omega) (by omega), w64 (by omega) (by omega), Int.add_assoc]

theorem l1In_eq (a b c : Int) : spec_l1In.f a b c = some (decide (b ≤ a ∧ a ≤ c)) := by
  unfold spec_l1In.f
  by_cases h : a ≥ b
  · rw [if_pos h]
    congr 1
    rw [decide_eq_decide]
    omega
  · rw [if_neg h]
    congr 1
    symm
    rw [decide_eq_false_iff_not]
    omega

theorem l5Sample_eq (a : Int) : spec_l5Sample.f a = some (decide (-1000000000 ≤ a ∧ a ≤ 1000000000)) := by
  unfold spec_l5Sample.f
  rw [l1In_eq]
  rfl
theorem specSig_ev (l : List Int) (hl : l.length ≤ 2000000) : Ev (fun k => spec_SignalOk.f k l) (sigB l) := by
  unfold spec_SignalOk.f
  rw [sigB, inB_range]
  rw [all_iff (fun k i => spec_SignalOk.l0 k l i) (fun i => decide (-1000000000 ≤ rd l (i : Int)) && decide (rd l (i : Int) ≤ 1000000000)) l.length _ false]
  · split
    · rename_i hp
      rw [hp, Bool.and_true]
      exact Ev.step (f := fun _ => some (decide (l.length ≤ 512))) (fun k => by simp only [spec_SignalOk.l0]; rw [if_neg (by omega)]; congr 1; rw [decide_eq_decide]; omega) (Ev.now _)
    · rename_i hp
      simp only [Bool.not_eq_true] at hp
      rw [hp, Bool.and_false]
  · intro i hi
    by_cases p : -1000000000 ≤ rd l (i : Int) ∧ rd l (i : Int) ≤ 1000000000
    · rw [if_pos (by simpa using p)]
      rw [ev_shift]
      simp only [spec_SignalOk.l0]
      rw [ev_pos (by omega), ev_pos (by omega), l5Sample_eq]
      simp only [Option.bind_some]
      rw [ev_pos (by simpa using p), w64 (by omega) (by omega)]
    · rw [if_neg (by simpa using p)]
      rw [ev_shift]
      simp only [spec_SignalOk.l0]
      rw [ev_pos (by omega), ev_pos (by omega), l5Sample_eq]
      simp only [Option.bind_some]
      rw [ev_neg (by simpa using p), ev_some_iff]

theorem within_ev (l : List Int) (m : Int) (hl : l.length ≤ 2000000) (h0 : 0 ≤ m) (h1 : m ≤ 1000000000000) : Ev (fun k => impl_within.f k l m) (inB m l) := by
  unfold impl_within.f
  rw [inB_range]
  rw [all_iff (fun k i => impl_within.l0 k m l (l.length : Int) i) (fun i => decide (-m ≤ rd l (i : Int)) && decide (rd l (i : Int) ≤ m)) l.length _ false]
  · split
    · rename_i hp
      rw [hp]
      exact Ev.step (fun k => by simp only [impl_within.l0]; rw [if_neg (by omega)]) (Ev.now _)
    · rename_i hp
      simpa using hp
  · intro i hi
    by_cases p : -m ≤ rd l (i : Int) ∧ rd l (i : Int) ≤ m
    · rw [if_pos (by simpa using p)]
      rw [ev_shift]
      simp only [impl_within.l0]
      rw [ev_pos (by omega), ev_pos (by omega), ev_pos (by omega), w64 (n := -m) (by omega) (by omega), ev_neg (by omega), ev_neg (by omega), w64 (by omega) (by omega)]
    · rw [if_neg (by simpa using p)]
      rw [ev_shift]
      simp only [impl_within.l0]
      rw [ev_pos (by omega), ev_pos (by omega), ev_pos (by omega), w64 (n := -m) (by omega) (by omega)]
      by_cases q : rd l (i : Int) < -m
      · rw [ev_pos q, ev_some_iff]
      · rw [ev_neg q, ev_pos (by omega), ev_some_iff]

theorem implSig_ev (l : List Int) (hl : l.length ≤ 2000000) : Ev (fun k => impl_SignalOk.f k l) (sigB l) := by
  unfold impl_SignalOk.f
  by_cases h : (l.length : Int) ≤ 512
  · rw [ev_pos h]
    rw [ev_bind (within_ev l 1000000000 hl (by omega) (by omega)), ev_some_iff, sigB, decide_eq_true (by omega : l.length ≤ 512), Bool.true_and]
  · rw [ev_neg h]
    rw [ev_some_iff, sigB, decide_eq_false (by omega : ¬ l.length ≤ 512), Bool.false_and]

/-! ### Down: each 'by'th from a phase on -/
def thinV (l : List Int) (c ph : Nat) : List Int := tab ((l.length - ph + c - 1) / c) (fun i => rd l ((ph : Int) + (i : Int) * (c : Int)))
theorem thinV_length (l : List Int) (c ph : Nat) (hc : 0 < c) : (thinV l c ph).length ≤ l.length := by
  unfold thinV
  rw [tab_length]
  apply Nat.le_of_not_lt
  intro h
  have := (steps_lt hc).1 h
  have : l.length * 1 ≤ l.length * c := Nat.mul_le_mul_left _ hc
  omega

theorem implThin_ev (l : List Int) (c ph : Nat) (hl : l.length ≤ 2000000) (hc : 0 < c) (hc1 : c ≤ 2000000) (hp : ph ≤ 2000000) :
    Ev (fun k => impl_thin.f k l (c : Int) (ph : Int)) (thinV l c ph) := by
  unfold impl_thin.f
  have hpos := (for_pos (fun k s i => impl_thin.l0 k l (c : Int) s i) (fun i => (ph : Int) + (i : Int) * (c : Int)) (fun i s => s ++ [rd l ((ph : Int) + (i : Int) * (c : Int))]) (fun i s => s.length = i) ((l.length - ph + c - 1) / c) (thinV l c ph) ?_ [] rfl).2
  · simp only [Int.ofNat_zero, Int.zero_mul, Int.add_zero] at hpos
    rw [hpos, iter_push, List.nil_append, ev_shift]
    simp only [impl_thin.l0]
    have hn : ¬ (l.length - ph + c - 1) / c < (l.length - ph + c - 1) / c := Nat.lt_irrefl _
    rw [steps_lt hc] at hn
    generalize hq : (l.length - ph + c - 1) / c = q at *
    have hq' : ((q * c : Nat) : Int) = (q : Int) * (c : Int) := by simp
    rw [ev_neg (by omega)]
    rw [thinV, hq]
    exact Ev.now _
  · intro i s hi hs
    have h2 := (steps_lt hc).1 hi
    have h1 : ((i * c : Nat) : Int) = (i : Int) * (c : Int) := by simp
    have h3 : i * 1 ≤ i * c := Nat.mul_le_mul_left _ hc
    refine ⟨by simp [hs], ?_⟩
    rw [ev_shift]
    simp only [impl_thin.l0]
    rw [ev_pos (by omega), ev_pos (by omega), ev_pos (by omega), w64 (by omega) (by omega)]
    congr 1
    have h4 : (((i + 1 : Nat) : Int)) * (c : Int) = (i : Int) * (c : Int) + (c : Int) := by rw [Int.natCast_add, Int.add_mul]; simp
    rw [h4, Int.add_assoc]
theorem isRate_eq (a : Int) : impl_isRate.f a = some (decide (1 ≤ a ∧ a ≤ 16)) := by
  unfold impl_isRate.f
  by_cases h : a ≥ 1
  · rw [if_pos h]
    congr 1
    rw [decide_eq_decide]
    omega
  · rw [if_neg h]
    congr 1
    symm
    rw [decide_eq_false_iff_not]
    omega

theorem l11By_eq (a : Int) : spec_l11By.f a = some (decide (1 ≤ a ∧ a ≤ 16)) := by
  unfold spec_l11By.f
  rw [l1In_eq]
  rfl
open Classical in
noncomputable def downR (l : List Int) (a b : Int) : List Int × Bool :=
  if sigB l = true ∧ 1 ≤ a ∧ a ≤ 16 ∧ 0 ≤ b ∧ b < a then (thinV l a.toNat b.toNat, true) else ([], false)
theorem downR_length (l : List Int) (a b : Int) : (downR l a b).1.length ≤ 2000000 := by
  unfold downR
  split
  · rename_i h
    have := thinV_length l a.toNat b.toNat (by omega)
    have := (sigB_iff.1 h.1).1
    simp only
    omega
  · simp
theorem implDown_ev (l : List Int) (a b : Int) (hl : l.length ≤ 2000000) : Ev (fun k => impl_Down.f k l a b) (downR l a b) := by
  unfold impl_Down.f
  rw [ev_bind (implSig_ev l hl)]
  simp only [isRate_eq, Option.bind_some]
  by_cases hs : sigB l = true
  · rw [ev_pos hs]
    by_cases ha : 1 ≤ a ∧ a ≤ 16
    · rw [ev_pos (by simpa using ha)]
      by_cases hb : b < 0
      · rw [ev_pos hb, downR, if_neg (by omega)]
        exact Ev.now _
      · rw [ev_neg hb]
        by_cases hb2 : b ≥ a
        · rw [ev_pos hb2, downR, if_neg (by omega)]
          exact Ev.now _
        · rw [ev_neg hb2, downR, if_pos ⟨hs, ha.1, ha.2, by omega, by omega⟩]
          have h := implThin_ev l a.toNat b.toNat hl (by omega) (by omega) (by omega)
          rw [Int.toNat_of_nonneg (by omega), Int.toNat_of_nonneg (by omega)] at h
          rw [ev_bind h]
          exact Ev.now _
    · rw [ev_neg (by simpa using ha), downR, if_neg (by omega)]
      exact Ev.now _
  · rw [ev_neg hs, downR, if_neg (fun h => hs h.1)]
    exact Ev.now _
theorem specThin_ev (l : List Int) (c ph : Nat) (hl : l.length ≤ 2000000) (hc : 0 < c) (hc1 : c ≤ 2000000) (hp : ph ≤ 2000000) :
    Ev (fun k => spec_Down.l0 k l (c : Int) [] (ph : Int)) (thinV l c ph, true) := by
  have hpos := (for_pos (fun k s i => spec_Down.l0 k l (c : Int) s i) (fun i => (ph : Int) + (i : Int) * (c : Int)) (fun i s => s ++ [rd l ((ph : Int) + (i : Int) * (c : Int))]) (fun i s => s.length = i) ((l.length - ph + c - 1) / c) (thinV l c ph, true) ?_ [] rfl).2
  · simp only [Int.ofNat_zero, Int.zero_mul, Int.add_zero] at hpos
    rw [hpos, iter_push, List.nil_append, ev_shift]
    simp only [spec_Down.l0]
    have hn : ¬ (l.length - ph + c - 1) / c < (l.length - ph + c - 1) / c := Nat.lt_irrefl _
    rw [steps_lt hc] at hn
    generalize hq : (l.length - ph + c - 1) / c = q at *
    have hq' : ((q * c : Nat) : Int) = (q : Int) * (c : Int) := by simp
    rw [ev_neg (by omega)]
    rw [thinV, hq]
    exact Ev.now _
  · intro i s hi hs
    have h2 := (steps_lt hc).1 hi
    have h1 : ((i * c : Nat) : Int) = (i : Int) * (c : Int) := by simp
    have h3 : i * 1 ≤ i * c := Nat.mul_le_mul_left _ hc
    refine ⟨by simp [hs], ?_⟩
    rw [ev_shift]
    simp only [spec_Down.l0]
    rw [ev_pos (by omega), ev_pos (by omega), ev_pos (by omega), w64 (by omega) (by omega)]
    congr 1
    have h4 : (((i + 1 : Nat) : Int)) * (c : Int) = (i : Int) * (c : Int) + (c : Int) := by rw [Int.natCast_add, Int.add_mul]; simp
    rw [h4, Int.add_assoc]
theorem specDown_ev (l : List Int) (a b : Int) (hl : l.length ≤ 2000000) (ha0 : -9223372036854775808 ≤ a) : Ev (fun k => spec_Down.f k l a b) (downR l a b) := by
  unfold spec_Down.f
  simp only [Option.bind_some]
  rw [ev_bind (specSig_ev l hl)]
  simp only [l11By_eq, l1In_eq, Option.bind_some]
  by_cases hs : sigB l = true
  · rw [ev_pos hs]
    by_cases ha : 1 ≤ a ∧ a ≤ 16
    · rw [ev_pos (by simpa using ha), w64 (by omega) (by omega), ev_shift]
      simp only [spec_Down.j0]
      by_cases hb : 0 ≤ b ∧ b ≤ a - 1
      · rw [ev_neg (by simpa using hb), downR, if_pos ⟨hs, ha.1, ha.2, by omega, by omega⟩]
        have h := specThin_ev l a.toNat b.toNat hl (by omega) (by omega) (by omega)
        rw [Int.toNat_of_nonneg (by omega), Int.toNat_of_nonneg (by omega)] at h
        exact h
      · rw [ev_pos (by rw [decide_eq_false hb]; rfl), downR, if_neg (by omega)]
        exact Ev.now _
    · rw [ev_neg (by simpa using ha), downR, if_neg (by omega), ev_shift]
      simp only [spec_Down.j0, if_true]
      exact Ev.now _
  · rw [ev_neg hs, downR, if_neg (fun h => hs h.1), ev_shift]
    simp only [spec_Down.j0, if_true]
    exact Ev.now _

theorem FnExactDown : laws_FnExactDown.Pure := by
  intro l0 a1 a2 _ _ _ h1 _
  refine Ev.rounds (g := fun k => laws_FnExactDown.f k l0 a1 a2) ?_
  by_cases hlen : (l0.length : Int) > 1048576
  · simp only [laws_FnExactDown.f, if_pos hlen]
    exact Ev.now _
  have hS := specDown_ev l0 a1 a2 (by omega) (wf64 h1).1
  have hI := implDown_ev l0 a1 a2 (by omega)
  have hv := downR_length l0 a1 a2
  generalize downR l0 a1 a2 = R at *
  simp only [laws_FnExactDown.f, if_neg hlen]
  have t_l0 := toIntS_ev l0 (by omega)
  have e_l0 := eqIntS_ev l0 l0 (by omega)
  have v_0 := eqIntS_ev (R.1) (R.1) (by omega)
  have m_l0 := markIntS_ev l0 (1) (by omega) (by omega) (by omega)
  have n_0 := markIntS_ev (R.1) (1) (by omega) (by omega) (by omega)
  have h_0 := heldIntS_ev (R.1).length (1) (by omega) (by omega) (by omega)
  simp only [decide_true] at e_l0 v_0
  repeat (first
    | exact Ev.now _
    | (rw [ev_bind t_l0])
    | (rw [ev_bind e_l0])
    | (rw [ev_bind v_0])
    | (rw [ev_bind m_l0])
    | (rw [ev_bind n_0])
    | (rw [ev_bind h_0])
    | (rw [ev_bind hS])
    | (rw [ev_bind hI])
    | (simp only [if_true, if_false, bne_self_eq_false, Bool.false_eq_true]; done)
    | (rw [ev_neg (by omega)])
    | (rw [ev_pos rfl])
    | (simp only [if_true, if_false, bne_self_eq_false, Bool.false_eq_true])
    | (rw [ev_shift]; simp only [laws_FnExactDown.j0])
    | (rw [ev_shift]; simp only [laws_FnExactDown.j1])
    | (rw [ev_shift]; simp only [laws_FnExactDown.j2])
    | (rw [ev_shift]; simp only [laws_FnExactDown.j3]))

end Go.Proofs.Ythmgjfobngmbcaa.Pure
