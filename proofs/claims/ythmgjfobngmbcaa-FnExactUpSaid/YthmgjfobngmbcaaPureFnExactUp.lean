/- The pure part of FnExactUp: the program's Up and the reference's Up compute the same list and flag. No conditions. -/
import Derived.Test.YthmgjfobngmbcaaPFnExactUpx3
import Derived.Test.YthmgjfobngmbcaaBase
namespace Go.Proofs.Ythmgjfobngmbcaa.Pure
open Go.RowKit Go.Proofs.Ythmgjfobngmbcaa.PFnExactUp Go.Proofs.YthmgjfobngmbcaaW.PrintWords Go.Proofs.YthmgjfobngmbcaaW.PrintLast
open Go.Proofs.Ythmgjfobngmbcaa.Base
set_option linter.unusedVariables false
set_option linter.unusedSimpArgs false
/-! ### toIntS, eqIntS, markIntS, heldIntS -/
theorem toIntS_ev (l : List Int) (h : l.length ≤ 2000000) : Ev (fun k => laws_toIntS.f k l) l := by
  unfold laws_toIntS.f
  simp only [Int.toNat_natCast]
  rw [ev_pos (by omega), ev_pos (by omega)]
  rw [(for_iff (fun k s i => laws_toIntS.l0 k l s i) (fun i s => s.set i (rd l (i : Int))) (fun _ s => s.length = l.length) l.length l ?_ _ (by simp)).2]
  · rw [iter_store_all _ _ _ (by simp), tab_rd]
    exact Ev.step (fun k => by simp only [laws_toIntS.l0]; rw [if_neg (by omega)]) (Ev.now _)
  · intro i s hi hs
    refine ⟨by simpa using hs, ?_⟩
    rw [ev_shift]
    simp only [laws_toIntS.l0]
    rw [ev_pos (by omega), ev_pos (by omega), ev_pos (by omega), w64 (by omega) (by omega), Int.toNat_natCast]

theorem eqIntS_ev (a b : List Int) (h : a.length ≤ 2000000) : Ev (fun k => laws_eqIntS.f k a b) (decide (a = b)) := by
  unfold laws_eqIntS.f
  by_cases e : a.length = b.length
  · rw [ev_pos (by omega)]
    rw [all_iff (fun k i => laws_eqIntS.l0 k a b i) (fun i => decide (rd a (i : Int) = rd b (i : Int))) a.length _ false]
    · split
      · rename_i hp
        have : a = b := list_ext_rd e fun i hi => by simpa using range_all.1 hp i hi
        rw [decide_eq_true this]
        exact Ev.step (fun k => by simp only [laws_eqIntS.l0]; rw [if_neg (by omega)]) (Ev.now _)
      · rename_i hp
        have : ¬ a = b := fun h => hp (by subst h; rw [range_all]; simp)
        simp [this]
    · intro i hi
      by_cases p : rd a (i : Int) = rd b (i : Int)
      · rw [if_pos (by simpa using p)]
        rw [ev_shift]
        simp only [laws_eqIntS.l0]
        rw [ev_pos (by omega), ev_pos (by omega), ev_pos (by omega), ev_pos p, w64 (by omega) (by omega)]
      · rw [if_neg (by simpa using p)]
        rw [ev_shift]
        simp only [laws_eqIntS.l0]
        rw [ev_pos (by omega), ev_pos (by omega), ev_pos (by omega), ev_neg p, ev_some_iff]
  · rw [ev_neg (by omega)]
    have : ¬ a = b := fun h => e (by rw [h])
    simp only [this, decide_false]
    exact Ev.now _

theorem markIntS_ev (l : List Int) (m : Int) (h : l.length ≤ 2000000) (h0 : 0 ≤ m) (h1 : m ≤ 1000000000) :
    Ev (fun k => laws_markIntS.f k l m) (m + (l.length : Int), tab l.length (fun i => m + (i : Int))) := by
  unfold laws_markIntS.f
  rw [(for_iff (fun k (s : List Int × Int) i => laws_markIntS.l0 k s.1 s.2 i) (fun i s => (s.1.set i (m + (i : Int)), m + ((i : Int) + 1))) (fun i s => s.1.length = l.length ∧ s.2 = m + (i : Int)) l.length _ ?_ (l, m) ⟨rfl, by simp⟩).2]
  · have hI : ∀ n, n ≤ l.length → iter (fun (i : Nat) (s : List Int × Int) => (s.1.set i (m + (i : Int)), m + ((i : Int) + 1))) n (l, m) = (iter (fun i s => s.set i (m + (i : Int))) n l, m + (n : Int)) := by
      intro n
      induction n with
      | zero => intro _; simp [iter]
      | succ n ih => intro hn; rw [iter_succ, ih (by omega), iter_succ]; simp
    rw [hI _ (Nat.le_refl _), iter_store_all _ _ _ rfl]
    exact Ev.step (fun k => by simp only [laws_markIntS.l0]; rw [if_neg (by simp)]) (Ev.now _)
  · rintro i ⟨s, c⟩ hi ⟨hs, hc⟩
    simp only at hs hc
    subst hc
    refine ⟨⟨by simpa using hs, by simp⟩, ?_⟩
    rw [ev_shift]
    simp only [laws_markIntS.l0]
    rw [ev_pos (by omega), ev_pos (by omega), w64 (by omega) (by omega), w64 (by omega) (by omega), Int.toNat_natCast, Int.add_assoc]

theorem heldIntS_ev (n : Nat) (m : Int) (h : n ≤ 2000000) (h0 : 0 ≤ m) (h1 : m ≤ 1000000000) :
    Ev (fun k => laws_heldIntS.f k (tab n (fun i => m + (i : Int))) m) (m + (n : Int)) := by
  unfold laws_heldIntS.f
  rw [(for_iff (fun k (c : Int) i => laws_heldIntS.l0 k (tab n (fun i => m + (i : Int))) c i) (fun i c => m + ((i : Int) + 1)) (fun i c => c = m + (i : Int)) n _ ?_ m (by simp)).2]
  · have hI : iter (fun (i : Nat) (c : Int) => m + ((i : Int) + 1)) n m = m + (n : Int) := by
      cases n with
      | zero => simp [iter]
      | succ n => rw [iter_succ]; simp
    rw [hI]
    exact Ev.step (fun k => by simp only [laws_heldIntS.l0]; rw [if_neg (by simp)]) (Ev.now _)
  · intro i c hi hc
    refine ⟨by simp, ?_⟩
    rw [ev_shift]
    simp only [laws_heldIntS.l0, tab_length]
    rw [ev_pos (by omega), ev_pos (by omega), rd_tab' hi, ev_pos hc.symm, hc, w64 (by omega) (by omega), w64 (by omega) (by omega), Int.add_assoc]

theorem l1In_eq (a b c : Int) : spec_l1In.f a b c = some (decide (b ≤ a ∧ a ≤ c)) := by
  unfold spec_l1In.f
  by_cases h : a ≥ b
  · rw [if_pos h]
    congr 1
    rw [decide_eq_decide]
    omega
  · rw [if_neg h]
    congr 1
    symm
    rw [decide_eq_false_iff_not]
    omega

theorem l5Sample_eq (a : Int) : spec_l5Sample.f a = some (decide (-1000000000 ≤ a ∧ a ≤ 1000000000)) := by
  unfold spec_l5Sample.f
  rw [l1In_eq]
  rfl
theorem specSig_ev (l : List Int) (hl : l.length ≤ 2000000) : Ev (fun k => spec_SignalOk.f k l) (sigB l) := by
  unfold spec_SignalOk.f
  rw [sigB, inB_range]
  rw [all_iff (fun k i => spec_SignalOk.l0 k l i) (fun i => decide (-1000000000 ≤ rd l (i : Int)) && decide (rd l (i : Int) ≤ 1000000000)) l.length _ false]
  · split
    · rename_i hp
      rw [hp, Bool.and_true]
      exact Ev.step (f := fun _ => some (decide (l.length ≤ 512))) (fun k => by simp only [spec_SignalOk.l0]; rw [if_neg (by omega)]; congr 1; rw [decide_eq_decide]; omega) (Ev.now _)
    · rename_i hp
      simp only [Bool.not_eq_true] at hp
      rw [hp, Bool.and_false]
  · intro i hi
    by_cases p : -1000000000 ≤ rd l (i : Int) ∧ rd l (i : Int) ≤ 1000000000
    · rw [if_pos (by simpa using p)]
      rw [ev_shift]
      simp only [spec_SignalOk.l0]
      rw [ev_pos (by omega), ev_pos (by omega), l5Sample_eq]
      simp only [Option.bind_some]
      rw [ev_pos (by simpa using p), w64 (by omega) (by omega)]
    · rw [if_neg (by simpa using p)]
      rw [ev_shift]
      simp only [spec_SignalOk.l0]
      rw [ev_pos (by omega), ev_pos (by omega), l5Sample_eq]
      simp only [Option.bind_some]
      rw [ev_neg (by simpa using p), ev_some_iff]

theorem within_ev (l : List Int) (m : Int) (hl : l.length ≤ 2000000) (h0 : 0 ≤ m) (h1 : m ≤ 1000000000000) : Ev (fun k => impl_within.f k l m) (inB m l) := by
  unfold impl_within.f
  rw [inB_range]
  rw [all_iff (fun k i => impl_within.l0 k m l (l.length : Int) i) (fun i => decide (-m ≤ rd l (i : Int)) && decide (rd l (i : Int) ≤ m)) l.length _ false]
  · split
    · rename_i hp
      rw [hp]
      exact Ev.step (fun k => by simp only [impl_within.l0]; rw [if_neg (by omega)]) (Ev.now _)
    · rename_i hp
      simpa using hp
  · intro i hi
    by_cases p : -m ≤ rd l (i : Int) ∧ rd l (i : Int) ≤ m
    · rw [if_pos (by simpa using p)]
      rw [ev_shift]
      simp only [impl_within.l0]
      rw [ev_pos (by omega), ev_pos (by omega), ev_pos (by omega), w64 (n := -m) (by omega) (by omega), ev_neg (by omega), ev_neg (by omega), w64 (by omega) (by omega)]
    · rw [if_neg (by simpa using p)]
      rw [ev_shift]
      simp only [impl_within.l0]
      rw [ev_pos (by omega), ev_pos (by omega), ev_pos (by omega), w64 (n := -m) (by omega) (by omega)]
      by_cases q : rd l (i : Int) < -m
      · rw [ev_pos q, ev_some_iff]
      · rw [ev_neg q, ev_pos (by omega), ev_some_iff]

theorem implSig_ev (l : List Int) (hl : l.length ≤ 2000000) : Ev (fun k => impl_SignalOk.f k l) (sigB l) := by
  unfold impl_SignalOk.f
  by_cases h : (l.length : Int) ≤ 512
  · rw [ev_pos h]
    rw [ev_bind (within_ev l 1000000000 hl (by omega) (by omega)), ev_some_iff, sigB, decide_eq_true (by omega : l.length ≤ 512), Bool.true_and]
  · rw [ev_neg h]
    rw [ev_some_iff, sigB, decide_eq_false (by omega : ¬ l.length ≤ 512), Bool.false_and]

/-! ### Up: noughts laid between -/
def upV (l : List Int) (b : Nat) : List Int := iter (fun i s => s ++ (rd l (i : Int) :: List.replicate b 0)) l.length []
theorem upV_length (l : List Int) (b : Nat) : (upV l b).length = l.length * (b + 1) := by
  unfold upV
  refine iter_inv (fun i (s : List Int) => s.length = i * (b + 1)) l.length [] (by simp) fun i s _ hs => ?_
  simp only [List.length_append, List.length_cons, List.length_replicate, hs, Nat.add_mul]
  omega
theorem specUpV_ev (l : List Int) (b : Nat) (hl : l.length ≤ 512) (hb : b < 16) : Ev (fun k => spec_l11Up.f k l ((b : Int) + 1)) (upV l b) := by
  unfold spec_l11Up.f
  rw [(for_iff (fun k s i => spec_l11Up.l0 k l ((b : Int) + 1) s i) (fun i s => s ++ (rd l (i : Int) :: List.replicate b 0)) (fun i s => s.length ≤ i * 16) l.length _ ?_ [] (by simp)).2]
  · rw [ev_shift]
    simp only [spec_l11Up.l0]
    rw [ev_neg (by omega)]
    exact Ev.now _
  · intro i s hi hs
    refine ⟨by simp only [List.length_append, List.length_cons, List.length_replicate]; omega, ?_⟩
    rw [ev_shift]
    simp only [spec_l11Up.l0]
    rw [ev_pos (by omega), ev_pos (by omega), ev_pos (by omega)]
    have h := (for_at (fun k s j => spec_l11Up.l1 k l ((b : Int) + 1) s (i : Int) j) (fun _ s => s ++ [0]) (fun j s => s.length ≤ i * 16 + 1 + j) 1 b (upV l b) ?_ (s ++ [rd l (i : Int)]) (by simp; omega)).2
    · rw [h, ev_shift]
      simp only [spec_l11Up.l1]
      rw [ev_neg (by omega), w64 (by omega) (by omega), iter_push]
      have e : tab b (fun _ => 0) = List.replicate b 0 := by
        unfold tab
        rw [List.map_const']
        simp
      rw [e, List.append_assoc, List.singleton_append]
    · intro j t hj ht
      refine ⟨by simp; omega, ?_⟩
      rw [ev_shift]
      simp only [spec_l11Up.l1]
      rw [ev_pos (by omega), ev_pos (by omega), w64 (by omega) (by omega)]
theorem implUpV_ev (l : List Int) (b : Nat) (hl : l.length ≤ 512) (hb : b < 16) : Ev (fun k => impl_up.f k l ((b : Int) + 1)) (upV l b) := by
  unfold impl_up.f
  rw [(for_iff (fun k s i => impl_up.l0 k ((b : Int) + 1) s l (l.length : Int) i) (fun i s => s ++ (rd l (i : Int) :: List.replicate b 0)) (fun i s => s.length ≤ i * 16) l.length _ ?_ [] (by simp)).2]
  · rw [ev_shift]
    simp only [impl_up.l0]
    rw [ev_neg (by omega)]
    exact Ev.now _
  · intro i s hi hs
    refine ⟨by simp only [List.length_append, List.length_cons, List.length_replicate]; omega, ?_⟩
    rw [ev_shift]
    simp only [impl_up.l0]
    rw [ev_pos (by omega), ev_pos (by omega), ev_pos (by omega), ev_pos (by omega)]
    simp only [Option.bind_some]
    rw [w64 (n := (b : Int) + 1 - 1) (by omega) (by omega), ev_pos (by omega), ev_pos (by simp; omega), w64 (by omega) (by omega)]
    have e : ((b : Int) + 1 - 1).toNat = b := by omega
    rw [e, List.append_assoc, List.singleton_append]
theorem isRateU_eq (a : Int) : impl_isRate.f a = some (decide (1 ≤ a ∧ a ≤ 16)) := by
  unfold impl_isRate.f
  by_cases h : a ≥ 1
  · rw [if_pos h]
    congr 1
    rw [decide_eq_decide]
    omega
  · rw [if_neg h]
    congr 1
    symm
    rw [decide_eq_false_iff_not]
    omega
theorem l11ByU_eq (a : Int) : spec_l11By.f a = some (decide (1 ≤ a ∧ a ≤ 16)) := by
  unfold spec_l11By.f
  rw [l1In_eq]
  rfl
open Classical in
noncomputable def upR (l : List Int) (a : Int) : List Int × Bool :=
  if sigB l = true ∧ 1 ≤ a ∧ a ≤ 16 ∧ (l.length : Int) * a ≤ 512 then (upV l (a - 1).toNat, true) else ([], false)
theorem upR_length (l : List Int) (a : Int) : (upR l a).1.length ≤ 2000000 := by
  unfold upR
  split
  · rename_i h
    have hl := (sigB_iff.1 h.1).1
    rw [upV_length]
    have : l.length * ((a - 1).toNat + 1) ≤ 512 * 16 := Nat.mul_le_mul hl (by omega)
    omega
  · simp
theorem mul_rate {n a : Int} (h0 : 0 ≤ n) (h1 : n ≤ 512) (h2 : 1 ≤ a) (h3 : a ≤ 16) : wrap64 (n * a) = n * a := by
  have h4 : n * a ≤ 512 * 16 := Int.mul_le_mul h1 h3 (by omega) (by omega)
  have h5 : 0 ≤ n * a := Int.mul_nonneg h0 (by omega)
  exact w64 (by omega) (by omega)
theorem implUp_ev (l : List Int) (a : Int) (hl : l.length ≤ 2000000) : Ev (fun k => impl_Up.f k l a) (upR l a) := by
  unfold impl_Up.f
  rw [ev_bind (implSig_ev l hl)]
  simp only [isRateU_eq, Option.bind_some]
  by_cases hs : sigB l = true
  · rw [ev_pos hs]
    have hl5 := (sigB_iff.1 hs).1
    by_cases ha : 1 ≤ a ∧ a ≤ 16
    · rw [ev_pos (by simpa using ha), mul_rate (by omega) (by omega) ha.1 ha.2]
      by_cases hb : (l.length : Int) * a > 512
      · rw [ev_pos hb, upR, if_neg (by omega)]
        exact Ev.now _
      · rw [ev_neg hb, upR, if_pos ⟨hs, ha.1, ha.2, by omega⟩]
        have h := implUpV_ev l (a - 1).toNat hl5 (by omega)
        rw [Int.toNat_of_nonneg (by omega), Int.sub_add_cancel] at h
        rw [ev_bind h]
        exact Ev.now _
    · rw [ev_neg (by simpa using ha), upR, if_neg (by omega)]
      exact Ev.now _
  · rw [ev_neg hs, upR, if_neg (fun h => hs h.1)]
    exact Ev.now _
theorem specUp_ev (l : List Int) (a : Int) (hl : l.length ≤ 2000000) : Ev (fun k => spec_Up.f k l a) (upR l a) := by
  unfold spec_Up.f
  rw [ev_bind (specSig_ev l hl)]
  simp only [l11ByU_eq, Option.bind_some]
  by_cases hs : sigB l = true
  · rw [ev_pos hs]
    have hl5 := (sigB_iff.1 hs).1
    by_cases ha : 1 ≤ a ∧ a ≤ 16
    · rw [ev_pos (by simpa using ha), mul_rate (by omega) (by omega) ha.1 ha.2]
      by_cases hb : (l.length : Int) * a > 512
      · rw [ev_pos hb, upR, if_neg (by omega)]
        exact Ev.now _
      · rw [ev_neg hb, upR, if_pos ⟨hs, ha.1, ha.2, by omega⟩]
        have h := specUpV_ev l (a - 1).toNat hl5 (by omega)
        rw [Int.toNat_of_nonneg (by omega), Int.sub_add_cancel] at h
        rw [ev_bind h]
        exact Ev.now _
    · rw [ev_neg (by simpa using ha), upR, if_neg (by omega)]
      exact Ev.now _
  · rw [ev_neg hs, upR, if_neg (fun h => hs h.1)]
    exact Ev.now _

theorem FnExactUp : laws_FnExactUp.Pure := by
  intro l0 a1 _ _ _ _
  refine Ev.rounds (g := fun k => laws_FnExactUp.f k l0 a1) ?_
  by_cases hlen : (l0.length : Int) > 1048576
  · simp only [laws_FnExactUp.f, if_pos hlen]
    exact Ev.now _
  have hS := specUp_ev l0 a1 (by omega)
  have hI := implUp_ev l0 a1 (by omega)
  have hv := upR_length l0 a1
  generalize upR l0 a1 = R at *
  simp only [laws_FnExactUp.f, if_neg hlen]
  have t_l0 := toIntS_ev l0 (by omega)
  have e_l0 := eqIntS_ev l0 l0 (by omega)
  have v_0 := eqIntS_ev (R.1) (R.1) (by omega)
  have m_l0 := markIntS_ev l0 (1) (by omega) (by omega) (by omega)
  have n_0 := markIntS_ev (R.1) (1) (by omega) (by omega) (by omega)
  have h_0 := heldIntS_ev (R.1).length (1) (by omega) (by omega) (by omega)
  simp only [decide_true] at e_l0 v_0
  repeat (first
    | exact Ev.now _
    | (rw [ev_bind t_l0])
    | (rw [ev_bind e_l0])
    | (rw [ev_bind v_0])
    | (rw [ev_bind m_l0])
    | (rw [ev_bind n_0])
    | (rw [ev_bind h_0])
    | (rw [ev_bind hS])
    | (rw [ev_bind hI])
    | (simp only [if_true, if_false, bne_self_eq_false, Bool.false_eq_true]; done)
    | (rw [ev_neg (by omega)])
    | (rw [ev_pos rfl])
    | (simp only [if_true, if_false, bne_self_eq_false, Bool.false_eq_true])
    | (rw [ev_shift]; simp only [laws_FnExactUp.j0])
    | (rw [ev_shift]; simp only [laws_FnExactUp.j1])
    | (rw [ev_shift]; simp only [laws_FnExactUp.j2])
    | (rw [ev_shift]; simp only [laws_FnExactUp.j3]))

end Go.Proofs.Ythmgjfobngmbcaa.Pure
