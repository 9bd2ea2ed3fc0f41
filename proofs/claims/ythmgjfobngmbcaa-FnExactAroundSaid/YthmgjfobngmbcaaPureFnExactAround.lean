/- The pure part of FnExactAround: the program's Around and the reference's Around compute the same list and flag. No conditions. -/
import Derived.Test.YthmgjfobngmbcaaPFnExactAroundx4
import Derived.Test.YthmgjfobngmbcaaBase
namespace Go.Proofs.Ythmgjfobngmbcaa.Pure
open Go.RowKit Go.Proofs.Ythmgjfobngmbcaa.PFnExactAround Go.Proofs.YthmgjfobngmbcaaW.PrintWords Go.Proofs.YthmgjfobngmbcaaW.PrintLast
open Go.Proofs.Ythmgjfobngmbcaa.Base
set_option linter.unusedVariables false
set_option linter.unusedSimpArgs false
/-! ### toIntS, eqIntS, markIntS, heldIntS -/
theorem toIntS_ev (l : List Int) (h : l.length ≤ 2000000) : Ev (fun k => laws_toIntS.f k l) l := by
  unfold laws_toIntS.f
  simp only [Int.toNat_natCast]
  rw [ev_pos (by omega), ev_pos (by omega)]
  rw [(for_iff (fun k s i => laws_toIntS.l0 k l s i) (fun i s => s.set i (rd l (i : Int))) (fun _ s => s.length = l.length) l.length l ?_ _ (by simp)).2]
  · rw [iter_store_all _ _ _ (by simp), tab_rd]
    exact Ev.step (fun k => by simp only [laws_toIntS.l0]; rw [if_neg (by omega)]) (Ev.now _)
  · intro i s hi hs
    refine ⟨by simpa using hs, ?_⟩
    rw [ev_shift]
    simp only [laws_toIntS.l0]
    rw [ev_pos (by omega), ev_pos (by omega), ev_pos (by omega), w64 (by omega) (by omega), Int.toNat_natCast]

theorem eqIntS_ev (a b : List Int) (h : a.length ≤ 2000000) : Ev (fun k => laws_eqIntS.f k a b) (decide (a = b)) := by
  unfold laws_eqIntS.f
  by_cases e : a.length = b.length
  · rw [ev_pos (by omega)]
    rw [all_iff (fun k i => laws_eqIntS.l0 k a b i) (fun i => decide (rd a (i : Int) = rd b (i : Int))) a.length _ false]
    · split
      · rename_i hp
        have : a = b := list_ext_rd e fun i hi => by simpa using range_all.1 hp i hi
        rw [decide_eq_true this]
        exact Ev.step (fun k => by simp only [laws_eqIntS.l0]; rw [if_neg (by omega)]) (Ev.now _)
      · rename_i hp
        have : ¬ a = b := fun h => hp (by subst h; rw [range_all]; simp)
        simp [this]
    · intro i hi
      by_cases p : rd a (i : Int) = rd b (i : Int)
      · rw [if_pos (by simpa using p)]
        rw [ev_shift]
        simp only [laws_eqIntS.l0]
        rw [ev_pos (by omega), ev_pos (by omega), ev_pos (by omega), ev_pos p, w64 (by omega) (by omega)]
      · rw [if_neg (by simpa using p)]
        rw [ev_shift]
        simp only [laws_eqIntS.l0]
        rw [ev_pos (by omega), ev_pos (by omega), ev_pos (by omega), ev_neg p, ev_some_iff]
  · rw [ev_neg (by omega)]
    have : ¬ a = b := fun h => e (by rw [h])
    simp only [this, decide_false]
    exact Ev.now _

theorem markIntS_ev (l : List Int) (m : Int) (h : l.length ≤ 2000000) (h0 : 0 ≤ m) (h1 : m ≤ 1000000000) :
    Ev (fun k => laws_markIntS.f k l m) (m + (l.length : Int), tab l.length (fun i => m + (i : Int))) := by
  unfold laws_markIntS.f
  rw [(for_iff (fun k (s : List Int × Int) i => laws_markIntS.l0 k s.1 s.2 i) (fun i s => (s.1.set i (m + (i : Int)), m + ((i : Int) + 1))) (fun i s => s.1.length = l.length ∧ s.2 = m + (i : Int)) l.length _ ?_ (l, m) ⟨rfl, by simp⟩).2]
  · have hI : ∀ n, n ≤ l.length → iter (fun (i : Nat) (s : List Int × Int) => (s.1.set i (m + (i : Int)), m + ((i : Int) + 1))) n (l, m) = (iter (fun i s => s.set i (m + (i : Int))) n l, m + (n : Int)) := by
      intro n
      induction n with
      | zero => intro _; simp [iter]
      | succ n ih => intro hn; rw [iter_succ, ih (by omega), iter_succ]; simp
    rw [hI _ (Nat.le_refl _), iter_store_all _ _ _ rfl]
    exact Ev.step (fun k => by simp only [laws_markIntS.l0]; rw [if_neg (by simp)]) (Ev.now _)
  · rintro i ⟨s, c⟩ hi ⟨hs, hc⟩
    simp only at hs hc
    subst hc
    refine ⟨⟨by simpa using hs, by simp⟩, ?_⟩
    rw [ev_shift]
    simp only [laws_markIntS.l0]
    rw [ev_pos (by omega), ev_pos (by omega), w64 (by omega) (by omega), w64 (by omega) (by omega), Int.toNat_natCast, Int.add_assoc]

theorem heldIntS_ev (n : Nat) (m : Int) (h : n ≤ 2000000) (h0 : 0 ≤ m) (h1 : m ≤ 1000000000) :
    Ev (fun k => laws_heldIntS.f k (tab n (fun i => m + (i : Int))) m) (m + (n : Int)) := by
  unfold laws_heldIntS.f
  rw [(for_iff (fun k (c : Int) i => laws_heldIntS.l0 k (tab n (fun i => m + (i : Int))) c i) (fun i c => m + ((i : Int) + 1)) (fun i c => c = m + (i : Int)) n _ ?_ m (by simp)).2]
  · have hI : iter (fun (i : Nat) (c : Int) => m + ((i : Int) + 1)) n m = m + (n : Int) := by
      cases n with
      | zero => simp [iter]
      | succ n => rw [iter_succ]; simp
    rw [hI]
    exact Ev.step (fun k => by simp only [laws_heldIntS.l0]; rw [if_neg (by simp)]) (Ev.now _)
  · intro i c hi hc
    refine ⟨by simp, ?_⟩
    rw [ev_shift]
    simp only [laws_heldIntS.l0, tab_length]
    rw [ev_pos (by omega), ev_pos (by omega), rd_tab' hi, ev_pos hc.symm, hc, w64 (by omega) (by omega), w64 (by omega) (by omega), Int.add_assoc]

theorem l1In_eq (a b c : Int) : spec_l1In.f a b c = some (decide (b ≤ a ∧ a ≤ c)) := by
  unfold spec_l1In.f
  by_cases h : a ≥ b
  · rw [if_pos h]
    congr 1
    rw [decide_eq_decide]
    omega
  · rw [if_neg h]
    congr 1
    symm
    rw [decide_eq_false_iff_not]
    omega

theorem specTaps_ev (l : List Int) (hl : l.length ≤ 2000000) : Ev (fun k => spec_l6Taps.f k l) (tapB l) := by
  unfold spec_l6Taps.f
  rw [tapB, inB_range]
  rw [all_iff (fun k i => spec_l6Taps.l0 k l i) (fun i => decide (-1000000 ≤ rd l (i : Int)) && decide (rd l (i : Int) ≤ 1000000)) l.length _ false]
  · split
    · rename_i hp
      rw [hp, Bool.and_true]
      exact Ev.step (f := fun _ => some (decide (l.length ≤ 256))) (fun k => by simp only [spec_l6Taps.l0]; rw [if_neg (by omega)]; congr 1; rw [decide_eq_decide]; omega) (Ev.now _)
    · rename_i hp
      simp only [Bool.not_eq_true] at hp
      rw [hp, Bool.and_false]
  · intro i hi
    by_cases p : -1000000 ≤ rd l (i : Int) ∧ rd l (i : Int) ≤ 1000000
    · rw [if_pos (by simpa using p)]
      rw [ev_shift]
      simp only [spec_l6Taps.l0]
      rw [ev_pos (by omega), ev_pos (by omega), l1In_eq]
      simp only [Option.bind_some]
      rw [ev_pos (by simpa using p), w64 (by omega) (by omega)]
    · rw [if_neg (by simpa using p)]
      rw [ev_shift]
      simp only [spec_l6Taps.l0]
      rw [ev_pos (by omega), ev_pos (by omega), l1In_eq]
      simp only [Option.bind_some]
      rw [ev_neg (by simpa using p), ev_some_iff]

theorem within_ev (l : List Int) (m : Int) (hl : l.length ≤ 2000000) (h0 : 0 ≤ m) (h1 : m ≤ 1000000000000) : Ev (fun k => impl_within.f k l m) (inB m l) := by
  unfold impl_within.f
  rw [inB_range]
  rw [all_iff (fun k i => impl_within.l0 k m l (l.length : Int) i) (fun i => decide (-m ≤ rd l (i : Int)) && decide (rd l (i : Int) ≤ m)) l.length _ false]
  · split
    · rename_i hp
      rw [hp]
      exact Ev.step (fun k => by simp only [impl_within.l0]; rw [if_neg (by omega)]) (Ev.now _)
    · rename_i hp
      simpa using hp
  · intro i hi
    by_cases p : -m ≤ rd l (i : Int) ∧ rd l (i : Int) ≤ m
    · rw [if_pos (by simpa using p)]
      rw [ev_shift]
      simp only [impl_within.l0]
      rw [ev_pos (by omega), ev_pos (by omega), ev_pos (by omega), w64 (n := -m) (by omega) (by omega), ev_neg (by omega), ev_neg (by omega), w64 (by omega) (by omega)]
    · rw [if_neg (by simpa using p)]
      rw [ev_shift]
      simp only [impl_within.l0]
      rw [ev_pos (by omega), ev_pos (by omega), ev_pos (by omega), w64 (n := -m) (by omega) (by omega)]
      by_cases q : rd l (i : Int) < -m
      · rw [ev_pos q, ev_some_iff]
      · rw [ev_neg q, ev_pos (by omega), ev_some_iff]

theorem implTaps_ev (l : List Int) (hl : l.length ≤ 2000000) : Ev (fun k => impl_taps.f k l) (tapB l) := by
  unfold impl_taps.f
  by_cases h : (l.length : Int) ≤ 256
  · rw [ev_pos h]
    rw [ev_bind (within_ev l 1000000 hl (by omega) (by omega)), ev_some_iff, tapB, decide_eq_true (by omega : l.length ≤ 256), Bool.true_and]
  · rw [ev_neg h]
    rw [ev_some_iff, tapB, decide_eq_false (by omega : ¬ l.length ≤ 256), Bool.false_and]

/-! ### Around -/
def aroundV (a b : List Int) : List Int :=
  iter (fun i s => iter (fun j s => s.set ((i + j) % a.length) (wrap64 (rd s (((i + j) % a.length : Nat) : Int) + wrap64 (rd a (i : Int) * rd b (j : Int))))) b.length s) a.length (List.replicate a.length 0)
theorem inner_length (a b : List Int) (i m : Nat) (s : List Int) :
    (iter (fun j s => s.set ((i + j) % a.length) (wrap64 (rd s (((i + j) % a.length : Nat) : Int) + wrap64 (rd a (i : Int) * rd b (j : Int))))) m s).length = s.length :=
  iter_inv (fun _ (t : List Int) => t.length = s.length) m s rfl fun _ _ _ h => by simpa using h
theorem aroundV_length (a b : List Int) : (aroundV a b).length = a.length := by
  unfold aroundV
  refine iter_inv (fun _ (s : List Int) => s.length = a.length) a.length _ (by simp) fun i s _ hs => ?_
  rw [inner_length, hs]
theorem tmod_nat {i j n : Nat} (h : i + j ≤ 1000000) : Int.tmod (wrap64 ((i : Int) + (j : Int))) (n : Int) = (((i + j) % n : Nat) : Int) := by
  rw [w64 (by omega) (by omega), Int.ofNat_tmod]
  simp
theorem implAroundV_ev (a b : List Int) (hl : a.length ≤ 256) (hb : b.length = a.length) (h0 : 0 < a.length) :
    Ev (fun k => impl_Around.l0 k b (a.length : Int) (List.replicate a.length 0) a (a.length : Int) 0) (aroundV a b, true) := by
  rw [(for_iff (fun k s i => impl_Around.l0 k b (a.length : Int) s a (a.length : Int) i) (fun i s => iter (fun j s => s.set ((i + j) % a.length) (wrap64 (rd s (((i + j) % a.length : Nat) : Int) + wrap64 (rd a (i : Int) * rd b (j : Int))))) b.length s) (fun _ s => s.length = a.length) a.length _ ?_ _ (by simp)).2]
  · rw [ev_shift]
    simp only [impl_Around.l0]
    rw [ev_neg (by omega)]
    exact Ev.now _
  · intro i s hi hs
    refine ⟨by rw [inner_length, hs], ?_⟩
    rw [ev_shift]
    simp only [impl_Around.l0]
    rw [ev_pos (by omega), ev_pos (by omega), ev_pos (by omega)]
    rw [(for_iff (fun k s j => impl_Around.l1 k b (a.length : Int) s (i : Int) (rd a (i : Int)) a (a.length : Int) (i : Int) b (b.length : Int) j) (fun j s => s.set ((i + j) % a.length) (wrap64 (rd s (((i + j) % a.length : Nat) : Int) + wrap64 (rd a (i : Int) * rd b (j : Int))))) (fun _ s => s.length = a.length) b.length _ ?_ s hs).2]
    · rw [ev_shift]
      simp only [impl_Around.l1]
      rw [ev_neg (by omega), w64 (by omega) (by omega)]
    · intro j t hj ht
      refine ⟨by simpa using ht, ?_⟩
      rw [ev_shift]
      simp only [impl_Around.l1]
      have hm := Nat.mod_lt (i + j) h0
      rw [tmod_nat (by omega), ev_pos (by omega), ev_pos (by omega), ev_pos (by omega), ev_neg (by omega), ev_pos (by omega), ev_pos (by omega), w64 (n := (j : Int) + 1) (by omega) (by omega), Int.toNat_natCast]
theorem specAroundV_ev (a b : List Int) (hl : a.length ≤ 256) (hb : b.length = a.length) (h0 : 0 < a.length) :
    Ev (fun k => spec_Around.l0 k a b (List.replicate a.length 0) 0) (aroundV a b, true) := by
  rw [(for_iff (fun k s i => spec_Around.l0 k a b s i) (fun i s => iter (fun j s => s.set ((i + j) % a.length) (wrap64 (rd s (((i + j) % a.length : Nat) : Int) + wrap64 (rd a (i : Int) * rd b (j : Int))))) b.length s) (fun _ s => s.length = a.length) a.length _ ?_ _ (by simp)).2]
  · rw [ev_shift]
    simp only [spec_Around.l0]
    rw [ev_neg (by omega)]
    exact Ev.now _
  · intro i s hi hs
    refine ⟨by rw [inner_length, hs], ?_⟩
    rw [ev_shift]
    simp only [spec_Around.l0]
    rw [ev_pos (by omega)]
    rw [(for_iff (fun k s j => spec_Around.l1 k a b s (i : Int) j) (fun j s => s.set ((i + j) % a.length) (wrap64 (rd s (((i + j) % a.length : Nat) : Int) + wrap64 (rd a (i : Int) * rd b (j : Int))))) (fun _ s => s.length = a.length) b.length _ ?_ s hs).2]
    · rw [ev_shift]
      simp only [spec_Around.l1]
      rw [ev_neg (by omega), w64 (by omega) (by omega)]
    · intro j t hj ht
      refine ⟨by simpa using ht, ?_⟩
      rw [ev_shift]
      simp only [spec_Around.l1]
      have hm := Nat.mod_lt (i + j) h0
      rw [tmod_nat (by omega), ev_pos (by omega), ev_neg (by omega), ev_pos (by omega), ev_pos (by omega), ev_pos (by omega), ev_pos (by omega), ev_pos (by omega), w64 (n := (j : Int) + 1) (by omega) (by omega), Int.toNat_natCast]
open Classical in
noncomputable def aroundR (a b : List Int) : List Int × Bool :=
  if tapB a = true ∧ tapB b = true ∧ a.length = b.length ∧ a.length ≠ 0 then (aroundV a b, true) else ([], false)
theorem aroundR_length (a b : List Int) : (aroundR a b).1.length ≤ 2000000 := by
  unfold aroundR
  split
  · rename_i h
    have := (tapB_iff.1 h.1).1
    rw [aroundV_length]
    omega
  · simp
theorem implAround_ev (a b : List Int) (ha : a.length ≤ 2000000) (hb : b.length ≤ 2000000) : Ev (fun k => impl_Around.f k a b) (aroundR a b) := by
  unfold impl_Around.f
  rw [ev_bind (implTaps_ev a ha)]
  have no : ∀ n, ¬ (tapB a = true ∧ tapB b = true ∧ a.length = b.length ∧ a.length ≠ 0) → Ev (fun k => impl_Around.j0 k a b n true) (aroundR a b) := by
    intro n h
    rw [ev_shift, aroundR, if_neg h]
    simp only [impl_Around.j0, if_true]
    exact Ev.now _
  by_cases h1 : tapB a = true
  · rw [ev_pos h1, ev_bind (implTaps_ev b hb)]
    by_cases h2 : tapB b = true
    · rw [ev_pos h2]
      by_cases h3 : a.length = b.length
      · rw [ev_pos (by omega)]
        by_cases h4 : a.length = 0
        · simp only [h4, Int.ofNat_zero, beq_self_eq_true]
          exact no _ (by omega)
        · have e : ((a.length : Int) == 0) = false := by simpa using h4
          rw [e, ev_shift, aroundR, if_pos ⟨h1, h2, h3, h4⟩]
          have hl := (tapB_iff.1 h1).1
          simp only [impl_Around.j0, Bool.false_eq_true, if_false, Int.toNat_natCast]
          rw [ev_pos (by omega), ev_pos (by omega)]
          exact implAroundV_ev a b hl h3.symm (by omega)
      · rw [ev_neg (by omega)]
        exact no _ (by omega)
    · rw [ev_neg h2]
      exact no _ (fun h => h2 h.2.1)
  · rw [ev_neg h1]
    exact no _ (fun h => h1 h.1)
theorem specAround_ev (a b : List Int) (ha : a.length ≤ 2000000) (hb : b.length ≤ 2000000) : Ev (fun k => spec_Around.f k a b) (aroundR a b) := by
  unfold spec_Around.f
  rw [ev_bind (specTaps_ev a ha)]
  have no : ¬ (tapB a = true ∧ tapB b = true ∧ a.length = b.length ∧ a.length ≠ 0) → Ev (fun k => spec_Around.j0 k a b true) (aroundR a b) := by
    intro h
    rw [ev_shift, aroundR, if_neg h]
    simp only [spec_Around.j0, if_true]
    exact Ev.now _
  by_cases h1 : tapB a = true
  · rw [ev_pos h1, ev_bind (specTaps_ev b hb)]
    by_cases h2 : tapB b = true
    · rw [ev_pos h2]
      by_cases h3 : a.length = b.length
      · rw [ev_pos (by omega)]
        by_cases h4 : a.length = 0
        · simp only [h4, Int.ofNat_zero, beq_self_eq_true]
          exact no (by omega)
        · have e : ((a.length : Int) == 0) = false := by simpa using h4
          rw [e, ev_shift, aroundR, if_pos ⟨h1, h2, h3, h4⟩]
          have hl := (tapB_iff.1 h1).1
          simp only [spec_Around.j0, Bool.false_eq_true, if_false, Int.toNat_natCast]
          rw [ev_pos (by omega), ev_pos (by omega)]
          exact specAroundV_ev a b hl h3.symm (by omega)
      · rw [ev_neg (by omega)]
        exact no (by omega)
    · rw [ev_neg h2]
      exact no (fun h => h2 h.2.1)
  · rw [ev_neg h1]
    exact no (fun h => h1 h.1)

theorem FnExactAround : laws_FnExactAround.Pure := by
  intro l0 l1 _ _ _ _ _ _
  refine Ev.rounds (g := fun k => laws_FnExactAround.f k l0 l1) ?_
  by_cases hlen : (l0.length : Int) > 1048576
  · simp only [laws_FnExactAround.f, if_pos hlen]
    exact Ev.now _
  by_cases hlen1 : (l1.length : Int) > 1048576
  · simp only [laws_FnExactAround.f, if_neg hlen, if_pos hlen1]
    exact Ev.now _
  have hS := specAround_ev l0 l1 (by omega) (by omega)
  have hI := implAround_ev l0 l1 (by omega) (by omega)
  have hv := aroundR_length l0 l1
  generalize aroundR l0 l1 = R at *
  simp only [laws_FnExactAround.f, if_neg hlen, if_neg hlen1]
  have t_l0 := toIntS_ev l0 (by omega)
  have e_l0 := eqIntS_ev l0 l0 (by omega)
  have t_l1 := toIntS_ev l1 (by omega)
  have e_l1 := eqIntS_ev l1 l1 (by omega)
  have v_0 := eqIntS_ev (R.1) (R.1) (by omega)
  have m_l0 := markIntS_ev l0 (1) (by omega) (by omega) (by omega)
  have m_l1 := markIntS_ev l1 (1 + (l0.length : Int)) (by omega) (by omega) (by omega)
  have n_0 := markIntS_ev (R.1) (1) (by omega) (by omega) (by omega)
  have h_0 := heldIntS_ev (R.1).length (1) (by omega) (by omega) (by omega)
  simp only [decide_true] at e_l0 e_l1 v_0
  repeat (first
    | exact Ev.now _
    | (rw [ev_bind t_l0])
    | (rw [ev_bind t_l1])
    | (rw [ev_bind e_l0])
    | (rw [ev_bind e_l1])
    | (rw [ev_bind v_0])
    | (rw [ev_bind m_l0])
    | (rw [ev_bind m_l1])
    | (rw [ev_bind n_0])
    | (rw [ev_bind h_0])
    | (rw [ev_bind hS])
    | (rw [ev_bind hI])
    | (simp only [if_true, if_false, bne_self_eq_false, Bool.false_eq_true]; done)
    | (rw [ev_neg (by omega)])
    | (rw [ev_pos rfl])
    | (simp only [if_true, if_false, bne_self_eq_false, Bool.false_eq_true])
    | (rw [ev_shift]; simp only [laws_FnExactAround.j0])
    | (rw [ev_shift]; simp only [laws_FnExactAround.j1])
    | (rw [ev_shift]; simp only [laws_FnExactAround.j2])
    | (rw [ev_shift]; simp only [laws_FnExactAround.j3]))

end Go.Proofs.Ythmgjfobngmbcaa.Pure
