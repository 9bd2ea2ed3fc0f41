/- The pure part of FnExactCic: the program's Cic and the reference's Cic answer alike. No conditions. -/
import Derived.Test.YtinpmpdkoedjnaaPFnExactCicx4
import Derived.Test.YtinpmpdkoedjnaaBase
namespace Go.Proofs.Ytinpmpdkoedjnaa.Pure
open Go.RowKit Go.Proofs.Ytinpmpdkoedjnaa.PFnExactCic Go.Proofs.YtinpmpdkoedjnaaW.PrintWords Go.Proofs.YtinpmpdkoedjnaaW.PrintLast
open Go.Proofs.Ytinpmpdkoedjnaa.Base
set_option linter.unusedVariables false
set_option linter.unusedSimpArgs false
/-! ### toIntS, eqIntS, markIntS, heldIntS -/
theorem toIntS_ev (l : List Int) (h : l.length ≤ 2000000) : Ev (fun k => laws_toIntS.f k l) l := by
  unfold laws_toIntS.f
  simp only [Int.toNat_natCast]
  rw [ev_pos (by omega), ev_pos (by omega)]
  rw [(for_iff (fun k s i => laws_toIntS.l0 k l s i) (fun i s => s.set i (rd l (i : Int))) (fun _ s => s.length = l.length) l.length l ?_ _ (by simp)).2]
  · rw [iter_store_all _ _ _ (by simp), tab_rd]
    exact Ev.step (fun k => by simp only [laws_toIntS.l0]; rw [if_neg (by omega)]) (Ev.now _)
  · intro i s hi hs
    refine ⟨by simpa using hs, ?_⟩
    rw [ev_shift]
    simp only [laws_toIntS.l0]
    rw [ev_pos (by omega), ev_pos (by omega), ev_pos (by omega), w64 (by omega) (by omega), Int.toNat_natCast]

theorem eqIntS_ev (a b : List Int) (h : a.length ≤ 2000000) : Ev (fun k => laws_eqIntS.f k a b) (decide (a = b)) := by
  unfold laws_eqIntS.f
  by_cases e : a.length = b.length
  · rw [ev_pos (by omega)]
    rw [all_iff (fun k i => laws_eqIntS.l0 k a b i) (fun i => decide (rd a (i : Int) = rd b (i : Int))) a.length _ false]
    · split
      · rename_i hp
        have : a = b := list_ext_rd e fun i hi => by simpa using range_all.1 hp i hi
        rw [decide_eq_true this]
        exact Ev.step (fun k => by simp only [laws_eqIntS.l0]; rw [if_neg (by omega)]) (Ev.now _)
      · rename_i hp
        have : ¬ a = b := fun h => hp (by subst h; rw [range_all]; simp)
        simp [this]
    · intro i hi
      by_cases p : rd a (i : Int) = rd b (i : Int)
      · rw [if_pos (by simpa using p)]
        rw [ev_shift]
        simp only [laws_eqIntS.l0]
        rw [ev_pos (by omega), ev_pos (by omega), ev_pos (by omega), ev_pos p, w64 (by omega) (by omega)]
      · rw [if_neg (by simpa using p)]
        rw [ev_shift]
        simp only [laws_eqIntS.l0]
        rw [ev_pos (by omega), ev_pos (by omega), ev_pos (by omega), ev_neg p, ev_some_iff]
  · rw [ev_neg (by omega)]
    have : ¬ a = b := fun h => e (by rw [h])
    simp only [this, decide_false]
    exact Ev.now _

theorem markIntS_ev (l : List Int) (m : Int) (h : l.length ≤ 2000000) (h0 : 0 ≤ m) (h1 : m ≤ 1000000000) :
    Ev (fun k => laws_markIntS.f k l m) (m + (l.length : Int), tab l.length (fun i => m + (i : Int))) := by
  unfold laws_markIntS.f
  rw [(for_iff (fun k (s : List Int × Int) i => laws_markIntS.l0 k s.1 s.2 i) (fun i s => (s.1.set i (m + (i : Int)), m + ((i : Int) + 1))) (fun i s => s.1.length = l.length ∧ s.2 = m + (i : Int)) l.length _ ?_ (l, m) ⟨rfl, by simp⟩).2]
  · have hI : ∀ n, n ≤ l.length → iter (fun (i : Nat) (s : List Int × Int) => (s.1.set i (m + (i : Int)), m + ((i : Int) + 1))) n (l, m) = (iter (fun i s => s.set i (m + (i : Int))) n l, m + (n : Int)) := by
      intro n
      induction n with
      | zero => intro _; simp [iter]
      | succ n ih => intro hn; rw [iter_succ, ih (by omega), iter_succ]; simp
    rw [hI _ (Nat.le_refl _), iter_store_all _ _ _ rfl]
    exact Ev.step (fun k => by simp only [laws_markIntS.l0]; rw [if_neg (by simp)]) (Ev.now _)
  · rintro i ⟨s, c⟩ hi ⟨hs, hc⟩
    simp only at hs hc
    subst hc
    refine ⟨⟨by simpa using hs, by simp⟩, ?_⟩
    rw [ev_shift]
    simp only [laws_markIntS.l0]
    rw [ev_pos (by omega), ev_pos (by omega), w64 (by omega) (by omega), w64 (by omega) (by omega), Int.toNat_natCast, Int.add_assoc]

theorem heldIntS_ev (n : Nat) (m : Int) (h : n ≤ 2000000) (h0 : 0 ≤ m) (h1 : m ≤ 1000000000) :
    Ev (fun k => laws_heldIntS.f k (tab n (fun i => m + (i : Int))) m) (m + (n : Int)) := by
  unfold laws_heldIntS.f
  rw [(for_iff (fun k (c : Int) i => laws_heldIntS.l0 k (tab n (fun i => m + (i : Int))) c i) (fun i c => m + ((i : Int) + 1)) (fun i c => c = m + (i : Int)) n _ ?_ m (by simp)).2]
  · have hI : iter (fun (i : Nat) (c : Int) => m + ((i : Int) + 1)) n m = m + (n : Int) := by
      cases n with
      | zero => simp [iter]
      | succ n => rw [iter_succ]; simp
    rw [hI]
    exact Ev.step (fun k => by simp only [laws_heldIntS.l0]; rw [if_neg (by simp)]) (Ev.now _)
  · intro i c hi hc
    refine ⟨by simp, ?_⟩
    rw [ev_shift]
    simp only [laws_heldIntS.l0, tab_length]
    rw [ev_pos (by omega), ev_pos (by omega), rd_tab' hi, ev_pos hc.symm, hc, w64 (by omega) (by omega), w64 (by omega) (by omega), Int.add_assoc]

theorem within_ev (l : List Int) (m : Int) (hl : l.length ≤ 2000000) (h0 : 0 ≤ m) (h1 : m ≤ 1000000000000) : Ev (fun k => impl_within.f k l m) (inB m l) := by
  unfold impl_within.f
  rw [inB_range]
  rw [all_iff (fun k i => impl_within.l0 k m l (l.length : Int) i) (fun i => decide (-m ≤ rd l (i : Int)) && decide (rd l (i : Int) ≤ m)) l.length _ false]
  · split
    · rename_i hp
      rw [hp]
      exact Ev.step (fun k => by simp only [impl_within.l0]; rw [if_neg (by omega)]) (Ev.now _)
    · rename_i hp
      simpa using hp
  · intro i hi
    by_cases p : -m ≤ rd l (i : Int) ∧ rd l (i : Int) ≤ m
    · rw [if_pos (by simpa using p)]
      rw [ev_shift]
      simp only [impl_within.l0]
      rw [ev_pos (by omega), ev_pos (by omega), ev_pos (by omega), w64 (n := -m) (by omega) (by omega), ev_neg (by omega), ev_neg (by omega), w64 (by omega) (by omega)]
    · rw [if_neg (by simpa using p)]
      rw [ev_shift]
      simp only [impl_within.l0]
      rw [ev_pos (by omega), ev_pos (by omega), ev_pos (by omega), w64 (n := -m) (by omega) (by omega)]
      by_cases q : rd l (i : Int) < -m
      · rw [ev_pos q, ev_some_iff]
      · rw [ev_neg q, ev_pos (by omega), ev_some_iff]

theorem implSig_ev (l : List Int) (hl : l.length ≤ 2000000) : Ev (fun k => impl_SignalOk.f k l) (sigB l) := by
  unfold impl_SignalOk.f
  by_cases h : (l.length : Int) ≤ 512
  · rw [ev_pos h]
    rw [ev_bind (within_ev l 1000000000 hl (by omega) (by omega)), ev_some_iff, sigB, decide_eq_true (by omega : l.length ≤ 512), Bool.true_and]
  · rw [ev_neg h]
    rw [ev_some_iff, sigB, decide_eq_false (by omega : ¬ l.length ≤ 512), Bool.false_and]

/-! ### sums of the last a samples -/
def gathV (l : List Int) (a : Nat) : List Int := tab l.length fun i => wrap64 (psum l (i + 1) - psum l (i + 1 - a))
theorem gathV_length (l : List Int) (a : Nat) : (gathV l a).length = l.length := by simp [gathV]
theorem implGatherV_ev (l : List Int) (a : Nat) (hl : l.length ≤ 2000000) (ha : a ≤ 2000000) (ha0 : 0 < a) : Ev (fun k => impl_gather.f k l (a : Int)) (gathV l a) := by
  unfold impl_gather.f
  have h := for_iff (fun k (s : List Int × Int) i => impl_gather.l0 k l (a : Int) s.1 s.2 l (l.length : Int) i) (fun i s => (s.1 ++ [wrap64 (psum l (i + 1) - psum l (i + 1 - a))], wrap64 (psum l (i + 1) - psum l (i + 1 - a)))) (fun i s => s = (tab i fun i => wrap64 (psum l (i + 1) - psum l (i + 1 - a)), wrap64 (psum l i - psum l (i - a)))) l.length (gathV l a) ?_ ([], 0) (by simp [tab_zero, psum_zero, wrap_zero])
  · rw [h.2, h.1, ev_shift]
    simp only [impl_gather.l0]
    rw [ev_neg (by omega)]
    exact Ev.now _
  · intro i s hi hs
    subst hs
    refine ⟨by simp only [tab_succ], ?_⟩
    rw [ev_shift]
    simp only [impl_gather.l0, tab_length]
    rw [ev_pos (by omega), ev_pos (by omega), ev_pos (by omega), w64 (n := (i : Int) + 1) (by omega) (by omega)]
    by_cases c : (i : Int) ≥ (a : Int)
    · rw [ev_pos c, w64 (n := (i : Int) - (a : Int)) (by omega) (by omega), ev_pos (by omega), ev_pos (by omega), ev_pos (by omega)]
      have e : wrap64 (wrap64 (wrap64 (psum l i - psum l (i - a)) + rd l (i : Int)) - rd l ((i : Int) - (a : Int))) = wrap64 (psum l (i + 1) - psum l (i + 1 - a)) := by
        rw [wrap_add_l, wrap_sub_l]
        have e1 : i + 1 - a = (i - a) + 1 := by omega
        have e2 : (i : Int) - (a : Int) = ((i - a : Nat) : Int) := by omega
        rw [e1, e2, psum, psum]
        congr 1
        omega
      rw [e]
    · rw [ev_neg c, ev_pos (by omega)]
      have e : wrap64 (wrap64 (psum l i - psum l (i - a)) + rd l (i : Int)) = wrap64 (psum l (i + 1) - psum l (i + 1 - a)) := by
        rw [wrap_add_l]
        have e1 : i + 1 - a = 0 := by omega
        have e2 : i - a = 0 := by omega
        rw [e1, e2, psum_succ l i]
        congr 1
        omega
      rw [e]

/-! ### Cic -/
def cicV (l : List Int) (r st : Nat) : List Int := thinV (iter (fun _ x => gathV x r) st l) r (r - 1)
theorem stages_length (l : List Int) (r n : Nat) : (iter (fun _ x => gathV x r) n l).length = l.length :=
  iter_inv (fun _ (x : List Int) => x.length = l.length) n l rfl fun _ x _ hx => by rw [gathV_length, hx]
open Classical in
noncomputable def cicR (l : List Int) (r st : Int) : List Int × Bool :=
  if l.length ≤ 512 ∧ inB 32767 l = true ∧ 1 ≤ r ∧ r ≤ 32 ∧ 1 ≤ st ∧ st ≤ 5 then (cicV l r.toNat st.toNat, true) else ([], false)
theorem cicR_length (l : List Int) (r st : Int) : (cicR l r st).1.length ≤ 2000000 := by
  unfold cicR
  split
  · rename_i h
    have := thinV_length (iter (fun _ x => gathV x r.toNat) st.toNat l) r.toNat (r.toNat - 1) (by omega)
    rw [stages_length] at this
    simp only [cicV]
    omega
  · simp
theorem inB_mono {m n : Int} {l : List Int} (h : inB m l = true) (hmn : m ≤ n) : inB n l = true := inB_iff.2 fun x hx => by have := inB_iff.1 h x hx; omega
theorem implCicV_ev (l : List Int) (r st : Nat) (hl : l.length ≤ 512) (hr : 1 ≤ r) (hr1 : r ≤ 32) (hst : st ≤ 5) : Ev (fun k => impl_Cic.l0 k l (r : Int) (st : Int) 0) (cicV l r st, true) := by
  have h := for_iff (fun k x i => impl_Cic.l0 k x (r : Int) (st : Int) i) (fun _ x => gathV x r) (fun _ x => x.length = l.length) st (cicV l r st, true) ?_ l rfl
  · rw [h.2, ev_shift]
    simp only [impl_Cic.l0]
    rw [ev_neg (by omega), w64 (n := (r : Int) - 1) (by omega) (by omega)]
    have e : (r : Int) - 1 = ((r - 1 : Nat) : Int) := by omega
    rw [e]
    exact thin_loop (fun k s i => impl_Cic.l1 k _ (r : Int) s i) (fun s => (s, true)) _ r (r - 1) (fun _ _ _ => rfl) (by rw [h.1]; omega) (by omega) (by omega) (by omega)
  · intro i x hi hx
    refine ⟨by rw [gathV_length, hx], ?_⟩
    rw [ev_shift]
    simp only [impl_Cic.l0]
    rw [ev_pos (by omega), ev_bind (implGatherV_ev x r (by omega) (by omega) (by omega)), w64 (by omega) (by omega)]
theorem implCic_ev (l : List Int) (r st : Int) (hl : l.length ≤ 2000000) : Ev (fun k => impl_Cic.f k l r st) (cicR l r st) := by
  unfold impl_Cic.f
  have no : ¬ (l.length ≤ 512 ∧ inB 32767 l = true ∧ 1 ≤ r ∧ r ≤ 32 ∧ 1 ≤ st ∧ st ≤ 5) → Ev (fun k => impl_Cic.j0 k l r st true) (cicR l r st) := by
    intro h
    rw [ev_shift, cicR, if_neg h]
    simp only [impl_Cic.j0, if_true]
    exact Ev.now _
  rw [ev_bind (implSig_ev l hl)]
  by_cases hs : sigB l = true
  · rw [ev_pos hs, ev_bind (within_ev l 32767 hl (by omega) (by omega))]
    by_cases hw : inB 32767 l = true
    · rw [ev_pos hw]
      by_cases h1 : r < 1
      · rw [ev_pos h1]
        exact no (by omega)
      rw [ev_neg h1]
      by_cases h2 : r > 32
      · rw [ev_pos h2]
        exact no (by omega)
      rw [ev_neg h2]
      by_cases h3 : st < 1
      · rw [ev_pos h3]
        exact no (by omega)
      rw [ev_neg h3]
      by_cases h4 : st > 5
      · rw [decide_eq_true h4]
        exact no (by omega)
      have hl5 := (sigB_iff.1 hs).1
      rw [decide_eq_false h4, ev_shift, cicR, if_pos ⟨hl5, hw, by omega, by omega, by omega, by omega⟩]
      simp only [impl_Cic.j0, Bool.false_eq_true, if_false]
      have h := implCicV_ev l r.toNat st.toNat hl5 (by omega) (by omega) (by omega)
      rw [Int.toNat_of_nonneg (by omega), Int.toNat_of_nonneg (by omega)] at h
      exact h
    · rw [ev_neg hw]
      exact no (fun h => hw h.2.1)
  · rw [ev_neg hs]
    exact no (fun h => hs (sigB_iff.2 ⟨h.1, inB_mono h.2.1 (by omega)⟩))


theorem specGatherV_ev (l : List Int) (a : Nat) (hl : l.length ≤ 2000000) (ha : a ≤ 2000000) (ha0 : 0 < a) : Ev (fun k => spec_l10Gather.f k l (a : Int)) (gathV l a) := by
  unfold spec_l10Gather.f
  rw [(for_iff (fun k s i => spec_l10Gather.l0 k l (a : Int) s i) (fun i s => s ++ [wrap64 (psum l (i + 1) - psum l (i + 1 - a))]) (fun i s => s.length = i) l.length _ ?_ [] rfl).2]
  · rw [iter_push, ev_shift]
    simp only [spec_l10Gather.l0]
    rw [ev_neg (by omega)]
    exact Ev.now _
  · intro i s hi hs
    refine ⟨by simp [hs], ?_⟩
    rw [ev_shift]
    simp only [spec_l10Gather.l0]
    rw [ev_pos (by omega)]
    have h := for_pos (fun k c j => spec_l10Gather.l1 k l (a : Int) s (i : Int) c j) (fun j => (i : Int) - (j : Int)) (fun j _ => wrap64 (psum l (i + 1) - psum l (i + 1 - (j + 1)))) (fun j c => c = wrap64 (psum l (i + 1) - psum l (i + 1 - j))) (min (i + 1) a) (gathV l a) ?_ 0 (by simp [wrap_zero])
    · simp only [Int.ofNat_zero, Int.sub_zero] at h
      rw [h.2, h.1, ev_shift]
      simp only [spec_l10Gather.l1]
      rw [w64 (n := (i : Int) - (a : Int)) (by omega) (by omega), w64 (n := (i : Int) + 1) (by omega) (by omega)]
      have e : i + 1 - min (i + 1) a = i + 1 - a := by omega
      rw [e]
      by_cases c : (i : Int) - ((min (i + 1) a : Nat) : Int) ≥ 0
      · rw [ev_pos c, ev_neg (by omega), ev_pos (by omega)]
      · rw [ev_neg c, ev_pos (by omega)]
    · intro j c hj hc
      subst hc
      refine ⟨rfl, ?_⟩
      rw [ev_shift]
      simp only [spec_l10Gather.l1]
      rw [w64 (n := (i : Int) - (a : Int)) (by omega) (by omega), ev_pos (by omega), ev_pos (by omega), ev_pos (by omega), ev_pos (by omega), w64 (n := (i : Int) - (j : Int) - 1) (by omega) (by omega)]
      have e : wrap64 (wrap64 (psum l (i + 1) - psum l (i + 1 - j)) + rd l ((i : Int) - (j : Int))) = wrap64 (psum l (i + 1) - psum l (i + 1 - (j + 1))) := by
        rw [wrap_add_l]
        have e1 : i + 1 - j = (i - j) + 1 := by omega
        have e2 : i + 1 - (j + 1) = i - j := by omega
        have e3 : (i : Int) - (j : Int) = ((i - j : Nat) : Int) := by omega
        rw [e1, e2, e3, psum_succ l (i - j)]
        congr 1
        omega
      have e4 : (i : Int) - (j : Int) - 1 = (i : Int) - ((j + 1 : Nat) : Int) := by omega
      rw [e, e4]

theorem l1In_eq (a b c : Int) : spec_l1In.f a b c = some (decide (b ≤ a ∧ a ≤ c)) := by
  unfold spec_l1In.f
  by_cases h : a ≥ b
  · rw [if_pos h]
    congr 1
    rw [decide_eq_decide]
    omega
  · rw [if_neg h]
    congr 1
    symm
    rw [decide_eq_false_iff_not]
    omega

theorem l9Wide_ev (l : List Int) (m : Int) (hl : l.length ≤ 2000000) (h0 : 0 ≤ m) (h1 : m ≤ 1000000000000) : Ev (fun k => spec_l9Wide.f k l m) (inB m l) := by
  unfold spec_l9Wide.f
  rw [inB_range]
  rw [all_iff (fun k i => spec_l9Wide.l0 k l m i) (fun i => decide (-m ≤ rd l (i : Int)) && decide (rd l (i : Int) ≤ m)) l.length _ false]
  · split
    · rename_i hp
      rw [hp]
      exact Ev.step (fun k => by simp only [spec_l9Wide.l0]; rw [if_neg (by omega)]) (Ev.now _)
    · rename_i hp
      simpa using hp
  · intro i hi
    by_cases p : -m ≤ rd l (i : Int) ∧ rd l (i : Int) ≤ m
    · rw [if_pos (by simpa using p)]
      rw [ev_shift]
      simp only [spec_l9Wide.l0]
      rw [ev_pos (by omega), ev_pos (by omega), w64 (n := -m) (by omega) (by omega), l1In_eq]
      simp only [Option.bind_some]
      rw [ev_pos (by simpa using p), w64 (by omega) (by omega)]
    · rw [if_neg (by simpa using p)]
      rw [ev_shift]
      simp only [spec_l9Wide.l0]
      rw [ev_pos (by omega), ev_pos (by omega), w64 (n := -m) (by omega) (by omega), l1In_eq]
      simp only [Option.bind_some]
      rw [ev_neg (by simpa using p), ev_some_iff]

theorem specCicV_ev (l : List Int) (r st : Nat) (hl : l.length ≤ 512) (hr : 1 ≤ r) (hr1 : r ≤ 32) (hst : st ≤ 5) : Ev (fun k => spec_Cic.l0 k (r : Int) (st : Int) l 0) (cicV l r st, true) := by
  have h := for_iff (fun k x i => spec_Cic.l0 k (r : Int) (st : Int) x i) (fun _ x => gathV x r) (fun _ x => x.length = l.length) st (cicV l r st, true) ?_ l rfl
  · rw [h.2, ev_shift]
    simp only [spec_Cic.l0]
    rw [ev_neg (by omega), w64 (n := (r : Int) - 1) (by omega) (by omega)]
    have e : (r : Int) - 1 = ((r - 1 : Nat) : Int) := by omega
    rw [e]
    exact thin_loop (fun k s i => spec_Cic.l1 k (r : Int) _ s i) (fun s => (s, true)) _ r (r - 1) (fun _ _ _ => rfl) (by rw [h.1]; omega) (by omega) (by omega) (by omega)
  · intro i x hi hx
    refine ⟨by rw [gathV_length, hx], ?_⟩
    rw [ev_shift]
    simp only [spec_Cic.l0]
    rw [ev_pos (by omega), ev_bind (specGatherV_ev x r (by omega) (by omega) (by omega)), w64 (by omega) (by omega)]
theorem specCic_ev (l : List Int) (r st : Int) (hl : l.length ≤ 2000000) : Ev (fun k => spec_Cic.f k l r st) (cicR l r st) := by
  unfold spec_Cic.f
  have no : ¬ (l.length ≤ 512 ∧ inB 32767 l = true ∧ 1 ≤ r ∧ r ≤ 32 ∧ 1 ≤ st ∧ st ≤ 5) → Ev (fun k => spec_Cic.j0 k l r st true) (cicR l r st) := by
    intro h
    rw [ev_shift, cicR, if_neg h]
    simp only [spec_Cic.j0, if_true]
    exact Ev.now _
  by_cases hs : (l.length : Int) > 512
  · rw [ev_pos hs]
    exact no (by omega)
  rw [ev_neg hs, ev_bind (l9Wide_ev l 32767 hl (by omega) (by omega))]
  simp only [l1In_eq, Option.bind_some]
  by_cases hw : inB 32767 l = true
  · rw [ev_pos hw]
    by_cases h1 : 1 ≤ r ∧ r ≤ 32
    · rw [ev_pos (by simpa using h1)]
      by_cases h3 : 1 ≤ st ∧ st ≤ 5
      · rw [decide_eq_true h3, ev_shift, cicR, if_pos ⟨by omega, hw, by omega, by omega, by omega, by omega⟩]
        simp only [spec_Cic.j0, Bool.not_true, Bool.false_eq_true, if_false, Option.bind_some, List.nil_append, List.length_nil]
        rw [ev_pos (by omega)]
        have h := specCicV_ev l r.toNat st.toNat (by omega) (by omega) (by omega) (by omega)
        rw [Int.toNat_of_nonneg (by omega), Int.toNat_of_nonneg (by omega)] at h
        exact h
      · rw [decide_eq_false h3]
        exact no (by omega)
    · rw [ev_neg (by simpa using h1)]
      exact no (by omega)
  · rw [ev_neg hw]
    exact no (fun h => hw h.2.1)

theorem FnExactCic : laws_FnExactCic.Pure := by
  intro l0 a1 a2 _ _ wl0 wa1 wa2
  refine Ev.rounds (g := fun k => laws_FnExactCic.f k l0 a1 a2) ?_
  by_cases hl0 : (l0.length : Int) > 1048576
  · simp only [laws_FnExactCic.f, if_pos hl0]
    exact Ev.now _
  have hS := specCic_ev l0 a1 a2 (by omega)
  have hI := implCic_ev l0 a1 a2 (by omega)
  have := cicR_length l0 a1 a2
  generalize cicR l0 a1 a2 = R at *
  simp only [laws_FnExactCic.f, if_neg hl0]
  have t_l0 := toIntS_ev l0 (by omega)
  have e_l0 := eqIntS_ev l0 l0 (by omega)
  have v_0 := eqIntS_ev (R.1) (R.1) (by omega)
  have m_l0 := markIntS_ev l0 (1) (by omega) (by omega) (by omega)
  have n_0 := markIntS_ev (R.1) (1) (by omega) (by omega) (by omega)
  have h_0 := heldIntS_ev (R.1).length (1) (by omega) (by omega) (by omega)
  simp only [decide_true] at e_l0 v_0
  repeat (first
    | exact Ev.now _
    | (rw [ev_bind t_l0])
    | (rw [ev_bind e_l0])
    | (rw [ev_bind v_0])
    | (rw [ev_bind m_l0])
    | (rw [ev_bind n_0])
    | (rw [ev_bind h_0])
    | (rw [ev_bind hS])
    | (rw [ev_bind hI])
    | (simp only [if_true, if_false, bne_self_eq_false, Bool.false_eq_true]; done)
    | (rw [ev_neg (by omega)])
    | (rw [ev_pos rfl])
    | (simp only [if_true, if_false, bne_self_eq_false, Bool.false_eq_true])
    | (rw [ev_shift]; simp only [laws_FnExactCic.j0])
    | (rw [ev_shift]; simp only [laws_FnExactCic.j1])
    | (rw [ev_shift]; simp only [laws_FnExactCic.j2])
    | (rw [ev_shift]; simp only [laws_FnExactCic.j3]))

end Go.Proofs.Ytinpmpdkoedjnaa.Pure
