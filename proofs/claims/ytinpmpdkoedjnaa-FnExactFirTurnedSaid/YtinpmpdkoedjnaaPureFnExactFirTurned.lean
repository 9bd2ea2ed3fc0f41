/- The pure part of FnExactFirTurned: the program's FirTurned and the reference's FirTurned answer alike. No conditions. -/
import Derived.Test.YtinpmpdkoedjnaaQFnExactFirTurnedx4
import Derived.Test.YtinpmpdkoedjnaaBase
namespace Go.Proofs.Ytinpmpdkoedjnaa.Pure
open Go.RowKit Go.Proofs.Ytinpmpdkoedjnaa.QFnExactFirTurned Go.Proofs.YtinpmpdkoedjnaaW.PrintWords Go.Proofs.YtinpmpdkoedjnaaW.PrintLast
open Go.Proofs.Ytinpmpdkoedjnaa.Base
set_option linter.unusedVariables false
set_option linter.unusedSimpArgs false
/-! ### toIntS, eqIntS, markIntS, heldIntS -/
theorem toIntS_ev (l : List Int) (h : l.length ≤ 2000000) : Ev (fun k => laws_toIntS.f k l) l := by
  unfold laws_toIntS.f
  simp only [Int.toNat_natCast]
  rw [ev_pos (by omega), ev_pos (by omega)]
  rw [(for_iff (fun k s i => laws_toIntS.l0 k l s i) (fun i s => s.set i (rd l (i : Int))) (fun _ s => s.length = l.length) l.length l ?_ _ (by simp)).2]
  · rw [iter_store_all _ _ _ (by simp), tab_rd]
    exact Ev.step (fun k => by simp only [laws_toIntS.l0]; rw [if_neg (by omega)]) (Ev.now _)
  · intro i s hi hs
    refine ⟨by simpa using hs, ?_⟩
    rw [ev_shift]
    simp only [laws_toIntS.l0]
    rw [ev_pos (by omega), ev_pos (by omega), ev_pos (by omega), w64 (by omega) (by omega), Int.toNat_natCast]

theorem eqIntS_ev (a b : List Int) (h : a.length ≤ 2000000) : Ev (fun k => laws_eqIntS.f k a b) (decide (a = b)) := by
  unfold laws_eqIntS.f
  by_cases e : a.length = b.length
  · rw [ev_pos (by omega)]
    rw [all_iff (fun k i => laws_eqIntS.l0 k a b i) (fun i => decide (rd a (i : Int) = rd b (i : Int))) a.length _ false]
    · split
      · rename_i hp
        have : a = b := list_ext_rd e fun i hi => by simpa using range_all.1 hp i hi
        rw [decide_eq_true this]
        exact Ev.step (fun k => by simp only [laws_eqIntS.l0]; rw [if_neg (by omega)]) (Ev.now _)
      · rename_i hp
        have : ¬ a = b := fun h => hp (by subst h; rw [range_all]; simp)
        simp [this]
    · intro i hi
      by_cases p : rd a (i : Int) = rd b (i : Int)
      · rw [if_pos (by simpa using p)]
        rw [ev_shift]
        simp only [laws_eqIntS.l0]
        rw [ev_pos (by omega), ev_pos (by omega), ev_pos (by omega), ev_pos p, w64 (by omega) (by omega)]
      · rw [if_neg (by simpa using p)]
        rw [ev_shift]
        simp only [laws_eqIntS.l0]
        rw [ev_pos (by omega), ev_pos (by omega), ev_pos (by omega), ev_neg p, ev_some_iff]
  · rw [ev_neg (by omega)]
    have : ¬ a = b := fun h => e (by rw [h])
    simp only [this, decide_false]
    exact Ev.now _

theorem markIntS_ev (l : List Int) (m : Int) (h : l.length ≤ 2000000) (h0 : 0 ≤ m) (h1 : m ≤ 1000000000) :
    Ev (fun k => laws_markIntS.f k l m) (m + (l.length : Int), tab l.length (fun i => m + (i : Int))) := by
  unfold laws_markIntS.f
  rw [(for_iff (fun k (s : List Int × Int) i => laws_markIntS.l0 k s.1 s.2 i) (fun i s => (s.1.set i (m + (i : Int)), m + ((i : Int) + 1))) (fun i s => s.1.length = l.length ∧ s.2 = m + (i : Int)) l.length _ ?_ (l, m) ⟨rfl, by simp⟩).2]
  · have hI : ∀ n, n ≤ l.length → iter (fun (i : Nat) (s : List Int × Int) => (s.1.set i (m + (i : Int)), m + ((i : Int) + 1))) n (l, m) = (iter (fun i s => s.set i (m + (i : Int))) n l, m + (n : Int)) := by
      intro n
      induction n with
      | zero => intro _; simp [iter]
      | succ n ih => intro hn; rw [iter_succ, ih (by omega), iter_succ]; simp
    rw [hI _ (Nat.le_refl _), iter_store_all _ _ _ rfl]
    exact Ev.step (fun k => by simp only [laws_markIntS.l0]; rw [if_neg (by simp)]) (Ev.now _)
  · rintro i ⟨s, c⟩ hi ⟨hs, hc⟩
    simp only at hs hc
    subst hc
    refine ⟨⟨by simpa using hs, by simp⟩, ?_⟩
    rw [ev_shift]
    simp only [laws_markIntS.l0]
    rw [ev_pos (by omega), ev_pos (by omega), w64 (by omega) (by omega), w64 (by omega) (by omega), Int.toNat_natCast, Int.add_assoc]

theorem heldIntS_ev (n : Nat) (m : Int) (h : n ≤ 2000000) (h0 : 0 ≤ m) (h1 : m ≤ 1000000000) :
    Ev (fun k => laws_heldIntS.f k (tab n (fun i => m + (i : Int))) m) (m + (n : Int)) := by
  unfold laws_heldIntS.f
  rw [(for_iff (fun k (c : Int) i => laws_heldIntS.l0 k (tab n (fun i => m + (i : Int))) c i) (fun i c => m + ((i : Int) + 1)) (fun i c => c = m + (i : Int)) n _ ?_ m (by simp)).2]
  · have hI : iter (fun (i : Nat) (c : Int) => m + ((i : Int) + 1)) n m = m + (n : Int) := by
      cases n with
      | zero => simp [iter]
      | succ n => rw [iter_succ]; simp
    rw [hI]
    exact Ev.step (fun k => by simp only [laws_heldIntS.l0]; rw [if_neg (by simp)]) (Ev.now _)
  · intro i c hi hc
    refine ⟨by simp, ?_⟩
    rw [ev_shift]
    simp only [laws_heldIntS.l0, tab_length]
    rw [ev_pos (by omega), ev_pos (by omega), rd_tab' hi, ev_pos hc.symm, hc, w64 (by omega) (by omega), w64 (by omega) (by omega), Int.add_assoc]

theorem clone_eq (l : List Int) (h : l.length ≤ 2000000) : slices_Clone_int_int.f l = some l := by
  unfold slices_Clone_int_int.f
  simp only [Option.bind_some, List.nil_append, List.length_nil]
  rw [if_pos (by omega)]

/-! ### Fir -/
def firStep (t l : List Int) (i : Nat) (s : List Int × List Int) : List Int × List Int :=
  (s.1 ++ [wrap64 (dotS t (rd l (i : Int) :: s.2) t.length)], (rd l (i : Int) :: s.2).take s.2.length)
def firV (t st l : List Int) : List Int × List Int := iter (firStep t l) l.length ([], st)
theorem firV_length (t st l : List Int) : (firV t st l).1.length = l.length ∧ (firV t st l).2.length = st.length := by
  unfold firV
  refine iter_inv (fun i (s : List Int × List Int) => s.1.length = i ∧ s.2.length = st.length) l.length _ ⟨rfl, rfl⟩ fun i s _ hs => ?_
  simp only [firStep, List.length_append, List.length_cons, List.length_nil, List.length_take]
  omega
theorem rd_cons_succ (x : Int) (l : List Int) (k : Nat) : rd (x :: l) ((k : Int) + 1) = rd l (k : Int) := by
  have : ((k : Int) + 1).toNat = k + 1 := by omega
  unfold rd
  rw [this, Int.toNat_natCast]
  rfl
theorem rd_cons_zero (x : Int) (l : List Int) : rd (x :: l) 0 = x := rfl
theorem wrap_fold (a b c : Int) (h : a = wrap64 b) : wrap64 (a + wrap64 c) = wrap64 (b + c) := by rw [h, wrap_add_l, wrap_add_r]
theorem implFirV_ev (t st l : List Int) (hl : l.length ≤ 2000000) (ht : t.length = st.length + 1) (hst : st.length ≤ 2000000) : Ev (fun k => impl_fir.f k t st l) (firV t st l) := by
  unfold impl_fir.f
  rw [clone_eq st hst]
  simp only [Option.bind_some]
  have h := for_iff (fun k (s : List Int × List Int) i => impl_fir.l0 k t s.2 s.1 l (l.length : Int) i) (firStep t l) (fun i s => s.1.length = i ∧ s.2.length = st.length) l.length (firV t st l) ?_ ([], st) ⟨rfl, rfl⟩
  · rw [h.2, ev_shift]
    simp only [impl_fir.l0]
    rw [ev_neg (by omega)]
    exact Ev.now _
  · rintro i ⟨out, past⟩ hi ⟨h1, h2⟩
    simp only at h1 h2
    refine ⟨by simp only [firStep, List.length_append, List.length_cons, List.length_nil, List.length_take]; omega, ?_⟩
    rw [ev_shift]
    simp only [impl_fir.l0]
    rw [ev_pos (by omega), ev_pos (by omega), ev_pos (by omega), ev_pos (by omega)]
    have g := for_iff (fun k c j => impl_fir.l1 k t past out (rd l (i : Int)) c l (l.length : Int) (i : Int) past (past.length : Int) j) (fun j _ => wrap64 (dotS t (rd l (i : Int) :: past) (j + 1 + 1))) (fun j c => c = wrap64 (dotS t (rd l (i : Int) :: past) (j + 1))) past.length (firV t st l) ?_ (wrap64 (rd t 0 * rd l (i : Int))) ?_
    · rw [g.2, g.1, ev_shift]
      simp only [impl_fir.l1, Option.bind_some]
      rw [ev_neg (by omega), ev_pos (by omega), ev_pos (by simp; omega), ev_pos (by omega), ev_pos (by simp; omega), w64 (n := (i : Int) + 1) (by omega) (by omega)]
      simp only [firStep, Int.toNat_natCast, List.singleton_append]
      have e : past.length + 1 = t.length := by omega
      rw [e]
    · intro j c hj hc
      refine ⟨rfl, ?_⟩
      rw [ev_shift]
      simp only [impl_fir.l1]
      rw [w64 (n := 1 + (j : Int)) (by omega) (by omega), ev_pos (by omega), ev_pos (by omega), ev_pos (by omega), ev_pos (by omega), ev_pos (by omega), w64 (n := (j : Int) + 1) (by omega) (by omega)]
      rw [wrap_fold _ _ _ hc]
      have e : dotS t (rd l (i : Int) :: past) (j + 1 + 1) = dotS t (rd l (i : Int) :: past) (j + 1) + rd t (1 + (j : Int)) * rd past (j : Int) := by
        rw [dotS]
        have e1 : ((j + 1 : Nat) : Int) = (j : Int) + 1 := by omega
        rw [e1, rd_cons_succ, Int.add_comm (j : Int) 1]
      rw [e]
    · have e : dotS t (rd l (i : Int) :: past) (0 + 1) = rd t 0 * rd l (i : Int) := by
        show 0 + rd t ((0 : Nat) : Int) * rd (rd l (i : Int) :: past) ((0 : Nat) : Int) = _
        rw [Int.zero_add]
        rfl
      rw [e]

theorem within_ev (l : List Int) (m : Int) (hl : l.length ≤ 2000000) (h0 : 0 ≤ m) (h1 : m ≤ 1000000000000) : Ev (fun k => impl_within.f k l m) (inB m l) := by
  unfold impl_within.f
  rw [inB_range]
  rw [all_iff (fun k i => impl_within.l0 k m l (l.length : Int) i) (fun i => decide (-m ≤ rd l (i : Int)) && decide (rd l (i : Int) ≤ m)) l.length _ false]
  · split
    · rename_i hp
      rw [hp]
      exact Ev.step (fun k => by simp only [impl_within.l0]; rw [if_neg (by omega)]) (Ev.now _)
    · rename_i hp
      simpa using hp
  · intro i hi
    by_cases p : -m ≤ rd l (i : Int) ∧ rd l (i : Int) ≤ m
    · rw [if_pos (by simpa using p)]
      rw [ev_shift]
      simp only [impl_within.l0]
      rw [ev_pos (by omega), ev_pos (by omega), ev_pos (by omega), w64 (n := -m) (by omega) (by omega), ev_neg (by omega), ev_neg (by omega), w64 (by omega) (by omega)]
    · rw [if_neg (by simpa using p)]
      rw [ev_shift]
      simp only [impl_within.l0]
      rw [ev_pos (by omega), ev_pos (by omega), ev_pos (by omega), w64 (n := -m) (by omega) (by omega)]
      by_cases q : rd l (i : Int) < -m
      · rw [ev_pos q, ev_some_iff]
      · rw [ev_neg q, ev_pos (by omega), ev_some_iff]

theorem implSig_ev (l : List Int) (hl : l.length ≤ 2000000) : Ev (fun k => impl_SignalOk.f k l) (sigB l) := by
  unfold impl_SignalOk.f
  by_cases h : (l.length : Int) ≤ 512
  · rw [ev_pos h]
    rw [ev_bind (within_ev l 1000000000 hl (by omega) (by omega)), ev_some_iff, sigB, decide_eq_true (by omega : l.length ≤ 512), Bool.true_and]
  · rw [ev_neg h]
    rw [ev_some_iff, sigB, decide_eq_false (by omega : ¬ l.length ≤ 512), Bool.false_and]

def tokB (l : List Int) : Bool := decide (1 ≤ l.length ∧ l.length ≤ 64) && inB 1000000 l
theorem tokB_iff {l : List Int} : tokB l = true ↔ 1 ≤ l.length ∧ l.length ≤ 64 ∧ inB 1000000 l = true := by simp [tokB, and_assoc]
theorem tapsOk_ev (l : List Int) (hl : l.length ≤ 2000000) : Ev (fun k => impl_tapsOk.f k l) (tokB l) := by
  unfold impl_tapsOk.f tokB
  by_cases h1 : (l.length : Int) ≥ 1
  · rw [ev_pos h1]
    by_cases h2 : (l.length : Int) ≤ 64
    · rw [ev_pos h2, ev_bind (within_ev l 1000000 hl (by omega) (by omega)), ev_some_iff, decide_eq_true (by omega), Bool.true_and]
    · rw [ev_neg h2, ev_some_iff, decide_eq_false (by omega), Bool.false_and]
  · rw [ev_neg h1, ev_some_iff, decide_eq_false (by omega), Bool.false_and]
open Classical in
noncomputable def firR (t st l : List Int) : List Int × List Int × Bool :=
  if tokB t = true ∧ sigB l = true ∧ sigB st = true ∧ st.length + 1 = t.length then ((firV t st l).1, (firV t st l).2, true) else ([], [], false)
theorem firR_length (t st l : List Int) : (firR t st l).1.length ≤ 2000000 ∧ (firR t st l).2.1.length ≤ 2000000 := by
  unfold firR
  split
  · rename_i h
    have h1 := firV_length t st l
    have h2 := (sigB_iff.1 h.2.1).1
    have h3 := (sigB_iff.1 h.2.2.1).1
    exact ⟨by show (firV t st l).1.length ≤ _; omega, by show (firV t st l).2.length ≤ _; omega⟩
  · exact ⟨by simp, by simp⟩
theorem implFir_ev (t st l : List Int) (ht : t.length ≤ 2000000) (hst : st.length ≤ 2000000) (hl : l.length ≤ 2000000) : Ev (fun k => impl_Fir.f k t st l) (firR t st l) := by
  unfold impl_Fir.f
  rw [ev_bind (tapsOk_ev t ht)]
  by_cases h1 : tokB t = true
  · rw [ev_pos h1, ev_bind (implSig_ev l hl)]
    by_cases h2 : sigB l = true
    · rw [ev_pos h2, ev_bind (implSig_ev st hst)]
      by_cases h3 : sigB st = true
      · rw [ev_pos h3, w64 (n := (t.length : Int) - 1) (by omega) (by omega)]
        have h1' := tokB_iff.1 h1
        by_cases h4 : (st.length : Int) = (t.length : Int) - 1
        · rw [ev_pos h4, firR, if_pos ⟨h1, h2, h3, by omega⟩, ev_bind (implFirV_ev t st l hl (by omega) hst)]
          exact Ev.now _
        · rw [ev_neg h4, firR, if_neg (by omega)]
          exact Ev.now _
      · rw [ev_neg h3, firR, if_neg (fun h => h3 h.2.2.1)]
        exact Ev.now _
    · rw [ev_neg h2, firR, if_neg (fun h => h2 h.2.1)]
      exact Ev.now _
  · rw [ev_neg h1, firR, if_neg (fun h => h1 h.1)]
    exact Ev.now _

theorem l1In_eq (a b c : Int) : spec_l1In.f a b c = some (decide (b ≤ a ∧ a ≤ c)) := by
  unfold spec_l1In.f
  by_cases h : a ≥ b
  · rw [if_pos h]
    congr 1
    rw [decide_eq_decide]
    omega
  · rw [if_neg h]
    congr 1
    symm
    rw [decide_eq_false_iff_not]
    omega

theorem l9Wide_ev (l : List Int) (m : Int) (hl : l.length ≤ 2000000) (h0 : 0 ≤ m) (h1 : m ≤ 1000000000000) : Ev (fun k => spec_l9Wide.f k l m) (inB m l) := by
  unfold spec_l9Wide.f
  rw [inB_range]
  rw [all_iff (fun k i => spec_l9Wide.l0 k l m i) (fun i => decide (-m ≤ rd l (i : Int)) && decide (rd l (i : Int) ≤ m)) l.length _ false]
  · split
    · rename_i hp
      rw [hp]
      exact Ev.step (fun k => by simp only [spec_l9Wide.l0]; rw [if_neg (by omega)]) (Ev.now _)
    · rename_i hp
      simpa using hp
  · intro i hi
    by_cases p : -m ≤ rd l (i : Int) ∧ rd l (i : Int) ≤ m
    · rw [if_pos (by simpa using p)]
      rw [ev_shift]
      simp only [spec_l9Wide.l0]
      rw [ev_pos (by omega), ev_pos (by omega), w64 (n := -m) (by omega) (by omega), l1In_eq]
      simp only [Option.bind_some]
      rw [ev_pos (by simpa using p), w64 (by omega) (by omega)]
    · rw [if_neg (by simpa using p)]
      rw [ev_shift]
      simp only [spec_l9Wide.l0]
      rw [ev_pos (by omega), ev_pos (by omega), w64 (n := -m) (by omega) (by omega), l1In_eq]
      simp only [Option.bind_some]
      rw [ev_neg (by simpa using p), ev_some_iff]

theorem l10Taps_ev (l : List Int) (hl : l.length ≤ 2000000) : Ev (fun k => spec_l10Taps.f k l) (decide (1 ≤ l.length ∧ l.length ≤ 64) && inB 1000000 l) := by
  unfold spec_l10Taps.f
  simp only [l1In_eq, Option.bind_some]
  by_cases h1 : 1 ≤ (l.length : Int) ∧ (l.length : Int) ≤ 64
  · rw [ev_pos (by simpa using h1), ev_bind (l9Wide_ev l 1000000 hl (by omega) (by omega)), ev_some_iff, decide_eq_true (by omega), Bool.true_and]
  · rw [ev_neg (by simpa using h1), ev_some_iff, decide_eq_false (by omega), Bool.false_and]


theorem l5Sample_eq (a : Int) : spec_l5Sample.f a = some (decide (-1000000000 ≤ a ∧ a ≤ 1000000000)) := by
  unfold spec_l5Sample.f
  rw [l1In_eq]
  rfl
theorem specSig_ev (l : List Int) (hl : l.length ≤ 2000000) : Ev (fun k => spec_SignalOk.f k l) (sigB l) := by
  unfold spec_SignalOk.f
  rw [sigB, inB_range]
  rw [all_iff (fun k i => spec_SignalOk.l0 k l i) (fun i => decide (-1000000000 ≤ rd l (i : Int)) && decide (rd l (i : Int) ≤ 1000000000)) l.length _ false]
  · split
    · rename_i hp
      rw [hp, Bool.and_true]
      exact Ev.step (f := fun _ => some (decide (l.length ≤ 512))) (fun k => by simp only [spec_SignalOk.l0]; rw [if_neg (by omega)]; congr 1; rw [decide_eq_decide]; omega) (Ev.now _)
    · rename_i hp
      simp only [Bool.not_eq_true] at hp
      rw [hp, Bool.and_false]
  · intro i hi
    by_cases p : -1000000000 ≤ rd l (i : Int) ∧ rd l (i : Int) ≤ 1000000000
    · rw [if_pos (by simpa using p)]
      rw [ev_shift]
      simp only [spec_SignalOk.l0]
      rw [ev_pos (by omega), ev_pos (by omega), l5Sample_eq]
      simp only [Option.bind_some]
      rw [ev_pos (by simpa using p), w64 (by omega) (by omega)]
    · rw [if_neg (by simpa using p)]
      rw [ev_shift]
      simp only [spec_SignalOk.l0]
      rw [ev_pos (by omega), ev_pos (by omega), l5Sample_eq]
      simp only [Option.bind_some]
      rw [ev_neg (by simpa using p), ev_some_iff]

theorem specFirV_ev (t st l : List Int) (hl : l.length ≤ 2000000) (ht : t.length = st.length + 1) (hst : st.length ≤ 2000000) : Ev (fun k => spec_Fir.l0 k t l st [] 0) ((firV t st l).1, (firV t st l).2, true) := by
  have h := for_iff (fun k (s : List Int × List Int) i => spec_Fir.l0 k t l s.2 s.1 i) (firStep t l) (fun i s => s.1.length = i ∧ s.2.length = st.length) l.length ((firV t st l).1, (firV t st l).2, true) ?_ ([], st) ⟨rfl, rfl⟩
  · have hl2 := firV_length t st l
    rw [h.2, ev_shift]
    simp only [spec_Fir.l0, Option.bind_some, List.nil_append, List.length_nil]
    have e : iter (firStep t l) l.length ([], st) = firV t st l := rfl
    rw [e, ev_neg (by omega), ev_pos (by omega)]
    exact Ev.now _
  · rintro i ⟨out, past⟩ hi ⟨h1, h2⟩
    simp only at h1 h2
    refine ⟨by simp only [firStep, List.length_append, List.length_cons, List.length_nil, List.length_take]; omega, ?_⟩
    rw [ev_shift]
    simp only [spec_Fir.l0, Option.bind_some]
    rw [ev_pos (by omega), ev_pos (by omega), ev_pos (by simp; omega)]
    have g := for_iff (fun k c j => spec_Fir.l1 k t l out (i : Int) ([rd l (i : Int)] ++ past) c j) (fun j _ => wrap64 (dotS t (rd l (i : Int) :: past) (j + 1))) (fun j c => c = wrap64 (dotS t (rd l (i : Int) :: past) j)) t.length ((firV t st l).1, (firV t st l).2, true) ?_ 0 (by simp [dotS, wrap_zero])
    · rw [g.2, g.1, ev_shift]
      simp only [spec_Fir.l1]
      rw [ev_neg (by omega), ev_pos (by omega), w64 (n := (t.length : Int) - 1) (by omega) (by omega), ev_pos (by omega), ev_pos (by simp; omega), w64 (n := (i : Int) + 1) (by omega) (by omega)]
      simp only [firStep, List.singleton_append]
      have e : ((t.length : Int) - 1).toNat = past.length := by omega
      rw [e]
    · intro j c hj hc
      refine ⟨rfl, ?_⟩
      rw [ev_shift]
      simp only [spec_Fir.l1, List.singleton_append, List.length_cons]
      rw [ev_pos (by omega), ev_pos (by omega), ev_pos (by omega), w64 (n := (j : Int) + 1) (by omega) (by omega)]
      rw [wrap_fold _ _ _ hc, dotS]
theorem specFir_ev (t st l : List Int) (ht : t.length ≤ 2000000) (hst : st.length ≤ 2000000) (hl : l.length ≤ 2000000) : Ev (fun k => spec_Fir.f k t st l) (firR t st l) := by
  unfold spec_Fir.f
  have no : ¬ (tokB t = true ∧ sigB l = true ∧ sigB st = true ∧ st.length + 1 = t.length) → Ev (fun k => spec_Fir.j0 k t st l true) (firR t st l) := by
    intro h
    rw [ev_shift, firR, if_neg h]
    simp only [spec_Fir.j0, if_true]
    exact Ev.now _
  rw [ev_bind (l10Taps_ev t ht)]
  by_cases h1 : tokB t = true
  · rw [ev_pos (by exact h1), ev_bind (specSig_ev l hl)]
    by_cases h2 : sigB l = true
    · rw [ev_pos h2, ev_bind (specSig_ev st hst)]
      by_cases h3 : sigB st = true
      · rw [ev_pos h3, w64 (n := (t.length : Int) - 1) (by omega) (by omega)]
        have h1' := tokB_iff.1 h1
        by_cases h4 : (st.length : Int) = (t.length : Int) - 1
        · have e : ((st.length : Int) != (t.length : Int) - 1) = false := by simpa using h4
          rw [e, firR, if_pos ⟨h1, h2, h3, by omega⟩, ev_shift]
          simp only [spec_Fir.j0, Bool.false_eq_true, if_false, Option.bind_some, List.nil_append, List.length_nil]
          rw [ev_pos (by omega)]
          exact specFirV_ev t st l hl (by omega) hst
        · have e : ((st.length : Int) != (t.length : Int) - 1) = true := by simpa using h4
          rw [e]
          exact no (by omega)
      · rw [ev_neg h3]
        exact no (fun h => h3 h.2.2.1)
    · rw [ev_neg h2]
      exact no (fun h => h2 h.2.1)
  · rw [ev_neg (by exact h1)]
    exact no (fun h => h1 h.1)

theorem implFirTurned_ev (t st l : List Int) (ht : t.length ≤ 2000000) (hst : st.length ≤ 2000000) (hl : l.length ≤ 2000000) : Ev (fun k => impl_FirTurned.f k t st l) (firR t st l) := by
  unfold impl_FirTurned.f
  rw [ev_bind (implFir_ev t st l ht hst hl)]
  exact Ev.now _

theorem specFirTurned_ev (t st l : List Int) (ht : t.length ≤ 2000000) (hst : st.length ≤ 2000000) (hl : l.length ≤ 2000000) : Ev (fun k => spec_FirTurned.f k t st l) (firR t st l) := by
  unfold spec_FirTurned.f
  rw [ev_bind (specFir_ev t st l ht hst hl)]
  exact Ev.now _

theorem FnExactFirTurned : laws_FnExactFirTurned.Pure := by
  intro l0 l1 l2 _ _ wl0 _ _ wl1 _ _ wl2
  refine Ev.rounds (g := fun k => laws_FnExactFirTurned.f k l0 l1 l2) ?_
  by_cases hl0 : (l0.length : Int) > 1048576
  · simp only [laws_FnExactFirTurned.f, if_pos hl0]
    exact Ev.now _
  by_cases hl1 : (l1.length : Int) > 1048576
  · simp only [laws_FnExactFirTurned.f, if_neg hl0, if_pos hl1]
    exact Ev.now _
  by_cases hl2 : (l2.length : Int) > 1048576
  · simp only [laws_FnExactFirTurned.f, if_neg hl0, if_neg hl1, if_pos hl2]
    exact Ev.now _
  have hS := specFirTurned_ev l0 l1 l2 (by omega) (by omega) (by omega)
  have hI := implFirTurned_ev l0 l1 l2 (by omega) (by omega) (by omega)
  have := (firR_length l0 l1 l2).1
  have := (firR_length l0 l1 l2).2
  generalize firR l0 l1 l2 = R at *
  simp only [laws_FnExactFirTurned.f, if_neg hl0, if_neg hl1, if_neg hl2]
  have t_l0 := toIntS_ev l0 (by omega)
  have e_l0 := eqIntS_ev l0 l0 (by omega)
  have t_l1 := toIntS_ev l1 (by omega)
  have e_l1 := eqIntS_ev l1 l1 (by omega)
  have t_l2 := toIntS_ev l2 (by omega)
  have e_l2 := eqIntS_ev l2 l2 (by omega)
  have v_0 := eqIntS_ev (R.1) (R.1) (by omega)
  have v_1 := eqIntS_ev (R.2.1) (R.2.1) (by omega)
  have m_l0 := markIntS_ev l0 (1) (by omega) (by omega) (by omega)
  have m_l1 := markIntS_ev l1 (1 + (l0.length : Int)) (by omega) (by omega) (by omega)
  have m_l2 := markIntS_ev l2 (1 + (l0.length : Int) + (l1.length : Int)) (by omega) (by omega) (by omega)
  have n_0 := markIntS_ev (R.1) (1) (by omega) (by omega) (by omega)
  have h_0 := heldIntS_ev (R.1).length (1) (by omega) (by omega) (by omega)
  have n_1 := markIntS_ev (R.2.1) (1 + ((R.1).length : Int)) (by omega) (by omega) (by omega)
  have h_1 := heldIntS_ev (R.2.1).length (1 + ((R.1).length : Int)) (by omega) (by omega) (by omega)
  simp only [decide_true] at e_l0 e_l1 e_l2 v_0 v_1
  repeat (first
    | exact Ev.now _
    | (rw [ev_bind t_l0])
    | (rw [ev_bind t_l1])
    | (rw [ev_bind t_l2])
    | (rw [ev_bind e_l0])
    | (rw [ev_bind e_l1])
    | (rw [ev_bind e_l2])
    | (rw [ev_bind v_0])
    | (rw [ev_bind v_1])
    | (rw [ev_bind m_l0])
    | (rw [ev_bind m_l1])
    | (rw [ev_bind m_l2])
    | (rw [ev_bind n_0])
    | (rw [ev_bind n_1])
    | (rw [ev_bind h_0])
    | (rw [ev_bind h_1])
    | (rw [ev_bind hS])
    | (rw [ev_bind hI])
    | (simp only [if_true, if_false, bne_self_eq_false, Bool.false_eq_true]; done)
    | (rw [ev_neg (by omega)])
    | (rw [ev_pos rfl])
    | (simp only [if_true, if_false, bne_self_eq_false, Bool.false_eq_true])
    | (rw [ev_shift]; simp only [laws_FnExactFirTurned.j0])
    | (rw [ev_shift]; simp only [laws_FnExactFirTurned.j1])
    | (rw [ev_shift]; simp only [laws_FnExactFirTurned.j2])
    | (rw [ev_shift]; simp only [laws_FnExactFirTurned.j3]))

end Go.Proofs.Ytinpmpdkoedjnaa.Pure
