/- The pure part of FnExactQuiet: the program's Quiet and the reference's Quiet compute the same list and count. No conditions. -/
import Derived.Test.YthmgjfobngmbcaaQFnExactQuietx2
import Derived.Test.YthmgjfobngmbcaaBase
namespace Go.Proofs.Ythmgjfobngmbcaa.Pure
open Go.RowKit Go.Proofs.Ythmgjfobngmbcaa.QFnExactQuiet Go.Proofs.YthmgjfobngmbcaaW.PrintWords Go.Proofs.YthmgjfobngmbcaaW.PrintLast
open Go.Proofs.Ythmgjfobngmbcaa.Base
set_option linter.unusedVariables false
set_option linter.unusedSimpArgs false
/-! ### toIntS, eqIntS, markIntS, heldIntS -/
theorem toIntS_ev (l : List Int) (h : l.length ≤ 2000000) : Ev (fun k => laws_toIntS.f k l) l := by
  unfold laws_toIntS.f
  simp only [Int.toNat_natCast]
  rw [ev_pos (by omega), ev_pos (by omega)]
  rw [(for_iff (fun k s i => laws_toIntS.l0 k l s i) (fun i s => s.set i (rd l (i : Int))) (fun _ s => s.length = l.length) l.length l ?_ _ (by simp)).2]
  · rw [iter_store_all _ _ _ (by simp), tab_rd]
    exact Ev.step (fun k => by simp only [laws_toIntS.l0]; rw [if_neg (by omega)]) (Ev.now _)
  · intro i s hi hs
    refine ⟨by simpa using hs, ?_⟩
    rw [ev_shift]
    simp only [laws_toIntS.l0]
    rw [ev_pos (by omega), ev_pos (by omega), ev_pos (by omega), w64 (by omega) (by omega), Int.toNat_natCast]

theorem eqIntS_ev (a b : List Int) (h : a.length ≤ 2000000) : Ev (fun k => laws_eqIntS.f k a b) (decide (a = b)) := by
  unfold laws_eqIntS.f
  by_cases e : a.length = b.length
  · rw [ev_pos (by omega)]
    rw [all_iff (fun k i => laws_eqIntS.l0 k a b i) (fun i => decide (rd a (i : Int) = rd b (i : Int))) a.length _ false]
    · split
      · rename_i hp
        have : a = b := list_ext_rd e fun i hi => by simpa using range_all.1 hp i hi
        rw [decide_eq_true this]
        exact Ev.step (fun k => by simp only [laws_eqIntS.l0]; rw [if_neg (by omega)]) (Ev.now _)
      · rename_i hp
        have : ¬ a = b := fun h => hp (by subst h; rw [range_all]; simp)
        simp [this]
    · intro i hi
      by_cases p : rd a (i : Int) = rd b (i : Int)
      · rw [if_pos (by simpa using p)]
        rw [ev_shift]
        simp only [laws_eqIntS.l0]
        rw [ev_pos (by omega), ev_pos (by omega), ev_pos (by omega), ev_pos p, w64 (by omega) (by omega)]
      · rw [if_neg (by simpa using p)]
        rw [ev_shift]
        simp only [laws_eqIntS.l0]
        rw [ev_pos (by omega), ev_pos (by omega), ev_pos (by omega), ev_neg p, ev_some_iff]
  · rw [ev_neg (by omega)]
    have : ¬ a = b := fun h => e (by rw [h])
    simp only [this, decide_false]
    exact Ev.now _

theorem markIntS_ev (l : List Int) (m : Int) (h : l.length ≤ 2000000) (h0 : 0 ≤ m) (h1 : m ≤ 1000000000) :
    Ev (fun k => laws_markIntS.f k l m) (m + (l.length : Int), tab l.length (fun i => m + (i : Int))) := by
  unfold laws_markIntS.f
  rw [(for_iff (fun k (s : List Int × Int) i => laws_markIntS.l0 k s.1 s.2 i) (fun i s => (s.1.set i (m + (i : Int)), m + ((i : Int) + 1))) (fun i s => s.1.length = l.length ∧ s.2 = m + (i : Int)) l.length _ ?_ (l, m) ⟨rfl, by simp⟩).2]
  · have hI : ∀ n, n ≤ l.length → iter (fun (i : Nat) (s : List Int × Int) => (s.1.set i (m + (i : Int)), m + ((i : Int) + 1))) n (l, m) = (iter (fun i s => s.set i (m + (i : Int))) n l, m + (n : Int)) := by
      intro n
      induction n with
      | zero => intro _; simp [iter]
      | succ n ih => intro hn; rw [iter_succ, ih (by omega), iter_succ]; simp
    rw [hI _ (Nat.le_refl _), iter_store_all _ _ _ rfl]
    exact Ev.step (fun k => by simp only [laws_markIntS.l0]; rw [if_neg (by simp)]) (Ev.now _)
  · rintro i ⟨s, c⟩ hi ⟨hs, hc⟩
    simp only at hs hc
    subst hc
    refine ⟨⟨by simpa using hs, by simp⟩, ?_⟩
    rw [ev_shift]
    simp only [laws_markIntS.l0]
    rw [ev_pos (by omega), ev_pos (by omega), w64 (by omega) (by omega), w64 (by omega) (by omega), Int.toNat_natCast, Int.add_assoc]

theorem heldIntS_ev (n : Nat) (m : Int) (h : n ≤ 2000000) (h0 : 0 ≤ m) (h1 : m ≤ 1000000000) :
    Ev (fun k => laws_heldIntS.f k (tab n (fun i => m + (i : Int))) m) (m + (n : Int)) := by
  unfold laws_heldIntS.f
  rw [(for_iff (fun k (c : Int) i => laws_heldIntS.l0 k (tab n (fun i => m + (i : Int))) c i) (fun i c => m + ((i : Int) + 1)) (fun i c => c = m + (i : Int)) n _ ?_ m (by simp)).2]
  · have hI : iter (fun (i : Nat) (c : Int) => m + ((i : Int) + 1)) n m = m + (n : Int) := by
      cases n with
      | zero => simp [iter]
      | succ n => rw [iter_succ]; simp
    rw [hI]
    exact Ev.step (fun k => by simp only [laws_heldIntS.l0]; rw [if_neg (by simp)]) (Ev.now _)
  · intro i c hi hc
    refine ⟨by simp, ?_⟩
    rw [ev_shift]
    simp only [laws_heldIntS.l0, tab_length]
    rw [ev_pos (by omega), ev_pos (by omega), rd_tab' hi, ev_pos hc.symm, hc, w64 (by omega) (by omega), w64 (by omega) (by omega), Int.add_assoc]

theorem clone_eq (l : List Int) (h : l.length ≤ 2000000) : slices_Clone_int_int.f l = some l := by
  unfold slices_Clone_int_int.f
  simp only [Option.bind_some, List.nil_append, List.length_nil]
  rw [if_pos (by omega)]

/-! ### Quiet -/
def qv (m x : Int) : Int := if wrap64 (-m) < x ∧ x < m then 0 else x
def qn (m x c : Int) : Int := if wrap64 (-m) < x ∧ x < m ∧ ¬ x = 0 then wrap64 (c + 1) else c
def quietV (l : List Int) (m : Int) : List Int := tab l.length fun i => qv m (rd l (i : Int))
def quietN (l : List Int) (m : Int) (n : Nat) : Int := iter (fun i c => qn m (rd l (i : Int)) c) n 0
theorem specQuiet_ev (l : List Int) (m : Int) (hl : l.length ≤ 2000000) : Ev (fun k => spec_Quiet.f k l m) (quietV l m, quietN l m l.length) := by
  unfold spec_Quiet.f
  have h := for_iff (fun k (s : List Int × Int) i => spec_Quiet.l0 k l m s.1 s.2 i) (fun i s => (s.1 ++ [qv m (rd l (i : Int))], qn m (rd l (i : Int)) s.2)) (fun i s => s = (tab i fun i => qv m (rd l (i : Int)), quietN l m i)) l.length (quietV l m, quietN l m l.length) ?_ ([], 0) rfl
  · rw [h.2, h.1, ev_shift]
    simp only [spec_Quiet.l0]
    rw [ev_neg (by omega)]
    exact Ev.now _
  · intro i s hi hs
    subst hs
    refine ⟨?_, ?_⟩
    · simp only [tab_succ]
      rfl
    · rw [ev_shift]
      simp only [spec_Quiet.l0, tab_length]
      rw [ev_pos (by omega), ev_pos (by omega), w64 (n := (i : Int) + 1) (by omega) (by omega)]
      by_cases h1 : rd l (i : Int) > wrap64 (-m)
      · rw [ev_pos h1]
        by_cases h2 : rd l (i : Int) < m
        · rw [ev_pos h2]
          by_cases h3 : rd l (i : Int) = 0
          · rw [ev_pos h3, ev_pos (by omega)]
            simp only [qv, qn, h3, not_true_eq_false, and_false, if_false, ite_self]
          · rw [ev_neg h3, ev_pos (by omega)]
            simp only [qv, qn]
            rw [if_pos (by omega), if_pos (by omega)]
        · rw [ev_neg h2, ev_pos (by omega)]
          simp only [qv, qn]
          rw [if_neg (by omega), if_neg (by omega)]
      · rw [ev_neg h1, ev_pos (by omega)]
        simp only [qv, qn]
        rw [if_neg (by omega), if_neg (by omega)]
theorem implQuiet_ev (l : List Int) (m : Int) (hl : l.length ≤ 2000000) (hm0 : -9223372036854775808 ≤ m) (hm1 : m ≤ 9223372036854775807) : Ev (fun k => impl_Quiet.f k l m) (quietV l m, quietN l m l.length) := by
  unfold impl_Quiet.f
  rw [clone_eq l hl]
  simp only [Option.bind_some]
  have hpos : ∀ x, (wrap64 (-m) < x ∧ x < m) → 0 < m := by
    intro x h
    unfold wrap64 at h
    omega
  have h := for_iff (fun k (s : List Int × Int) i => impl_Quiet.l0 k m s.1 s.2 (l.length : Int) i) (fun i s => (s.1.set i (qv m (rd l (i : Int))), qn m (rd l (i : Int)) s.2)) (fun i s => s = (tab i (fun i => qv m (rd l (i : Int))) ++ l.drop i, quietN l m i)) l.length (quietV l m, quietN l m l.length) ?_ (l, 0) (by simp [tab_zero, quietN, iter])
  · rw [h.2, h.1, ev_shift]
    simp only [impl_Quiet.l0]
    rw [ev_neg (by omega), List.drop_length, List.append_nil]
    exact Ev.now _
  · intro i s hi hs
    subst hs
    have hlen : (tab i (fun i => qv m (rd l (i : Int))) ++ l.drop i).length = l.length := by simp; omega
    have hrd : rd (tab i (fun i => qv m (rd l (i : Int))) ++ l.drop i) (i : Int) = rd l (i : Int) := by
      rw [rd_append_right (by simp)]
      simp [rd]
    have hset : ∀ v, (tab i (fun i => qv m (rd l (i : Int))) ++ l.drop i).set i v = tab i (fun i => qv m (rd l (i : Int))) ++ v :: l.drop (i + 1) := by
      intro v
      rw [List.set_append_right _ _ (by simp)]
      simp only [tab_length, Nat.sub_self]
      rw [List.drop_eq_getElem_cons hi]
      rfl
    refine ⟨?_, ?_⟩
    · simp only [hset, tab_succ]
      rw [List.append_assoc]
      rfl
    · simp only [hset]
      rw [ev_shift]
      simp only [impl_Quiet.l0, hlen, hrd]
      rw [ev_pos (by omega), ev_pos (by omega), ev_pos (by omega)]
      have hno : ¬ (wrap64 (-m) < rd l (i : Int) ∧ rd l (i : Int) < m) → (Ev (fun k => impl_Quiet.j1 k m (tab i (fun i => qv m (rd l (i : Int))) ++ l.drop i) (quietN l m i) (i : Int) (rd l (i : Int)) (l.length : Int) (i : Int) false) (quietV l m, quietN l m l.length) ↔ Ev (fun k => impl_Quiet.l0 k m (tab i (fun i => qv m (rd l (i : Int))) ++ qv m (rd l (i : Int)) :: l.drop (i + 1)) (qn m (rd l (i : Int)) (quietN l m i)) (l.length : Int) ((i : Int) + 1)) (quietV l m, quietN l m l.length)) := by
        intro h
        rw [ev_shift]
        simp only [impl_Quiet.j1, Bool.false_eq_true, if_false, qv, qn]
        rw [if_neg h, if_neg (fun g => h ⟨g.1, g.2.1⟩), w64 (n := (i : Int) + 1) (by omega) (by omega)]
        have : l.drop i = rd l (i : Int) :: l.drop (i + 1) := by
          rw [List.drop_eq_getElem_cons hi]
          simp [rd, hi]
        rw [← this]
      by_cases h0 : m > 0
      · rw [ev_pos h0]
        by_cases h1 : rd l (i : Int) > wrap64 (-m)
        · rw [ev_pos h1]
          by_cases h2 : rd l (i : Int) < m
          · rw [decide_eq_true h2, ev_shift]
            simp only [impl_Quiet.j1, if_true, hlen, Int.toNat_natCast, hset]
            rw [w64 (n := (i : Int) + 1) (by omega) (by omega)]
            simp only [qv, qn]
            rw [if_pos (by omega)]
            by_cases h3 : rd l (i : Int) = 0
            · rw [ev_pos h3, ev_pos (by omega), ev_pos (by omega), if_neg (by omega)]
            · rw [ev_neg h3, ev_pos (by omega), ev_pos (by omega), if_pos (by omega)]
          · rw [decide_eq_false h2]
            exact hno (by omega)
        · rw [ev_neg h1]
          exact hno (by omega)
      · rw [ev_neg h0]
        exact hno (fun g => h0 (hpos _ g))

theorem FnExactQuiet : laws_FnExactQuiet.Pure := by
  intro l0 a1 _ _ _ h1
  refine Ev.rounds (g := fun k => laws_FnExactQuiet.f k l0 a1) ?_
  by_cases hlen : (l0.length : Int) > 1048576
  · simp only [laws_FnExactQuiet.f, if_pos hlen]
    exact Ev.now _
  have hS := specQuiet_ev l0 a1 (by omega)
  have hI := implQuiet_ev l0 a1 (by omega) (wf64 h1).1 (wf64 h1).2
  have hv : (quietV l0 a1).length ≤ 2000000 := by simp [quietV]; omega
  generalize quietV l0 a1 = R at *
  generalize quietN l0 a1 l0.length = m at *
  simp only [laws_FnExactQuiet.f, if_neg hlen]
  have t_l0 := toIntS_ev l0 (by omega)
  have e_l0 := eqIntS_ev l0 l0 (by omega)
  have v_0 := eqIntS_ev (R) (R) (by omega)
  have m_l0 := markIntS_ev l0 (1) (by omega) (by omega) (by omega)
  have n_0 := markIntS_ev (R) (1) (by omega) (by omega) (by omega)
  have h_0 := heldIntS_ev (R).length (1) (by omega) (by omega) (by omega)
  simp only [decide_true] at e_l0 v_0
  repeat (first
    | exact Ev.now _
    | (rw [ev_bind t_l0])
    | (rw [ev_bind e_l0])
    | (rw [ev_bind v_0])
    | (rw [ev_bind m_l0])
    | (rw [ev_bind n_0])
    | (rw [ev_bind h_0])
    | (rw [ev_bind hS])
    | (rw [ev_bind hI])
    | (simp only [if_true, if_false, bne_self_eq_false, Bool.false_eq_true]; done)
    | (rw [ev_neg (by omega)])
    | (rw [ev_pos rfl])
    | (simp only [if_true, if_false, bne_self_eq_false, Bool.false_eq_true])
    | (rw [ev_shift]; simp only [laws_FnExactQuiet.j0])
    | (rw [ev_shift]; simp only [laws_FnExactQuiet.j1])
    | (rw [ev_shift]; simp only [laws_FnExactQuiet.j2])
    | (rw [ev_shift]; simp only [laws_FnExactQuiet.j3]))

end Go.Proofs.Ythmgjfobngmbcaa.Pure
