/- The pure part of FnExactBlocks: the program's Blocks and the reference's Blocks answer alike. No conditions. -/
import Derived.Test.YtilcnbommpncgaaPFnExactBlocksx4
import Derived.Test.YtilcnbommpncgaaBase
namespace Go.Proofs.Ytilcnbommpncgaa.Pure
open Go.RowKit Go.Proofs.Ytilcnbommpncgaa.PFnExactBlocks Go.Proofs.YtilcnbommpncgaaW.PrintWords Go.Proofs.YtilcnbommpncgaaW.PrintLast
open Go.Proofs.Ytilcnbommpncgaa.Base
set_option linter.unusedVariables false
set_option linter.unusedSimpArgs false
/-! ### toIntS, eqIntS, markIntS, heldIntS -/
theorem toIntS_ev (l : List Int) (h : l.length ≤ 2000000) : Ev (fun k => laws_toIntS.f k l) l := by
  unfold laws_toIntS.f
  simp only [Int.toNat_natCast]
  rw [ev_pos (by omega), ev_pos (by omega)]
  rw [(for_iff (fun k s i => laws_toIntS.l0 k l s i) (fun i s => s.set i (rd l (i : Int))) (fun _ s => s.length = l.length) l.length l ?_ _ (by simp)).2]
  · rw [iter_store_all _ _ _ (by simp), tab_rd]
    exact Ev.step (fun k => by simp only [laws_toIntS.l0]; rw [if_neg (by omega)]) (Ev.now _)
  · intro i s hi hs
    refine ⟨by simpa using hs, ?_⟩
    rw [ev_shift]
    simp only [laws_toIntS.l0]
    rw [ev_pos (by omega), ev_pos (by omega), ev_pos (by omega), w64 (by omega) (by omega), Int.toNat_natCast]

theorem eqIntS_ev (a b : List Int) (h : a.length ≤ 2000000) : Ev (fun k => laws_eqIntS.f k a b) (decide (a = b)) := by
  unfold laws_eqIntS.f
  by_cases e : a.length = b.length
  · rw [ev_pos (by omega)]
    rw [all_iff (fun k i => laws_eqIntS.l0 k a b i) (fun i => decide (rd a (i : Int) = rd b (i : Int))) a.length _ false]
    · split
      · rename_i hp
        have : a = b := list_ext_rd e fun i hi => by simpa using range_all.1 hp i hi
        rw [decide_eq_true this]
        exact Ev.step (fun k => by simp only [laws_eqIntS.l0]; rw [if_neg (by omega)]) (Ev.now _)
      · rename_i hp
        have : ¬ a = b := fun h => hp (by subst h; rw [range_all]; simp)
        simp [this]
    · intro i hi
      by_cases p : rd a (i : Int) = rd b (i : Int)
      · rw [if_pos (by simpa using p)]
        rw [ev_shift]
        simp only [laws_eqIntS.l0]
        rw [ev_pos (by omega), ev_pos (by omega), ev_pos (by omega), ev_pos p, w64 (by omega) (by omega)]
      · rw [if_neg (by simpa using p)]
        rw [ev_shift]
        simp only [laws_eqIntS.l0]
        rw [ev_pos (by omega), ev_pos (by omega), ev_pos (by omega), ev_neg p, ev_some_iff]
  · rw [ev_neg (by omega)]
    have : ¬ a = b := fun h => e (by rw [h])
    simp only [this, decide_false]
    exact Ev.now _

theorem markIntS_ev (l : List Int) (m : Int) (h : l.length ≤ 2000000) (h0 : 0 ≤ m) (h1 : m ≤ 1000000000) :
    Ev (fun k => laws_markIntS.f k l m) (m + (l.length : Int), tab l.length (fun i => m + (i : Int))) := by
  unfold laws_markIntS.f
  rw [(for_iff (fun k (s : List Int × Int) i => laws_markIntS.l0 k s.1 s.2 i) (fun i s => (s.1.set i (m + (i : Int)), m + ((i : Int) + 1))) (fun i s => s.1.length = l.length ∧ s.2 = m + (i : Int)) l.length _ ?_ (l, m) ⟨rfl, by simp⟩).2]
  · have hI : ∀ n, n ≤ l.length → iter (fun (i : Nat) (s : List Int × Int) => (s.1.set i (m + (i : Int)), m + ((i : Int) + 1))) n (l, m) = (iter (fun i s => s.set i (m + (i : Int))) n l, m + (n : Int)) := by
      intro n
      induction n with
      | zero => intro _; simp [iter]
      | succ n ih => intro hn; rw [iter_succ, ih (by omega), iter_succ]; simp
    rw [hI _ (Nat.le_refl _), iter_store_all _ _ _ rfl]
    exact Ev.step (fun k => by simp only [laws_markIntS.l0]; rw [if_neg (by simp)]) (Ev.now _)
  · rintro i ⟨s, c⟩ hi ⟨hs, hc⟩
    simp only at hs hc
    subst hc
    refine ⟨⟨by simpa using hs, by simp⟩, ?_⟩
    rw [ev_shift]
    simp only [laws_markIntS.l0]
    rw [ev_pos (by omega), ev_pos (by omega), w64 (by omega) (by omega), w64 (by omega) (by omega), Int.toNat_natCast, Int.add_assoc]

theorem heldIntS_ev (n : Nat) (m : Int) (h : n ≤ 2000000) (h0 : 0 ≤ m) (h1 : m ≤ 1000000000) :
    Ev (fun k => laws_heldIntS.f k (tab n (fun i => m + (i : Int))) m) (m + (n : Int)) := by
  unfold laws_heldIntS.f
  rw [(for_iff (fun k (c : Int) i => laws_heldIntS.l0 k (tab n (fun i => m + (i : Int))) c i) (fun i c => m + ((i : Int) + 1)) (fun i c => c = m + (i : Int)) n _ ?_ m (by simp)).2]
  · have hI : iter (fun (i : Nat) (c : Int) => m + ((i : Int) + 1)) n m = m + (n : Int) := by
      cases n with
      | zero => simp [iter]
      | succ n => rw [iter_succ]; simp
    rw [hI]
    exact Ev.step (fun k => by simp only [laws_heldIntS.l0]; rw [if_neg (by simp)]) (Ev.now _)
  · intro i c hi hc
    refine ⟨by simp, ?_⟩
    rw [ev_shift]
    simp only [laws_heldIntS.l0, tab_length]
    rw [ev_pos (by omega), ev_pos (by omega), rd_tab' hi, ev_pos hc.symm, hc, w64 (by omega) (by omega), w64 (by omega) (by omega), Int.add_assoc]

theorem l1In_eq (a b c : Int) : spec_l1In.f a b c = some (decide (b ≤ a ∧ a ≤ c)) := by
  unfold spec_l1In.f
  by_cases h : a ≥ b
  · rw [if_pos h]
    congr 1
    rw [decide_eq_decide]
    omega
  · rw [if_neg h]
    congr 1
    symm
    rw [decide_eq_false_iff_not]
    omega

theorem specTaps_ev (l : List Int) (hl : l.length ≤ 2000000) : Ev (fun k => spec_l6Taps.f k l) (tapB l) := by
  unfold spec_l6Taps.f
  rw [tapB, inB_range]
  rw [all_iff (fun k i => spec_l6Taps.l0 k l i) (fun i => decide (-1000000 ≤ rd l (i : Int)) && decide (rd l (i : Int) ≤ 1000000)) l.length _ false]
  · split
    · rename_i hp
      rw [hp, Bool.and_true]
      exact Ev.step (f := fun _ => some (decide (l.length ≤ 256))) (fun k => by simp only [spec_l6Taps.l0]; rw [if_neg (by omega)]; congr 1; rw [decide_eq_decide]; omega) (Ev.now _)
    · rename_i hp
      simp only [Bool.not_eq_true] at hp
      rw [hp, Bool.and_false]
  · intro i hi
    by_cases p : -1000000 ≤ rd l (i : Int) ∧ rd l (i : Int) ≤ 1000000
    · rw [if_pos (by simpa using p)]
      rw [ev_shift]
      simp only [spec_l6Taps.l0]
      rw [ev_pos (by omega), ev_pos (by omega), l1In_eq]
      simp only [Option.bind_some]
      rw [ev_pos (by simpa using p), w64 (by omega) (by omega)]
    · rw [if_neg (by simpa using p)]
      rw [ev_shift]
      simp only [spec_l6Taps.l0]
      rw [ev_pos (by omega), ev_pos (by omega), l1In_eq]
      simp only [Option.bind_some]
      rw [ev_neg (by simpa using p), ev_some_iff]

theorem within_ev (l : List Int) (m : Int) (hl : l.length ≤ 2000000) (h0 : 0 ≤ m) (h1 : m ≤ 1000000000000) : Ev (fun k => impl_within.f k l m) (inB m l) := by
  unfold impl_within.f
  rw [inB_range]
  rw [all_iff (fun k i => impl_within.l0 k m l (l.length : Int) i) (fun i => decide (-m ≤ rd l (i : Int)) && decide (rd l (i : Int) ≤ m)) l.length _ false]
  · split
    · rename_i hp
      rw [hp]
      exact Ev.step (fun k => by simp only [impl_within.l0]; rw [if_neg (by omega)]) (Ev.now _)
    · rename_i hp
      simpa using hp
  · intro i hi
    by_cases p : -m ≤ rd l (i : Int) ∧ rd l (i : Int) ≤ m
    · rw [if_pos (by simpa using p)]
      rw [ev_shift]
      simp only [impl_within.l0]
      rw [ev_pos (by omega), ev_pos (by omega), ev_pos (by omega), w64 (n := -m) (by omega) (by omega), ev_neg (by omega), ev_neg (by omega), w64 (by omega) (by omega)]
    · rw [if_neg (by simpa using p)]
      rw [ev_shift]
      simp only [impl_within.l0]
      rw [ev_pos (by omega), ev_pos (by omega), ev_pos (by omega), w64 (n := -m) (by omega) (by omega)]
      by_cases q : rd l (i : Int) < -m
      · rw [ev_pos q, ev_some_iff]
      · rw [ev_neg q, ev_pos (by omega), ev_some_iff]

theorem implTaps_ev (l : List Int) (hl : l.length ≤ 2000000) : Ev (fun k => impl_taps.f k l) (tapB l) := by
  unfold impl_taps.f
  by_cases h : (l.length : Int) ≤ 256
  · rw [ev_pos h]
    rw [ev_bind (within_ev l 1000000 hl (by omega) (by omega)), ev_some_iff, tapB, decide_eq_true (by omega : l.length ≤ 256), Bool.true_and]
  · rw [ev_neg h]
    rw [ev_some_iff, tapB, decide_eq_false (by omega : ¬ l.length ≤ 256), Bool.false_and]

/-! ### the convolution's numbers -/
def convAt (t l : List Int) (i : Nat) : Nat → Int
  | 0 => 0
  | n + 1 => convAt t l i n + rd t (n : Int) * (if n ≤ i then rd l ((i - n : Nat) : Int) else 0)
theorem convAt_succ (t l : List Int) (i n : Nat) : convAt t l i (n + 1) = convAt t l i n + rd t (n : Int) * (if n ≤ i then rd l ((i - n : Nat) : Int) else 0) := rfl

/-! ### Convolve -/
def convV (a b : List Int) : List Int := tab (a.length + b.length - 1) fun m => wrap64 (convAt a b m a.length)
/-- One round: x times the list b, laid upon s from place i on, the first j of b. -/
def addAt (b : List Int) (i : Nat) (x : Int) (s : Nat → Int) (j : Nat) (m : Nat) : Int := s m + (if i ≤ m ∧ m - i < j then x * rd b ((m - i : Nat) : Int) else 0)
theorem addAt_zero (b : List Int) (i : Nat) (x : Int) (s : Nat → Int) (m : Nat) : addAt b i x s 0 m = s m := by simp [addAt]
theorem addAt_succ (b : List Int) (i : Nat) (x : Int) (s : Nat → Int) (j m : Nat) : addAt b i x s (j + 1) m = addAt b i x s j m + (if m = i + j then x * rd b (j : Int) else 0) := by
  unfold addAt
  by_cases h : m = i + j
  · subst h
    rw [if_pos (by omega), if_neg (by omega), if_pos rfl]
    have e : i + j - i = j := by omega
    rw [e]
    omega
  · rw [if_neg h]
    by_cases c : i ≤ m ∧ m - i < j
    · rw [if_pos (by omega), if_pos c]
      omega
    · rw [if_neg (by omega), if_neg c]
      omega
theorem addAt_all (a b : List Int) (i m : Nat) : addAt b i (rd a (i : Int)) (fun m => convAt a b m i) b.length m = convAt a b m (i + 1) := by
  unfold addAt
  rw [convAt_succ]
  congr 1
  by_cases c : i ≤ m
  · rw [if_pos c]
    by_cases d : m - i < b.length
    · rw [if_pos ⟨c, d⟩]
    · rw [if_neg (by omega), rd_out (l := b) (i := ((m - i : Nat) : Int)) (by omega), Int.mul_zero]
  · rw [if_neg (by omega), if_neg c, Int.mul_zero]
theorem set_tab {n p : Nat} (g : Nat → Int) (v : Int) (hp : p < n) : (tab n g).set p v = tab n fun m => if m = p then v else g m := by
  refine eq_tab (by simp) fun i hi => ?_
  have h := rd_set (l := tab n g) (i := (i : Int)) (j := (p : Int)) (v := v) (by omega) (by simpa using hp) (by omega)
  rw [Int.toNat_natCast] at h
  rw [h]
  by_cases c : i = p
  · subst c
    rw [if_pos rfl, if_pos rfl]
  · rw [if_neg (by omega), if_neg c, rd_tab' hi]
theorem addAt_set {n i j : Nat} (b : List Int) (x : Int) (s : Nat → Int) (h : i + j < n) :
    (tab n fun m => wrap64 (addAt b i x s j m)).set (i + j) (wrap64 (wrap64 (addAt b i x s j (i + j)) + wrap64 (x * rd b (j : Int)))) = tab n fun m => wrap64 (addAt b i x s (j + 1) m) := by
  rw [set_tab _ _ h]
  refine tab_congr fun m _ => ?_
  rw [addAt_succ]
  by_cases c : m = i + j
  · subst c
    rw [if_pos rfl, if_pos rfl, wrap_add_l, wrap_add_r]
  · rw [if_neg c, if_neg c, Int.add_zero]

theorem implConv0_ev (a b : List Int) (ha : a.length ≤ 2000) (hb : b.length ≤ 2000) (ha0 : 0 < a.length) (hb0 : 0 < b.length) :
    Ev (fun k => impl_convolve.l0 k b (List.replicate (a.length + b.length - 1) 0) a (a.length : Int) 0) (convV a b) := by
  have h := for_iff (fun k s i => impl_convolve.l0 k b s a (a.length : Int) i) (fun i _ => tab (a.length + b.length - 1) fun m => wrap64 (convAt a b m (i + 1))) (fun i s => s = tab (a.length + b.length - 1) fun m => wrap64 (convAt a b m i)) a.length (convV a b) ?_ (List.replicate (a.length + b.length - 1) 0) ?_
  · rw [h.2, h.1, ev_shift]
    simp only [impl_convolve.l0]
    rw [ev_neg (by omega)]
    exact Ev.now _
  · intro i s hi hs
    refine ⟨rfl, ?_⟩
    rw [ev_shift]
    simp only [impl_convolve.l0]
    rw [ev_pos (by omega), ev_pos (by omega), ev_pos (by omega)]
    have g := for_iff (fun k s j => impl_convolve.l1 k b s (i : Int) (rd a (i : Int)) a (a.length : Int) (i : Int) b (b.length : Int) j) (fun j _ => tab (a.length + b.length - 1) fun m => wrap64 (addAt b i (rd a (i : Int)) (fun m => convAt a b m i) (j + 1) m)) (fun j s => s = tab (a.length + b.length - 1) fun m => wrap64 (addAt b i (rd a (i : Int)) (fun m => convAt a b m i) j m)) b.length (convV a b) ?_ s ?_
    · rw [g.2, g.1, ev_shift]
      simp only [impl_convolve.l1, addAt_all]
      rw [ev_neg (by omega), w64 (by omega) (by omega)]
    · intro j s hj hs
      refine ⟨rfl, ?_⟩
      subst hs
      rw [ev_shift]
      simp only [impl_convolve.l1, tab_length]
      rw [w64 (n := (i : Int) + (j : Int)) (by omega) (by omega), w64 (n := (j : Int) + 1) (by omega) (by omega)]
      have e : (i : Int) + (j : Int) = ((i + j : Nat) : Int) := by omega
      rw [e, ev_pos (by omega), ev_pos (by omega), ev_pos (by omega), ev_pos (by omega), ev_pos (by omega), rd_tab' (by omega), Int.toNat_natCast, addAt_set b _ _ (by omega)]
    · rw [hs]
      refine tab_congr fun m _ => ?_
      rw [addAt_zero]
  · refine (eq_tab (by simp) fun i hi => ?_)
    rw [rd_replicate]
    simp [convAt, wrap_zero]
theorem implConv_ev (a b : List Int) (ha : a.length ≤ 2000) (hb : b.length ≤ 2000) : Ev (fun k => impl_convolve.f k a b) (if a.length = 0 ∨ b.length = 0 then [] else convV a b) := by
  unfold impl_convolve.f
  by_cases h1 : (a.length : Int) = 0
  · rw [ev_pos h1, if_pos (by omega), ev_shift]
    simp only [impl_convolve.j0, if_true]
    exact Ev.now _
  · rw [ev_neg h1]
    by_cases h2 : (b.length : Int) = 0
    · have e : ((b.length : Int) == 0) = true := by simpa using h2
      rw [e, if_pos (by omega), ev_shift]
      simp only [impl_convolve.j0, if_true]
      exact Ev.now _
    · have e : ((b.length : Int) == 0) = false := by simpa using h2
      rw [e, if_neg (by omega), ev_shift]
      simp only [impl_convolve.j0, Bool.false_eq_true, if_false]
      rw [w64 (n := (a.length : Int) + (b.length : Int)) (by omega) (by omega), w64 (by omega) (by omega)]
      have e2 : (a.length : Int) + (b.length : Int) - 1 = ((a.length + b.length - 1 : Nat) : Int) := by omega
      rw [e2, Int.toNat_natCast, ev_pos (by omega), ev_pos (by omega)]
      exact implConv0_ev a b ha hb (by omega) (by omega)
def convR (a b : List Int) : List Int × Bool := if (tapB a && tapB b) = true then (if a.length = 0 ∨ b.length = 0 then [] else convV a b, true) else ([], false)
theorem convR_length (a b : List Int) : (convR a b).1.length ≤ 2000 := by
  unfold convR
  split
  · rename_i h
    simp only [Bool.and_eq_true] at h
    have h1 := (tapB_iff.1 h.1).1
    have h2 := (tapB_iff.1 h.2).1
    show (if a.length = 0 ∨ b.length = 0 then [] else convV a b).length ≤ 2000
    split
    · simp
    · simp [convV]; omega
  · simp

theorem specConv0_ev (a b : List Int) (ha : a.length ≤ 2000) (hb : b.length ≤ 2000) (ha0 : 0 < a.length) (hb0 : 0 < b.length) :
    Ev (fun k => spec_Convolve.l0 k a b (List.replicate (a.length + b.length - 1) 0) 0) (convV a b, true) := by
  have h := for_iff (fun k s i => spec_Convolve.l0 k a b s i) (fun i _ => tab (a.length + b.length - 1) fun m => wrap64 (convAt a b m (i + 1))) (fun i s => s = tab (a.length + b.length - 1) fun m => wrap64 (convAt a b m i)) a.length (convV a b, true) ?_ (List.replicate (a.length + b.length - 1) 0) ?_
  · rw [h.2, h.1, ev_shift]
    simp only [spec_Convolve.l0]
    rw [ev_neg (by omega)]
    exact Ev.now _
  · intro i s hi hs
    refine ⟨rfl, ?_⟩
    rw [ev_shift]
    simp only [spec_Convolve.l0]
    rw [ev_pos (by omega)]
    have g := for_iff (fun k s j => spec_Convolve.l1 k a b s (i : Int) j) (fun j _ => tab (a.length + b.length - 1) fun m => wrap64 (addAt b i (rd a (i : Int)) (fun m => convAt a b m i) (j + 1) m)) (fun j s => s = tab (a.length + b.length - 1) fun m => wrap64 (addAt b i (rd a (i : Int)) (fun m => convAt a b m i) j m)) b.length (convV a b, true) ?_ s ?_
    · rw [g.2, g.1, ev_shift]
      simp only [spec_Convolve.l1, addAt_all]
      rw [ev_neg (by omega), w64 (by omega) (by omega)]
    · intro j s hj hs
      refine ⟨rfl, ?_⟩
      subst hs
      rw [ev_shift]
      simp only [spec_Convolve.l1, tab_length]
      rw [w64 (n := (i : Int) + (j : Int)) (by omega) (by omega), w64 (n := (j : Int) + 1) (by omega) (by omega)]
      have e : (i : Int) + (j : Int) = ((i + j : Nat) : Int) := by omega
      rw [e, ev_pos (by omega), ev_pos (by omega), ev_pos (by omega), ev_pos (by omega), ev_pos (by omega), ev_pos (by omega), rd_tab' (by omega), Int.toNat_natCast, addAt_set b _ _ (by omega)]
    · rw [hs]
      refine tab_congr fun m _ => ?_
      rw [addAt_zero]
  · refine (eq_tab (by simp) fun i hi => ?_)
    rw [rd_replicate]
    simp [convAt, wrap_zero]
theorem specConvolve_ev (a b : List Int) (ha : a.length ≤ 2000000) (hb : b.length ≤ 2000000) : Ev (fun k => spec_Convolve.f k a b) (convR a b) := by
  unfold spec_Convolve.f convR
  have no : ¬ (tapB a && tapB b) = true → Ev (fun k => spec_Convolve.j0 k a b true) (convR a b) := by
    intro h
    rw [ev_shift, convR, if_neg h]
    simp only [spec_Convolve.j0, if_true]
    exact Ev.now _
  rw [ev_bind (specTaps_ev a ha)]
  by_cases h1 : tapB a = true
  · rw [ev_pos h1, ev_bind (specTaps_ev b hb)]
    by_cases h2 : tapB b = true
    · have h1' := (tapB_iff.1 h1).1
      have h2' := (tapB_iff.1 h2).1
      rw [h2, if_pos (by simp [h1]), ev_shift]
      simp only [spec_Convolve.j0, Bool.not_true, Bool.false_eq_true, if_false]
      by_cases h3 : (a.length : Int) = 0
      · rw [ev_pos h3, if_pos (by omega), ev_shift]
        simp only [spec_Convolve.j1, if_true]
        exact Ev.now _
      · rw [ev_neg h3]
        by_cases h4 : (b.length : Int) = 0
        · have e : ((b.length : Int) == 0) = true := by simpa using h4
          rw [e, if_pos (by omega), ev_shift]
          simp only [spec_Convolve.j1, if_true]
          exact Ev.now _
        · have e : ((b.length : Int) == 0) = false := by simpa using h4
          rw [e, if_neg (by omega), ev_shift]
          simp only [spec_Convolve.j1, Bool.false_eq_true, if_false]
          rw [w64 (n := (a.length : Int) + (b.length : Int)) (by omega) (by omega), w64 (by omega) (by omega)]
          have e2 : (a.length : Int) + (b.length : Int) - 1 = ((a.length + b.length - 1 : Nat) : Int) := by omega
          rw [e2, Int.toNat_natCast, ev_pos (by omega), ev_pos (by omega)]
          exact specConv0_ev a b (by omega) (by omega) (by omega) (by omega)
    · have e : tapB b = false := by simpa using h2
      rw [e]
      have := no (by simp [h2])
      simpa only [convR, e, Bool.and_false, Bool.not_false] using this
  · rw [ev_neg h1]
    exact no (by simp [h1])

open Classical in
noncomputable def blocksR (a b : List Int) (n : Int) : List Int × Bool := if 1 ≤ n ∧ n ≤ 256 then convR a b else ([], false)
theorem blocksR_length (a b : List Int) (n : Int) : (blocksR a b n).1.length ≤ 2000 := by
  unfold blocksR
  split
  · exact convR_length a b
  · simp
theorem specBlocks_ev (a b : List Int) (n : Int) (ha : a.length ≤ 2000000) (hb : b.length ≤ 2000000) : Ev (fun k => spec_Blocks.f k a b n) (blocksR a b n) := by
  unfold spec_Blocks.f blocksR
  simp only [l1In_eq, Option.bind_some]
  by_cases h : 1 ≤ n ∧ n ≤ 256
  · rw [ev_pos (by simpa using h), if_pos h, ev_bind (specConvolve_ev a b ha hb)]
    exact Ev.now _
  · rw [ev_neg (by simpa using h), if_neg h]
    exact Ev.now _
theorem implBlocks_ev (a b : List Int) (n : Int) (ha : a.length ≤ 2000000) (hb : b.length ≤ 2000000) : Ev (fun k => impl_Blocks.f k a b n) (blocksR a b n) := by
  unfold impl_Blocks.f blocksR convR
  rw [ev_bind (implTaps_ev a ha)]
  by_cases h1 : tapB a = true
  · rw [ev_pos h1, ev_bind (implTaps_ev b hb)]
    by_cases h2 : tapB b = true
    · have h1' := (tapB_iff.1 h1).1
      have h2' := (tapB_iff.1 h2).1
      rw [ev_pos h2]
      by_cases h3 : n < 1
      · rw [ev_pos h3, if_neg (by omega)]
        exact Ev.now _
      · rw [ev_neg h3]
        by_cases h4 : n > 256
        · rw [ev_pos h4, if_neg (by omega)]
          exact Ev.now _
        · rw [ev_neg h4, if_pos (by omega), if_pos (by simp [h1, h2]), ev_bind (implConv_ev a b (by omega) (by omega))]
          exact Ev.now _
    · rw [ev_neg h2, ev_some_iff]
      simp [h2]
  · rw [ev_neg h1, ev_some_iff]
    simp [h1]

theorem FnExactBlocks : laws_FnExactBlocks.Pure := by
  intro l0 l1 a2 _ _ wl0 _ _ wl1 wa2
  refine Ev.rounds (g := fun k => laws_FnExactBlocks.f k l0 l1 a2) ?_
  by_cases hl0 : (l0.length : Int) > 1048576
  · simp only [laws_FnExactBlocks.f, if_pos hl0]
    exact Ev.now _
  by_cases hl1 : (l1.length : Int) > 1048576
  · simp only [laws_FnExactBlocks.f, if_neg hl0, if_pos hl1]
    exact Ev.now _
  have hS := specBlocks_ev l0 l1 a2 (by omega) (by omega)
  have hI := implBlocks_ev l0 l1 a2 (by omega) (by omega)
  have := blocksR_length l0 l1 a2
  generalize blocksR l0 l1 a2 = R at *
  simp only [laws_FnExactBlocks.f, if_neg hl0, if_neg hl1]
  have t_l0 := toIntS_ev l0 (by omega)
  have e_l0 := eqIntS_ev l0 l0 (by omega)
  have t_l1 := toIntS_ev l1 (by omega)
  have e_l1 := eqIntS_ev l1 l1 (by omega)
  have v_0 := eqIntS_ev (R.1) (R.1) (by omega)
  have m_l0 := markIntS_ev l0 (1) (by omega) (by omega) (by omega)
  have m_l1 := markIntS_ev l1 (1 + (l0.length : Int)) (by omega) (by omega) (by omega)
  have n_0 := markIntS_ev (R.1) (1) (by omega) (by omega) (by omega)
  have h_0 := heldIntS_ev (R.1).length (1) (by omega) (by omega) (by omega)
  simp only [decide_true] at e_l0 e_l1 v_0
  repeat (first
    | exact Ev.now _
    | (rw [ev_bind t_l0])
    | (rw [ev_bind t_l1])
    | (rw [ev_bind e_l0])
    | (rw [ev_bind e_l1])
    | (rw [ev_bind v_0])
    | (rw [ev_bind m_l0])
    | (rw [ev_bind m_l1])
    | (rw [ev_bind n_0])
    | (rw [ev_bind h_0])
    | (rw [ev_bind hS])
    | (rw [ev_bind hI])
    | (simp only [if_true, if_false, bne_self_eq_false, Bool.false_eq_true]; done)
    | (rw [ev_neg (by omega)])
    | (rw [ev_pos rfl])
    | (simp only [if_true, if_false, bne_self_eq_false, Bool.false_eq_true])
    | (rw [ev_shift]; simp only [laws_FnExactBlocks.j0])
    | (rw [ev_shift]; simp only [laws_FnExactBlocks.j1])
    | (rw [ev_shift]; simp only [laws_FnExactBlocks.j2])
    | (rw [ev_shift]; simp only [laws_FnExactBlocks.j3]))

end Go.Proofs.Ytilcnbommpncgaa.Pure
