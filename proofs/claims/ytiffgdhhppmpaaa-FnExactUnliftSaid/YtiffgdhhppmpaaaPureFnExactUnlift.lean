/- The pure part of FnExactUnlift: the program's Unlift and the reference's Unlift answer alike. No conditions. -/
import Derived.Test.YtiffgdhhppmpaaaQFnExactUnliftx7
import Derived.Test.YtiffgdhhppmpaaaBase
namespace Go.Proofs.Ytiffgdhhppmpaaa.Pure
open Go.RowKit Go.Proofs.Ytiffgdhhppmpaaa.QFnExactUnlift Go.Proofs.YtiffgdhhppmpaaaW.PrintWords Go.Proofs.YtiffgdhhppmpaaaW.PrintLast
open Go.Proofs.Ytiffgdhhppmpaaa.Base
set_option linter.unusedVariables false
set_option linter.unusedSimpArgs false
/-! ### toIntS, eqIntS, markIntS, heldIntS -/
theorem toIntS_ev (l : List Int) (h : l.length ≤ 2000000) : Ev (fun k => laws_toIntS.f k l) l := by
  unfold laws_toIntS.f
  simp only [Int.toNat_natCast]
  rw [ev_pos (by omega), ev_pos (by omega)]
  rw [(for_iff (fun k s i => laws_toIntS.l0 k l s i) (fun i s => s.set i (rd l (i : Int))) (fun _ s => s.length = l.length) l.length l ?_ _ (by simp)).2]
  · rw [iter_store_all _ _ _ (by simp), tab_rd]
    exact Ev.step (fun k => by simp only [laws_toIntS.l0]; rw [if_neg (by omega)]) (Ev.now _)
  · intro i s hi hs
    refine ⟨by simpa using hs, ?_⟩
    rw [ev_shift]
    simp only [laws_toIntS.l0]
    rw [ev_pos (by omega), ev_pos (by omega), ev_pos (by omega), w64 (by omega) (by omega), Int.toNat_natCast]

theorem eqIntS_ev (a b : List Int) (h : a.length ≤ 2000000) : Ev (fun k => laws_eqIntS.f k a b) (decide (a = b)) := by
  unfold laws_eqIntS.f
  by_cases e : a.length = b.length
  · rw [ev_pos (by omega)]
    rw [all_iff (fun k i => laws_eqIntS.l0 k a b i) (fun i => decide (rd a (i : Int) = rd b (i : Int))) a.length _ false]
    · split
      · rename_i hp
        have : a = b := list_ext_rd e fun i hi => by simpa using range_all.1 hp i hi
        rw [decide_eq_true this]
        exact Ev.step (fun k => by simp only [laws_eqIntS.l0]; rw [if_neg (by omega)]) (Ev.now _)
      · rename_i hp
        have : ¬ a = b := fun h => hp (by subst h; rw [range_all]; simp)
        simp [this]
    · intro i hi
      by_cases p : rd a (i : Int) = rd b (i : Int)
      · rw [if_pos (by simpa using p)]
        rw [ev_shift]
        simp only [laws_eqIntS.l0]
        rw [ev_pos (by omega), ev_pos (by omega), ev_pos (by omega), ev_pos p, w64 (by omega) (by omega)]
      · rw [if_neg (by simpa using p)]
        rw [ev_shift]
        simp only [laws_eqIntS.l0]
        rw [ev_pos (by omega), ev_pos (by omega), ev_pos (by omega), ev_neg p, ev_some_iff]
  · rw [ev_neg (by omega)]
    have : ¬ a = b := fun h => e (by rw [h])
    simp only [this, decide_false]
    exact Ev.now _

theorem markIntS_ev (l : List Int) (m : Int) (h : l.length ≤ 2000000) (h0 : 0 ≤ m) (h1 : m ≤ 1000000000) :
    Ev (fun k => laws_markIntS.f k l m) (m + (l.length : Int), tab l.length (fun i => m + (i : Int))) := by
  unfold laws_markIntS.f
  rw [(for_iff (fun k (s : List Int × Int) i => laws_markIntS.l0 k s.1 s.2 i) (fun i s => (s.1.set i (m + (i : Int)), m + ((i : Int) + 1))) (fun i s => s.1.length = l.length ∧ s.2 = m + (i : Int)) l.length _ ?_ (l, m) ⟨rfl, by simp⟩).2]
  · have hI : ∀ n, n ≤ l.length → iter (fun (i : Nat) (s : List Int × Int) => (s.1.set i (m + (i : Int)), m + ((i : Int) + 1))) n (l, m) = (iter (fun i s => s.set i (m + (i : Int))) n l, m + (n : Int)) := by
      intro n
      induction n with
      | zero => intro _; simp [iter]
      | succ n ih => intro hn; rw [iter_succ, ih (by omega), iter_succ]; simp
    rw [hI _ (Nat.le_refl _), iter_store_all _ _ _ rfl]
    exact Ev.step (fun k => by simp only [laws_markIntS.l0]; rw [if_neg (by simp)]) (Ev.now _)
  · rintro i ⟨s, c⟩ hi ⟨hs, hc⟩
    simp only at hs hc
    subst hc
    refine ⟨⟨by simpa using hs, by simp⟩, ?_⟩
    rw [ev_shift]
    simp only [laws_markIntS.l0]
    rw [ev_pos (by omega), ev_pos (by omega), w64 (by omega) (by omega), w64 (by omega) (by omega), Int.toNat_natCast, Int.add_assoc]

theorem heldIntS_ev (n : Nat) (m : Int) (h : n ≤ 2000000) (h0 : 0 ≤ m) (h1 : m ≤ 1000000000) :
    Ev (fun k => laws_heldIntS.f k (tab n (fun i => m + (i : Int))) m) (m + (n : Int)) := by
  unfold laws_heldIntS.f
  rw [(for_iff (fun k (c : Int) i => laws_heldIntS.l0 k (tab n (fun i => m + (i : Int))) c i) (fun i c => m + ((i : Int) + 1)) (fun i c => c = m + (i : Int)) n _ ?_ m (by simp)).2]
  · have hI : iter (fun (i : Nat) (c : Int) => m + ((i : Int) + 1)) n m = m + (n : Int) := by
      cases n with
      | zero => simp [iter]
      | succ n => rw [iter_succ]; simp
    rw [hI]
    exact Ev.step (fun k => by simp only [laws_heldIntS.l0]; rw [if_neg (by simp)]) (Ev.now _)
  · intro i c hi hc
    refine ⟨by simp, ?_⟩
    rw [ev_shift]
    simp only [laws_heldIntS.l0, tab_length]
    rw [ev_pos (by omega), ev_pos (by omega), rd_tab' hi, ev_pos hc.symm, hc, w64 (by omega) (by omega), w64 (by omega) (by omega), Int.add_assoc]

theorem within_ev (l : List Int) (m : Int) (hl : l.length ≤ 2000000) (h0 : 0 ≤ m) (h1 : m ≤ 1000000000000) : Ev (fun k => impl_within.f k l m) (inB m l) := by
  unfold impl_within.f
  rw [inB_range]
  rw [all_iff (fun k i => impl_within.l0 k m l (l.length : Int) i) (fun i => decide (-m ≤ rd l (i : Int)) && decide (rd l (i : Int) ≤ m)) l.length _ false]
  · split
    · rename_i hp
      rw [hp]
      exact Ev.step (fun k => by simp only [impl_within.l0]; rw [if_neg (by omega)]) (Ev.now _)
    · rename_i hp
      simpa using hp
  · intro i hi
    by_cases p : -m ≤ rd l (i : Int) ∧ rd l (i : Int) ≤ m
    · rw [if_pos (by simpa using p)]
      rw [ev_shift]
      simp only [impl_within.l0]
      rw [ev_pos (by omega), ev_pos (by omega), ev_pos (by omega), w64 (n := -m) (by omega) (by omega), ev_neg (by omega), ev_neg (by omega), w64 (by omega) (by omega)]
    · rw [if_neg (by simpa using p)]
      rw [ev_shift]
      simp only [impl_within.l0]
      rw [ev_pos (by omega), ev_pos (by omega), ev_pos (by omega), w64 (n := -m) (by omega) (by omega)]
      by_cases q : rd l (i : Int) < -m
      · rw [ev_pos q, ev_some_iff]
      · rw [ev_neg q, ev_pos (by omega), ev_some_iff]

theorem clone_eq (l : List Int) (h : l.length ≤ 2000000) : slices_Clone_int_int.f l = some l := by
  unfold slices_Clone_int_int.f
  simp only [Option.bind_some, List.nil_append, List.length_nil]
  rw [if_pos (by omega)]

/-! ### lifting: the numbers -/
def atV (l : List Int) (i : Int) : Int := if i < 0 then rd l 0 else if i ≥ (l.length : Int) then rd l ((l.length : Int) - 1) else rd l i
def guessV (kind : Int) (e : List Int) (i : Int) : Int :=
  if kind = 1 then rd e i else if kind = 2 then (wrap64 (rd e i + atV e (i + 1))) / 2
  else (wrap64 (9 * (rd e i + atV e (i + 1)) - atV e (i - 1) - atV e (i + 2) + 8)) / 16
def moreV (kind : Int) (h : List Int) (i : Int) : Int :=
  if h.length = 0 then 0 else if kind = 1 then (if i = (h.length : Int) then 0 else rd h i / 2) else (wrap64 (atV h (i - 1) + atV h i + 2)) / 4
def evenV (l : List Int) : List Int := tab ((l.length + 1) / 2) fun j => rd l ((2 * j : Nat) : Int)
def oddV (l : List Int) : List Int := tab (l.length / 2) fun j => rd l ((2 * j + 1 : Nat) : Int)
def highV (kind : Int) (l : List Int) : List Int := tab (oddV l).length fun i => wrap64 (rd (oddV l) (i : Int) - guessV kind (evenV l) (i : Int))
def lowV (kind : Int) (l : List Int) : List Int := tab (evenV l).length fun i => wrap64 (rd (evenV l) (i : Int) + moreV kind (highV kind l) (i : Int))
@[simp] theorem evenV_length (l : List Int) : (evenV l).length = (l.length + 1) / 2 := by simp [evenV]
@[simp] theorem oddV_length (l : List Int) : (oddV l).length = l.length / 2 := by simp [oddV]
@[simp] theorem highV_length (kind : Int) (l : List Int) : (highV kind l).length = l.length / 2 := by simp [highV]
@[simp] theorem lowV_length (kind : Int) (l : List Int) : (lowV kind l).length = (l.length + 1) / 2 := by simp [lowV]
theorem split_loop {α : Type} (L : Nat → List Int → List Int → Int → Option α) (l : List Int) (r : α)
    (step : ∀ (i : Nat) (e o : List Int), i < l.length → e.length ≤ i → o.length ≤ i →
      (Ev (fun k => L k e o (i : Int)) r ↔ if i % 2 = 0 then Ev (fun k => L k (e ++ [rd l (i : Int)]) o ((i : Int) + 1)) r else Ev (fun k => L k e (o ++ [rd l (i : Int)]) ((i : Int) + 1)) r)) :
    Ev (fun k => L k [] [] 0) r ↔ Ev (fun k => L k (evenV l) (oddV l) (l.length : Int)) r := by
  have h := for_iff (fun k (s : List Int × List Int) i => L k s.1 s.2 i) (fun i s => if i % 2 = 0 then (s.1 ++ [rd l (i : Int)], s.2) else (s.1, s.2 ++ [rd l (i : Int)])) (fun i s => s = (tab ((i + 1) / 2) fun j => rd l ((2 * j : Nat) : Int), tab (i / 2) fun j => rd l ((2 * j + 1 : Nat) : Int))) l.length r (fun i s hi hs => by
    subst hs
    by_cases c : i % 2 = 0
    · refine ⟨?_, ?_⟩
      · have e1 : (i + 1 + 1) / 2 = (i + 1) / 2 + 1 := by omega
        have e2 : (i + 1) / 2 = i / 2 := by omega
        have e3 : 2 * ((i + 1) / 2) = i := by omega
        simp only [if_pos c]
        rw [e1, e2]
        refine congrArg (fun x => (x, _)) ?_
        rw [tab_succ]
        have e4 : 2 * (i / 2) = i := by omega
        rw [e4]
      · have := step i (tab ((i + 1) / 2) fun j => rd l ((2 * j : Nat) : Int)) (tab (i / 2) fun j => rd l ((2 * j + 1 : Nat) : Int)) hi (by simp; omega) (by simp; omega)
        rw [if_pos c] at this
        simpa only [if_pos c] using this
    · refine ⟨?_, ?_⟩
      · have e1 : (i + 1 + 1) / 2 = (i + 1) / 2 := by omega
        have e2 : (i + 1) / 2 = i / 2 + 1 := by omega
        have e3 : 2 * (i / 2) + 1 = i := by omega
        simp only [if_neg c]
        rw [e1]
        refine congrArg (Prod.mk _) ?_
        have e4 : (i + 1) / 2 = i / 2 + 1 := e2
        rw [e4, tab_succ, e3]
      · have := step i (tab ((i + 1) / 2) fun j => rd l ((2 * j : Nat) : Int)) (tab (i / 2) fun j => rd l ((2 * j + 1 : Nat) : Int)) hi (by simp; omega) (by simp; omega)
        rw [if_neg c] at this
        simpa only [if_neg c] using this) ([], []) rfl
  have h1 := h.1
  have h2 := h.2
  rw [h1] at h2
  exact h2
theorem tmod2 (i : Nat) : Int.tmod (i : Int) 2 = ((i % 2 : Nat) : Int) := (Int.ofNat_tmod i 2).symm
theorem wrap9 (a b c d : Int) : wrap64 (wrap64 (wrap64 (9 * wrap64 (a + b)) - wrap64 (c + d)) + 8) = wrap64 (9 * (a + b) - c - d + 8) := by
  unfold wrap64
  omega
theorem wrap9s (a b c d : Int) : wrap64 (wrap64 (wrap64 (wrap64 (9 * wrap64 (a + b)) - c) - d) + 8) = wrap64 (9 * (a + b) - c - d + 8) := by
  unfold wrap64
  omega
theorem wrap4 (a b : Int) : wrap64 (wrap64 (a + b) + 2) = wrap64 (a + b + 2) := wrap_add_l _ _
/-! putting back -/
def interV (ev od : List Int) : List Int := iter (fun i s => if i < od.length then (s ++ [rd ev (i : Int)]) ++ [rd od (i : Int)] else s ++ [rd ev (i : Int)]) ev.length []
def evenB (kind : Int) (low high : List Int) : List Int := tab low.length fun i => wrap64 (rd low (i : Int) - moreV kind high (i : Int))
def oddB (kind : Int) (low high : List Int) : List Int := tab high.length fun i => wrap64 (rd high (i : Int) + guessV kind (evenB kind low high) (i : Int))
def backV (kind : Int) (low high : List Int) : List Int := interV (evenB kind low high) (oddB kind low high)
theorem interV_length (ev od : List Int) (h : od.length ≤ ev.length) : (interV ev od).length = ev.length + od.length := by
  unfold interV
  have := iter_inv (f := fun i s => if i < od.length then (s ++ [rd ev (i : Int)]) ++ [rd od (i : Int)] else s ++ [rd ev (i : Int)]) (fun i (s : List Int) => s.length = i + min i od.length) ev.length [] (by simp) fun i s hi hs => by
    by_cases c : i < od.length
    · simp only [if_pos c, List.length_append, List.length_cons, List.length_nil, hs]
      omega
    · simp only [if_neg c, List.length_append, List.length_cons, List.length_nil, hs]
      omega
  rw [this]
  omega
theorem backV_length (kind : Int) (low high : List Int) (h : high.length ≤ low.length) : (backV kind low high).length = low.length + high.length := by
  unfold backV
  rw [interV_length _ _ (by simpa [evenB, oddB] using h)]
  simp [evenB, oddB]

theorem implAt_eq (l : List Int) (i : Int) (h0 : 0 < l.length) (hl : l.length ≤ 2000000) : impl_at.f l i = some (atV l i) := by
  unfold impl_at.f impl_nearer.f atV
  simp only [Option.bind_some]
  rw [w64 (by omega) (by omega)]
  by_cases h1 : i < 0
  · have e : mn (mx i 0) ((l.length : Int) - 1) = 0 := by unfold mn mx; rw [if_pos h1, if_neg (by omega)]
    rw [e, if_pos h1, if_pos (by omega), if_pos (by omega)]
  · by_cases h2 : i ≥ (l.length : Int)
    · have e : mn (mx i 0) ((l.length : Int) - 1) = (l.length : Int) - 1 := by unfold mn mx; rw [if_neg h1, if_pos (by omega)]
      rw [e, if_neg h1, if_pos h2, if_pos (by omega), if_pos (by omega)]
    · have e : mn (mx i 0) ((l.length : Int) - 1) = i := by unfold mn mx; rw [if_neg h1, if_neg (by omega)]
      rw [e, if_neg h1, if_neg h2, if_pos (by omega), if_pos (by omega)]
theorem implGuess_eq (kind : Int) (e : List Int) (i : Nat) (hi : i < e.length) (hl : e.length ≤ 2000000) : impl_guess.f kind e (i : Int) = some (guessV kind e (i : Int)) := by
  unfold impl_guess.f guessV
  rw [w64 (n := (i : Int) + 1) (by omega) (by omega), w64 (n := (i : Int) - 1) (by omega) (by omega), w64 (n := (i : Int) + 2) (by omega) (by omega), implAt_eq e _ (by omega) hl, implAt_eq e _ (by omega) hl, implAt_eq e _ (by omega) hl]
  simp only [Option.bind_some]
  by_cases h1 : kind = 1
  · rw [if_pos h1, if_pos h1, if_pos (by omega), if_pos (by omega)]
  · rw [if_neg h1, if_neg h1]
    by_cases h2 : kind = 2
    · rw [if_pos h2, if_pos h2, if_pos (by omega), if_pos (by omega)]
    · rw [if_neg h2, if_neg h2, if_pos (by omega), if_pos (by omega), wrap9]
theorem implMore_eq (kind : Int) (h : List Int) (i : Nat) (hi : i ≤ h.length) (hl : h.length ≤ 2000000) : impl_more.f kind h (i : Int) = some (moreV kind h (i : Int)) := by
  unfold impl_more.f moreV
  by_cases h0 : h.length = 0
  · rw [if_pos (by omega), if_pos h0]
  · rw [if_neg (by omega), if_neg h0]
    by_cases h1 : kind = 1
    · rw [if_pos h1, if_pos h1]
      by_cases h2 : (i : Int) = (h.length : Int)
      · rw [if_pos h2, if_pos h2]
      · rw [if_neg h2, if_neg h2, if_pos (by omega), if_pos (by omega)]
    · rw [if_neg h1, if_neg h1, w64 (n := (i : Int) - 1) (by omega) (by omega), implAt_eq h _ (by omega) hl, implAt_eq h _ (by omega) hl]
      simp only [Option.bind_some]
      rw [wrap4]

theorem implBack_ev (kind : Int) (low high : List Int) (hl : low.length ≤ 1000000) (h0 : high.length ≤ low.length) (h1 : low.length ≤ high.length + 1) : Ev (fun k => impl_liftBack.f k kind low high) (backV kind low high) := by
  unfold impl_liftBack.f
  rw [clone_eq low (by omega), clone_eq high (by omega), ev_sbind, ev_sbind]
  rw [map_loop (fun k s i => impl_liftBack.l0 k kind high s high (low.length : Int) i) low (fun i => wrap64 (rd low (i : Int) - moreV kind high (i : Int)))]
  · have eE : (tab low.length fun i => wrap64 (rd low (i : Int) - moreV kind high (i : Int))) = evenB kind low high := rfl
    have lE : (evenB kind low high).length = low.length := by simp [evenB]
    rw [eE, ev_shift]
    simp only [impl_liftBack.l0]
    rw [ev_neg (by omega)]
    rw [map_loop (fun k s i => impl_liftBack.l1 k kind (evenB kind low high) s (high.length : Int) i) high (fun i => wrap64 (rd high (i : Int) + guessV kind (evenB kind low high) (i : Int)))]
    · have eO : (tab high.length fun i => wrap64 (rd high (i : Int) + guessV kind (evenB kind low high) (i : Int))) = oddB kind low high := rfl
      have lO : (oddB kind low high).length = high.length := by simp [oddB]
      rw [eO, ev_shift]
      simp only [impl_liftBack.l1]
      rw [ev_neg (by omega)]
      have h := for_iff (fun k s i => impl_liftBack.l2 k (oddB kind low high) s (evenB kind low high) ((evenB kind low high).length : Int) i) (fun i s => if i < (oddB kind low high).length then (s ++ [rd (evenB kind low high) (i : Int)]) ++ [rd (oddB kind low high) (i : Int)] else s ++ [rd (evenB kind low high) (i : Int)]) (fun i s => s.length ≤ 2 * i) (evenB kind low high).length (backV kind low high) ?_ [] (by simp)
      · rw [h.2, ev_shift]
        simp only [impl_liftBack.l2]
        rw [ev_neg (by omega)]
        exact Ev.now _
      · intro i s hi hs
        have es : (s ++ [rd (evenB kind low high) (i : Int)]).length = s.length + 1 := by simp
        refine ⟨?_, ?_⟩
        · by_cases c : i < (oddB kind low high).length
          · simp only [if_pos c, List.length_append, List.length_cons, List.length_nil]
            omega
          · simp only [if_neg c, List.length_append, List.length_cons, List.length_nil]
            omega
        · rw [ev_shift]
          simp only [impl_liftBack.l2]
          rw [ev_pos (by omega), ev_pos (by omega), ev_pos (by omega), ev_pos (by omega), ev_sbind, w64 (n := (i : Int) + 1) (by omega) (by omega)]
          by_cases c : i < (oddB kind low high).length
          · rw [ev_pos (by omega), ev_pos (by omega), if_pos c]
          · rw [ev_neg (by omega), if_neg c]
    · intro i s hi hs hr
      rw [ev_shift]
      simp only [impl_liftBack.l1]
      rw [implGuess_eq kind (evenB kind low high) i (by omega) (by omega), ev_pos (by omega), ev_pos (by omega), ev_pos (by omega), w64 (n := (i : Int) + 1) (by omega) (by omega), hr, Int.toNat_natCast]
      exact Iff.rfl
  · intro i s hi hs hr
    rw [ev_shift]
    simp only [impl_liftBack.l0]
    rw [implMore_eq kind high i (by omega) (by omega), ev_pos (by omega), ev_pos (by omega), ev_pos (by omega), w64 (n := (i : Int) + 1) (by omega) (by omega), hr, Int.toNat_natCast]
    exact Iff.rfl

theorem isLevels_eq (a : Int) : impl_isLevels.f a = some (decide (0 ≤ a ∧ a ≤ 8)) := by
  unfold impl_isLevels.f
  by_cases h : a ≥ 0
  · rw [if_pos h]
    congr 1
    rw [decide_eq_decide]
    omega
  · rw [if_neg h]
    congr 1
    symm
    rw [decide_eq_false_iff_not]
    omega

theorem isLift_eq (a : Int) : impl_isLift.f a = some (decide (1 ≤ a ∧ a ≤ 3)) := by
  unfold impl_isLift.f
  by_cases h : a ≥ 1
  · rw [if_pos h]
    congr 1
    rw [decide_eq_decide]
    omega
  · rw [if_neg h]
    congr 1
    symm
    rw [decide_eq_false_iff_not]
    omega

/-! ### Unlift over levels -/
def unl (kind : Int) (l : List Int) : Nat → Nat → List Int
  | 0, n => l.take n
  | d + 1, n => if n ≤ 1 then l.take n else backV kind (unl kind l d ((n + 1) / 2)) ((l.take n).drop ((n + 1) / 2))
theorem unl_length (kind : Int) (l : List Int) : ∀ (d n : Nat), n ≤ l.length → (unl kind l d n).length = n := by
  intro d
  induction d with
  | zero => intro n hn; simp [unl]; omega
  | succ d ih =>
    intro n hn
    unfold unl
    split
    · simp; omega
    · have h1 := ih ((n + 1) / 2) (by omega)
      have h2 : ((l.take n).drop ((n + 1) / 2)).length = n / 2 := by rw [List.length_drop, List.length_take]; omega
      rw [backV_length _ _ _ (by omega), h1, h2]
      omega
def szV (n : Nat) : Nat → Nat
  | 0 => n
  | j + 1 => (szV n j + 1) / 2
theorem szV_le (n : Nat) : ∀ j, szV n j ≤ n := by
  intro j
  induction j with
  | zero => exact Nat.le_refl _
  | succ j ih =>
    show (szV n j + 1) / 2 ≤ n
    cases h : szV n j with
    | zero => omega
    | succ m => omega
def szL (n j : Nat) : List Int := tab (j + 1) fun i => (szV n i : Int)
theorem szL_length (n j : Nat) : (szL n j).length = j + 1 := by simp [szL]
theorem szL_at {n j i : Nat} (h : i ≤ j) : rd (szL n j) (i : Int) = (szV n i : Int) := by unfold szL; rw [rd_tab' (by omega)]
theorem szL_succ (n j : Nat) : szL n (j + 1) = szL n j ++ [(szV n (j + 1) : Int)] := by unfold szL; rw [tab_succ]
theorem unl_step (kind : Int) (l : List Int) (L t : Nat) (h1 : 1 < szV l.length t) (ht : t < L) :
    unl kind l (L - t) (szV l.length t) = backV kind (unl kind l (L - (t + 1)) (szV l.length (t + 1))) ((l.take (szV l.length t)).drop (szV l.length (t + 1))) := by
  have e : L - t = (L - (t + 1)) + 1 := by omega
  rw [e]
  show (if szV l.length t ≤ 1 then _ else _) = _
  rw [if_neg (by omega)]
  rfl
theorem unl_stop (kind : Int) (l : List Int) (L t : Nat) (h : t = L ∨ szV l.length t ≤ 1) : unl kind l (L - t) (szV l.length t) = l.take (szV l.length t) := by
  cases e : L - t with
  | zero => rfl
  | succ d =>
    show (if szV l.length t ≤ 1 then _ else _) = _
    rw [if_pos (by omega)]
theorem implUnlDown_ev (kind : Int) (l : List Int) (L j : Nat) (hl : l.length ≤ 512) (hj : j ≤ L) (hL : L ≤ 100) (hs : ∀ i, i < j → 1 < szV l.length i) : ∀ t, t ≤ j →
    Ev (fun k => impl_Unlift.l1 k kind l (szL l.length j) (unl kind l (L - t) (szV l.length t)) ((t : Int) - 1)) (unl kind l L l.length, true) := by
  intro t
  induction t with
  | zero =>
    intro _
    rw [ev_shift]
    simp only [impl_Unlift.l1]
    rw [ev_neg (by omega)]
    exact Ev.now _
  | succ t ih =>
    intro ht
    have g := ih (by omega)
    have h1 := hs t (by omega)
    have hle := szV_le l.length t
    have e0 : szV l.length (t + 1) = (szV l.length t + 1) / 2 := rfl
    have ul := unl_length kind l (L - (t + 1)) (szV l.length (t + 1)) (szV_le l.length (t + 1))
    have el : ((l.take (szV l.length t)).drop (szV l.length (t + 1))).length = szV l.length t / 2 := by rw [List.length_drop, List.length_take]; omega
    rw [unl_step kind l L t h1 (by omega)] at g
    rw [ev_shift]
    simp only [impl_Unlift.l1]
    have e1 : ((t + 1 : Nat) : Int) - 1 = (t : Int) := by omega
    have e2 : (t : Int) + 1 = ((t + 1 : Nat) : Int) := by omega
    rw [e1, w64 (n := (t : Int) + 1) (by omega) (by omega), w64 (n := (t : Int) - 1) (by omega) (by omega), e2, szL_length, szL_at (by omega : t + 1 ≤ j), szL_at (by omega : t ≤ j)]
    simp only [Int.toNat_natCast]
    rw [ev_pos (by omega), ev_pos (by omega), ev_pos (by omega), ev_pos (by omega), ev_pos (by omega), ev_pos (by omega), ev_pos (by omega), ev_pos (by omega), ev_bind (implBack_ev kind _ _ (by omega) (by omega) (by omega))]
    exact g
theorem implUnlJ2_ev (kind : Int) (l : List Int) (L j : Nat) (hl : l.length ≤ 512) (hj : j ≤ L) (hL : L ≤ 100) (hs : ∀ i, i < j → 1 < szV l.length i) (hstop : j = L ∨ szV l.length j ≤ 1) :
    Ev (fun k => impl_Unlift.j2 k kind l (szL l.length j)) (unl kind l L l.length, true) := by
  have hle := szV_le l.length j
  have g := implUnlDown_ev kind l L j hl hj hL hs j (Nat.le_refl _)
  rw [unl_stop kind l L j hstop] at g
  rw [ev_shift]
  simp only [impl_Unlift.j2]
  have e1 : ((szL l.length j).length : Int) - 1 = (j : Int) := by rw [szL_length]; omega
  have e2 : ((szL l.length j).length : Int) - 2 = (j : Int) - 1 := by rw [szL_length]; omega
  rw [e1, e2, w64 (n := (j : Int)) (by omega) (by omega), w64 (n := (j : Int) - 1) (by omega) (by omega), szL_at (Nat.le_refl _), szL_length]
  simp only [Int.toNat_natCast]
  rw [ev_pos (by omega), ev_pos (by omega), ev_pos (by omega), ev_pos (by omega), clone_eq _ (by rw [List.length_take]; omega), ev_sbind]
  exact g
theorem tdiv2 (n : Nat) (h : n ≤ 100000) : wrap64 (Int.tdiv (wrap64 ((n : Int) + 1)) 2) = (((n + 1) / 2 : Nat) : Int) := by
  rw [w64 (n := (n : Int) + 1) (by omega) (by omega)]
  have e : Int.tdiv ((n : Int) + 1) 2 = (((n + 1) / 2 : Nat) : Int) := by
    have e2 : (n : Int) + 1 = ((n + 1 : Nat) : Int) := by omega
    rw [e2]
    exact (Int.ofNat_tdiv (n + 1) 2).symm
  rw [e, w64 (by omega) (by omega)]
theorem implUnlUp_ev (kind : Int) (l : List Int) (L : Nat) (hl : l.length ≤ 512) (hL : L ≤ 100) : ∀ d j, j + d = L → (∀ i, i < j → 1 < szV l.length i) →
    Ev (fun k => impl_Unlift.l0 k kind l (szL l.length j) (L : Int) (j : Int)) (unl kind l L l.length, true) := by
  intro d
  induction d with
  | zero =>
    intro j hj hs
    rw [ev_shift]
    simp only [impl_Unlift.l0]
    rw [ev_neg (by omega)]
    exact implUnlJ2_ev kind l L j hl (by omega) hL hs (.inl (by omega))
  | succ d ih =>
    intro j hj hs
    have hle := szV_le l.length j
    rw [ev_shift]
    simp only [impl_Unlift.l0]
    have e1 : ((szL l.length j).length : Int) - 1 = (j : Int) := by rw [szL_length]; omega
    rw [e1, w64 (n := (j : Int)) (by omega) (by omega), szL_at (Nat.le_refl _), szL_length, ev_pos (by omega), ev_pos (by omega), ev_pos (by omega)]
    by_cases c : (szV l.length j : Int) ≤ 1
    · rw [ev_pos c]
      exact implUnlJ2_ev kind l L j hl (by omega) hL hs (.inr (by omega))
    · rw [ev_neg c, ev_pos (by omega), tdiv2 _ (by omega), w64 (n := (j : Int) + 1) (by omega) (by omega)]
      have g := ih (j + 1) (by omega) (fun i hi => by
        by_cases q : i = j
        · subst q
          omega
        · exact hs i (by omega))
      rw [szL_succ] at g
      exact g
open Classical in
noncomputable def unlR (kind : Int) (l : List Int) (n : Int) : List Int × Bool := if 1 ≤ kind ∧ kind ≤ 3 ∧ l.length ≤ 512 ∧ inB 8000000000 l = true ∧ 0 ≤ n ∧ n ≤ 8 then (unl kind l n.toNat l.length, true) else ([], false)
theorem unlR_length (kind : Int) (l : List Int) (n : Int) : (unlR kind l n).1.length ≤ 2000000 := by
  unfold unlR
  split
  · rename_i h
    show (unl kind l n.toNat l.length).length ≤ _
    rw [unl_length kind l _ _ (Nat.le_refl _)]
    omega
  · simp
theorem implUnlift_ev (kind : Int) (l : List Int) (n : Int) (hl : l.length ≤ 2000000) : Ev (fun k => impl_Unlift.f k kind l n) (unlR kind l n) := by
  unfold impl_Unlift.f
  have no : ¬ (1 ≤ kind ∧ kind ≤ 3 ∧ l.length ≤ 512 ∧ inB 8000000000 l = true ∧ 0 ≤ n ∧ n ≤ 8) → Ev (fun k => impl_Unlift.j0 k kind l n true) (unlR kind l n) := by
    intro h
    rw [ev_shift, unlR, if_neg h]
    simp only [impl_Unlift.j0, if_true]
    exact Ev.now _
  rw [isLift_eq, ev_sbind, isLevels_eq]
  by_cases h1 : 1 ≤ kind ∧ kind ≤ 3
  · rw [ev_pos (by simpa using h1)]
    by_cases h4 : (l.length : Int) > 512
    · rw [ev_pos h4]
      exact no (by omega)
    rw [ev_neg h4, ev_bind (within_ev l 8000000000 hl (by omega) (by omega))]
    by_cases h2 : inB 8000000000 l = true
    · rw [ev_pos h2, ev_sbind]
      by_cases h3 : 0 ≤ n ∧ n ≤ 8
      · rw [decide_eq_true h3, ev_shift, unlR, if_pos ⟨h1.1, h1.2, by omega, h2, h3.1, h3.2⟩]
        simp only [impl_Unlift.j0, Bool.not_true, Bool.false_eq_true, if_false]
        have g := implUnlUp_ev kind l n.toNat (by omega) (by omega) n.toNat 0 (by omega) (fun i hi => absurd hi (by omega))
        rw [Int.toNat_of_nonneg h3.1] at g
        exact g
      · rw [decide_eq_false h3]
        exact no (by omega)
    · rw [ev_neg h2]
      exact no (fun h => h2 h.2.2.2.1)
  · rw [ev_neg (by simpa using h1)]
    exact no (fun h => h1 ⟨h.1, h.2.1⟩)

theorem l1In_eq (a b c : Int) : spec_l1In.f a b c = some (decide (b ≤ a ∧ a ≤ c)) := by
  unfold spec_l1In.f
  by_cases h : a ≥ b
  · rw [if_pos h]
    congr 1
    rw [decide_eq_decide]
    omega
  · rw [if_neg h]
    congr 1
    symm
    rw [decide_eq_false_iff_not]
    omega

theorem l9Kind_eq (a : Int) : spec_l9Kind.f a = some (decide (1 ≤ a ∧ a ≤ 3)) := by
  unfold spec_l9Kind.f
  rw [l1In_eq]
  rfl


theorem l9Wide_ev (l : List Int) (m : Int) (hl : l.length ≤ 2000000) (h0 : 0 ≤ m) (h1 : m ≤ 1000000000000) : Ev (fun k => spec_l9Wide.f k l m) (inB m l) := by
  unfold spec_l9Wide.f
  rw [inB_range]
  rw [all_iff (fun k i => spec_l9Wide.l0 k l m i) (fun i => decide (-m ≤ rd l (i : Int)) && decide (rd l (i : Int) ≤ m)) l.length _ false]
  · split
    · rename_i hp
      rw [hp]
      exact Ev.step (fun k => by simp only [spec_l9Wide.l0]; rw [if_neg (by omega)]) (Ev.now _)
    · rename_i hp
      simpa using hp
  · intro i hi
    by_cases p : -m ≤ rd l (i : Int) ∧ rd l (i : Int) ≤ m
    · rw [if_pos (by simpa using p)]
      rw [ev_shift]
      simp only [spec_l9Wide.l0]
      rw [ev_pos (by omega), ev_pos (by omega), w64 (n := -m) (by omega) (by omega), l1In_eq]
      simp only [Option.bind_some]
      rw [ev_pos (by simpa using p), w64 (by omega) (by omega)]
    · rw [if_neg (by simpa using p)]
      rw [ev_shift]
      simp only [spec_l9Wide.l0]
      rw [ev_pos (by omega), ev_pos (by omega), w64 (n := -m) (by omega) (by omega), l1In_eq]
      simp only [Option.bind_some]
      rw [ev_neg (by simpa using p), ev_some_iff]


theorem floor_eq (a b : Int) (hb : 0 < b) (h0 : -4611686018427387904 ≤ a / b) (h1 : a / b ≤ 4611686018427387904) : spec_l5Floor.f a b = some (a / b) := by
  unfold spec_l5Floor.f
  rw [if_neg (by omega)]
  have e1 := Int.tdiv_eq_ediv (a := a) (b := b)
  have e2 := Int.tmod_eq_emod (a := a) (b := b)
  have h2 := Int.emod_nonneg a (by omega : b ≠ 0)
  have h3 := Int.emod_lt_of_pos a hb
  by_cases c : 0 ≤ a ∨ b ∣ a
  · rw [if_pos c] at e1 e2
    rw [e1, e2, if_neg (by omega), w64 (by omega) (by omega), Int.add_zero]
  · rw [if_neg c] at e1 e2
    have s : b.sign = 1 := Int.sign_eq_one_of_pos hb
    have n : (b.natAbs : Int) = b := by omega
    rw [e1, e2, if_pos (by omega), s, w64 (n := a / b + 1) (by omega) (by omega), w64 (by omega) (by omega), Int.add_sub_cancel]

theorem specAt_eq (l : List Int) (i : Int) (h0 : 0 < l.length) (hl : l.length ≤ 2000000) : spec_l9At.f l i = some (atV l i) := by
  unfold spec_l9At.f atV
  rw [w64 (by omega) (by omega)]
  by_cases h1 : i < 0
  · rw [if_pos h1, if_pos h1, if_neg (by omega), if_pos (by omega)]
  · rw [if_neg h1, if_neg h1]
    by_cases h2 : i ≥ (l.length : Int)
    · rw [if_pos h2, if_pos h2, if_pos (by omega), if_pos (by omega)]
    · rw [if_neg h2, if_neg h2, if_pos (by omega), if_pos (by omega)]
theorem specGuess_eq (kind : Int) (e : List Int) (i : Nat) (hi : i < e.length) (hl : e.length ≤ 2000000) : spec_l9Guess.f kind e (i : Int) = some (guessV kind e (i : Int)) := by
  unfold spec_l9Guess.f guessV
  rw [w64 (n := (i : Int) + 1) (by omega) (by omega), w64 (n := (i : Int) - 1) (by omega) (by omega), w64 (n := (i : Int) + 2) (by omega) (by omega), specAt_eq e _ (by omega) hl, specAt_eq e _ (by omega) hl, specAt_eq e _ (by omega) hl]
  simp only [Option.bind_some]
  by_cases h1 : kind = 1
  · rw [if_pos h1, if_pos h1, if_pos (by omega), if_pos (by omega)]
  · rw [if_neg h1, if_neg h1]
    by_cases h2 : kind = 2
    · have := wrap_range (rd e (i : Int) + atV e ((i : Int) + 1))
      rw [if_pos h2, if_pos h2, if_pos (by omega), if_pos (by omega), floor_eq _ 2 (by omega) (by omega) (by omega)]
      rfl
    · rw [if_neg h2, if_neg h2, if_pos (by omega), if_pos (by omega), wrap9s]
      have := wrap_range (9 * (rd e (i : Int) + atV e ((i : Int) + 1)) - atV e ((i : Int) - 1) - atV e ((i : Int) + 2) + 8)
      rw [floor_eq _ 16 (by omega) (by omega) (by omega)]
      rfl
theorem specMend_ev (kind : Int) (h : List Int) (i : Nat) (hi : i ≤ h.length) (hl : h.length ≤ 2000000) (hw : ∀ j : Int, -9223372036854775808 ≤ rd h j ∧ rd h j ≤ 9223372036854775807) : Ev (fun k => spec_l9Mend.f k kind h (i : Int)) (moreV kind h (i : Int)) := by
  unfold spec_l9Mend.f moreV
  by_cases h0 : h.length = 0
  · rw [ev_pos (by omega), if_pos h0, ev_shift]
    simp only [spec_l9Mend.j0, if_true]
    exact Ev.now _
  · rw [ev_neg (by omega), if_neg h0]
    by_cases h1 : kind = 1
    · rw [ev_pos h1, if_pos h1]
      by_cases h2 : (i : Int) = (h.length : Int)
      · rw [decide_eq_true (by omega), if_pos h2, ev_shift]
        simp only [spec_l9Mend.j0, if_true]
        exact Ev.now _
      · rw [decide_eq_false (by omega), if_neg h2, ev_shift]
        simp only [spec_l9Mend.j0, Bool.false_eq_true, if_false]
        have := hw (i : Int)
        rw [ev_pos h1, ev_pos (by omega), ev_pos (by omega), floor_eq _ 2 (by omega) (by omega) (by omega)]
        exact Ev.now _
    · rw [ev_neg h1, if_neg h1, ev_shift]
      simp only [spec_l9Mend.j0, Bool.false_eq_true, if_false]
      have := wrap_range (atV h ((i : Int) - 1) + atV h (i : Int) + 2)
      rw [ev_neg h1, w64 (n := (i : Int) - 1) (by omega) (by omega), specAt_eq h _ (by omega) hl, specAt_eq h _ (by omega) hl, ev_sbind, ev_sbind, wrap4, floor_eq _ 4 (by omega) (by omega) (by omega)]
      exact Ev.now _

theorem specBack_ev (kind : Int) (low high : List Int) (hl : low.length ≤ 1000000) (h0 : high.length ≤ low.length) (h1 : low.length ≤ high.length + 1) (hw : inB 9000000000 high = true) : Ev (fun k => spec_l9Back.f k kind low high) (backV kind low high) := by
  unfold spec_l9Back.f
  rw [push_loop (fun k s i => spec_l9Back.l0 k kind low high s i) low.length (fun i => wrap64 (rd low (i : Int) - moreV kind high (i : Int)))]
  · have eE : (tab low.length fun i => wrap64 (rd low (i : Int) - moreV kind high (i : Int))) = evenB kind low high := rfl
    have lE : (evenB kind low high).length = low.length := by simp [evenB]
    have lO : (oddB kind low high).length = high.length := by simp [oddB]
    rw [eE, ev_shift]
    simp only [spec_l9Back.l0]
    rw [ev_neg (by omega)]
    have h := for_iff (fun k s i => spec_l9Back.l1 k kind high (evenB kind low high) s i) (fun i s => if i < (oddB kind low high).length then (s ++ [rd (evenB kind low high) (i : Int)]) ++ [rd (oddB kind low high) (i : Int)] else s ++ [rd (evenB kind low high) (i : Int)]) (fun i s => s.length ≤ 2 * i) (evenB kind low high).length (backV kind low high) ?_ [] (by simp)
    · rw [h.2, ev_shift]
      simp only [spec_l9Back.l1]
      rw [ev_neg (by omega)]
      exact Ev.now _
    · intro i s hi hs
      have es : (s ++ [rd (evenB kind low high) (i : Int)]).length = s.length + 1 := by simp
      refine ⟨?_, ?_⟩
      · by_cases c : i < (oddB kind low high).length
        · simp only [if_pos c, List.length_append, List.length_cons, List.length_nil]
          omega
        · simp only [if_neg c, List.length_append, List.length_cons, List.length_nil]
          omega
      · rw [ev_shift]
        simp only [spec_l9Back.l1]
        rw [ev_pos (by omega), ev_pos (by omega), ev_pos (by omega), ev_sbind, w64 (n := (i : Int) + 1) (by omega) (by omega)]
        by_cases c : i < (oddB kind low high).length
        · have er : rd (oddB kind low high) (i : Int) = wrap64 (rd high (i : Int) + guessV kind (evenB kind low high) (i : Int)) := by
            unfold oddB
            rw [rd_tab' (by omega)]
          rw [ev_pos (by omega), specGuess_eq kind (evenB kind low high) i (by omega) (by omega), ev_sbind, ev_pos (by omega), if_pos c, er]
        · rw [ev_neg (by omega), if_neg c]
  · intro i s hi hs
    rw [ev_shift]
    simp only [spec_l9Back.l0]
    have hm := specMend_ev kind high i (by omega) (by omega) (fun j => by have := inB_rd hw (by omega) j; omega)
    rw [ev_pos (by omega), ev_pos (by omega), ev_bind hm, ev_pos (by omega), w64 (n := (i : Int) + 1) (by omega) (by omega)]

theorem inB_cut {m : Int} {l : List Int} (a b : Nat) (h : inB m l = true) : inB m ((l.take a).drop b) = true := inB_iff.2 fun x hx => inB_iff.1 h x (List.mem_of_mem_take (List.mem_of_mem_drop hx))
theorem specUnlDown_ev (kind : Int) (l : List Int) (L j : Nat) (hl : l.length ≤ 512) (hw : inB 9000000000 l = true) (hj : j ≤ L) (hL : L ≤ 100) (hs : ∀ i, i < j → 1 < szV l.length i) : ∀ t, t ≤ j →
    Ev (fun k => spec_Unlift.l1 k kind l (szL l.length j) (unl kind l (L - t) (szV l.length t)) ((t : Int) - 1)) (unl kind l L l.length, true) := by
  intro t
  induction t with
  | zero =>
    intro _
    rw [ev_shift]
    simp only [spec_Unlift.l1]
    rw [ev_neg (by omega)]
    exact Ev.now _
  | succ t ih =>
    intro ht
    have g := ih (by omega)
    have h1 := hs t (by omega)
    have hle := szV_le l.length t
    have e0 : szV l.length (t + 1) = (szV l.length t + 1) / 2 := rfl
    have ul := unl_length kind l (L - (t + 1)) (szV l.length (t + 1)) (szV_le l.length (t + 1))
    have el : ((l.take (szV l.length t)).drop (szV l.length (t + 1))).length = szV l.length t / 2 := by rw [List.length_drop, List.length_take]; omega
    rw [unl_step kind l L t h1 (by omega)] at g
    rw [ev_shift]
    simp only [spec_Unlift.l1]
    have e1 : ((t + 1 : Nat) : Int) - 1 = (t : Int) := by omega
    have e2 : (t : Int) + 1 = ((t + 1 : Nat) : Int) := by omega
    rw [e1, w64 (n := (t : Int) + 1) (by omega) (by omega), w64 (n := (t : Int) - 1) (by omega) (by omega), e2, szL_length, szL_at (by omega : t + 1 ≤ j), szL_at (by omega : t ≤ j)]
    simp only [Int.toNat_natCast]
    rw [ev_pos (by omega), ev_pos (by omega), ev_pos (by omega), ev_pos (by omega), ev_pos (by omega), ev_pos (by omega), ev_pos (by omega), ev_pos (by omega), ev_bind (specBack_ev kind _ _ (by omega) (by omega) (by omega) (inB_cut _ _ hw))]
    exact g
theorem specUnlJ2_ev (kind : Int) (l : List Int) (L j : Nat) (hl : l.length ≤ 512) (hw : inB 9000000000 l = true) (hj : j ≤ L) (hL : L ≤ 100) (hs : ∀ i, i < j → 1 < szV l.length i) (hstop : j = L ∨ szV l.length j ≤ 1) :
    Ev (fun k => spec_Unlift.j2 k kind l (szL l.length j)) (unl kind l L l.length, true) := by
  have hle := szV_le l.length j
  have g := specUnlDown_ev kind l L j hl hw hj hL hs j (Nat.le_refl _)
  rw [unl_stop kind l L j hstop] at g
  have hn : ([] : List Int).length = 0 := rfl
  have ht : (l.take (szV l.length j)).length = szV l.length j := by rw [List.length_take]; omega
  rw [ev_shift]
  simp only [spec_Unlift.j2]
  have e1 : ((szL l.length j).length : Int) - 1 = (j : Int) := by rw [szL_length]; omega
  have e2 : ((szL l.length j).length : Int) - 2 = (j : Int) - 1 := by rw [szL_length]; omega
  rw [ev_sbind, e1, e2, w64 (n := (j : Int)) (by omega) (by omega), w64 (n := (j : Int) - 1) (by omega) (by omega), szL_at (Nat.le_refl _), szL_length, Int.toNat_natCast, ev_pos (by omega), ev_pos (by omega), ev_pos (by omega), ev_pos (by omega), ev_pos (by omega), List.nil_append]
  exact g
theorem specUnlUp_ev (kind : Int) (l : List Int) (L : Nat) (hl : l.length ≤ 512) (hw : inB 9000000000 l = true) (hL : L ≤ 100) : ∀ d j, j + d = L → (∀ i, i < j → 1 < szV l.length i) →
    Ev (fun k => spec_Unlift.l0 k kind l (L : Int) (szL l.length j) (j : Int)) (unl kind l L l.length, true) := by
  intro d
  induction d with
  | zero =>
    intro j hj hs
    rw [ev_shift]
    simp only [spec_Unlift.l0]
    rw [ev_neg (by omega)]
    exact specUnlJ2_ev kind l L j hl hw (by omega) hL hs (.inl (by omega))
  | succ d ih =>
    intro j hj hs
    have hle := szV_le l.length j
    rw [ev_shift]
    simp only [spec_Unlift.l0]
    rw [szL_at (Nat.le_refl _), szL_length, ev_pos (by omega), ev_pos (by omega), ev_pos (by omega)]
    by_cases c : (szV l.length j : Int) > 1
    · rw [ev_pos c, ev_pos (by omega), tdiv2 _ (by omega), w64 (n := (j : Int) + 1) (by omega) (by omega)]
      have g := ih (j + 1) (by omega) (fun i hi => by
        by_cases q : i = j
        · subst q
          omega
        · exact hs i (by omega))
      rw [szL_succ] at g
      exact g
    · rw [ev_neg c]
      exact specUnlJ2_ev kind l L j hl hw (by omega) hL hs (.inr (by omega))
theorem specUnlift_ev (kind : Int) (l : List Int) (n : Int) (hl : l.length ≤ 2000000) : Ev (fun k => spec_Unlift.f k kind l n) (unlR kind l n) := by
  unfold spec_Unlift.f
  have no : ¬ (1 ≤ kind ∧ kind ≤ 3 ∧ l.length ≤ 512 ∧ inB 8000000000 l = true ∧ 0 ≤ n ∧ n ≤ 8) → Ev (fun k => spec_Unlift.j0 k kind l n true) (unlR kind l n) := by
    intro h
    rw [ev_shift, unlR, if_neg h]
    simp only [spec_Unlift.j0, if_true]
    exact Ev.now _
  rw [l9Kind_eq, ev_sbind, l1In_eq]
  by_cases h1 : 1 ≤ kind ∧ kind ≤ 3
  · rw [ev_pos (by simpa using h1)]
    by_cases h4 : (l.length : Int) > 512
    · rw [ev_pos h4]
      exact no (by omega)
    rw [ev_neg h4, ev_bind (l9Wide_ev l 8000000000 hl (by omega) (by omega))]
    by_cases h2 : inB 8000000000 l = true
    · rw [ev_pos h2, ev_sbind]
      by_cases h3 : 0 ≤ n ∧ n ≤ 8
      · have h7 : inB 9000000000 l = true := inB_iff.2 fun x hx => by have := inB_iff.1 h2 x hx; omega
        rw [decide_eq_true h3, ev_shift, unlR, if_pos ⟨h1.1, h1.2, by omega, h2, h3.1, h3.2⟩]
        simp only [spec_Unlift.j0, Bool.not_true, Bool.false_eq_true, if_false]
        have g := specUnlUp_ev kind l n.toNat (by omega) h7 (by omega) n.toNat 0 (by omega) (fun i hi => absurd hi (by omega))
        rw [Int.toNat_of_nonneg h3.1] at g
        exact g
      · rw [decide_eq_false h3]
        exact no (by omega)
    · rw [ev_neg h2]
      exact no (fun h => h2 h.2.2.2.1)
  · rw [ev_neg (by simpa using h1)]
    exact no (fun h => h1 ⟨h.1, h.2.1⟩)

theorem FnExactUnlift : laws_FnExactUnlift.Pure := by
  intro a0 l1 a2 wa0 _ _ wl1 wa2
  refine Ev.rounds (g := fun k => laws_FnExactUnlift.f k a0 l1 a2) ?_
  by_cases hl1 : (l1.length : Int) > 1048576
  · simp only [laws_FnExactUnlift.f, if_pos hl1]
    exact Ev.now _
  have hS := specUnlift_ev a0 l1 a2 (by omega)
  have hI := implUnlift_ev a0 l1 a2 (by omega)
  have := unlR_length a0 l1 a2
  generalize unlR a0 l1 a2 = R at *
  simp only [laws_FnExactUnlift.f, if_neg hl1]
  have t_l1 := toIntS_ev l1 (by omega)
  have e_l1 := eqIntS_ev l1 l1 (by omega)
  have v_0 := eqIntS_ev (R.1) (R.1) (by omega)
  have m_l1 := markIntS_ev l1 (1) (by omega) (by omega) (by omega)
  have n_0 := markIntS_ev (R.1) (1) (by omega) (by omega) (by omega)
  have h_0 := heldIntS_ev (R.1).length (1) (by omega) (by omega) (by omega)
  simp only [decide_true] at e_l1 v_0
  repeat (first
    | exact Ev.now _
    | (rw [ev_bind t_l1])
    | (rw [ev_bind e_l1])
    | (rw [ev_bind v_0])
    | (rw [ev_bind m_l1])
    | (rw [ev_bind n_0])
    | (rw [ev_bind h_0])
    | (rw [ev_bind hS])
    | (rw [ev_bind hI])
    | (simp only [if_true, if_false, bne_self_eq_false, Bool.false_eq_true]; done)
    | (rw [ev_neg (by omega)])
    | (rw [ev_pos rfl])
    | (simp only [if_true, if_false, bne_self_eq_false, Bool.false_eq_true])
    | (rw [ev_shift]; simp only [laws_FnExactUnlift.j0])
    | (rw [ev_shift]; simp only [laws_FnExactUnlift.j1])
    | (rw [ev_shift]; simp only [laws_FnExactUnlift.j2])
    | (rw [ev_shift]; simp only [laws_FnExactUnlift.j3]))

end Go.Proofs.Ytiffgdhhppmpaaa.Pure
