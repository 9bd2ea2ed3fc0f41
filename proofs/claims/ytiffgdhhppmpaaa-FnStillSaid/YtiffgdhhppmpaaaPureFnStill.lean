/- The pure part of FnStill: a signal of one and the same sample has high numbers of 0 alone and low ones of that sample. No conditions. -/
import Derived.Test.YtiffgdhhppmpaaaQFnStillx4
import Derived.Test.YtiffgdhhppmpaaaBase
namespace Go.Proofs.Ytiffgdhhppmpaaa.Pure
open Go.RowKit Go.Proofs.Ytiffgdhhppmpaaa.QFnStill Go.Proofs.YtiffgdhhppmpaaaW.PrintWords Go.Proofs.YtiffgdhhppmpaaaW.PrintLast
open Go.Proofs.Ytiffgdhhppmpaaa.Base
set_option linter.unusedVariables false
set_option linter.unusedSimpArgs false
theorem big_eq (l : List Int) : laws_big.f l = some (decide ((l.length : Int) > 1048576)) := rfl

theorem byte_of {x : Int} (h : (Lit.int .u8 x).wf = true) : 0 ≤ x ∧ x ≤ 255 := by
  have h1 : IntKind.u8.min ≤ x ∧ x ≤ IntKind.u8.max := by simpa [Lit.wf] using h
  have e1 : IntKind.u8.min = 0 := by decide
  have e2 : IntKind.u8.max = 255 := by decide
  omega
theorem at_ok (b : List Int) (i : Int) (hb : b.length ≤ 2000000) (hw : ∀ x ∈ b, (Lit.int .u8 x).wf = true) (h0 : 0 ≤ i) (h1 : i ≤ 1000000) : ∃ v, laws_at.f b i = some v ∧ 0 ≤ v ∧ v ≤ 255 := by
  unfold laws_at.f
  by_cases h : i < (b.length : Int)
  · have := byte_of (hw _ (rd_mem h0 h))
    rw [if_pos h, if_pos h0, w64 (by omega) (by omega)]
    exact ⟨_, rfl, this.1, this.2⟩
  · rw [if_neg h, w64 (n := i * 7) (by omega) (by omega), w64 (by omega) (by omega)]
    exact ⟨_, rfl, Int.tmod_nonneg _ (by omega), by have := Int.tmod_lt_of_pos (i * 7 + (b.length : Int)) (by omega : (0 : Int) < 256); omega⟩

theorem clone_eq (l : List Int) (h : l.length ≤ 2000000) : slices_Clone_int_int.f l = some l := by
  unfold slices_Clone_int_int.f
  simp only [Option.bind_some, List.nil_append, List.length_nil]
  rw [if_pos (by omega)]

theorem within_ev (l : List Int) (m : Int) (hl : l.length ≤ 2000000) (h0 : 0 ≤ m) (h1 : m ≤ 1000000000000) : Ev (fun k => impl_within.f k l m) (inB m l) := by
  unfold impl_within.f
  rw [inB_range]
  rw [all_iff (fun k i => impl_within.l0 k m l (l.length : Int) i) (fun i => decide (-m ≤ rd l (i : Int)) && decide (rd l (i : Int) ≤ m)) l.length _ false]
  · split
    · rename_i hp
      rw [hp]
      exact Ev.step (fun k => by simp only [impl_within.l0]; rw [if_neg (by omega)]) (Ev.now _)
    · rename_i hp
      simpa using hp
  · intro i hi
    by_cases p : -m ≤ rd l (i : Int) ∧ rd l (i : Int) ≤ m
    · rw [if_pos (by simpa using p)]
      rw [ev_shift]
      simp only [impl_within.l0]
      rw [ev_pos (by omega), ev_pos (by omega), ev_pos (by omega), w64 (n := -m) (by omega) (by omega), ev_neg (by omega), ev_neg (by omega), w64 (by omega) (by omega)]
    · rw [if_neg (by simpa using p)]
      rw [ev_shift]
      simp only [impl_within.l0]
      rw [ev_pos (by omega), ev_pos (by omega), ev_pos (by omega), w64 (n := -m) (by omega) (by omega)]
      by_cases q : rd l (i : Int) < -m
      · rw [ev_pos q, ev_some_iff]
      · rw [ev_neg q, ev_pos (by omega), ev_some_iff]

theorem implSig_ev (l : List Int) (hl : l.length ≤ 2000000) : Ev (fun k => impl_SignalOk.f k l) (sigB l) := by
  unfold impl_SignalOk.f
  by_cases h : (l.length : Int) ≤ 512
  · rw [ev_pos h]
    rw [ev_bind (within_ev l 1000000000 hl (by omega) (by omega)), ev_some_iff, sigB, decide_eq_true (by omega : l.length ≤ 512), Bool.true_and]
  · rw [ev_neg h]
    rw [ev_some_iff, sigB, decide_eq_false (by omega : ¬ l.length ≤ 512), Bool.false_and]

/-! ### lifting: the numbers -/
def atV (l : List Int) (i : Int) : Int := if i < 0 then rd l 0 else if i ≥ (l.length : Int) then rd l ((l.length : Int) - 1) else rd l i
def guessV (kind : Int) (e : List Int) (i : Int) : Int :=
  if kind = 1 then rd e i else if kind = 2 then (wrap64 (rd e i + atV e (i + 1))) / 2
  else (wrap64 (9 * (rd e i + atV e (i + 1)) - atV e (i - 1) - atV e (i + 2) + 8)) / 16
def moreV (kind : Int) (h : List Int) (i : Int) : Int :=
  if h.length = 0 then 0 else if kind = 1 then (if i = (h.length : Int) then 0 else rd h i / 2) else (wrap64 (atV h (i - 1) + atV h i + 2)) / 4
def evenV (l : List Int) : List Int := tab ((l.length + 1) / 2) fun j => rd l ((2 * j : Nat) : Int)
def oddV (l : List Int) : List Int := tab (l.length / 2) fun j => rd l ((2 * j + 1 : Nat) : Int)
def highV (kind : Int) (l : List Int) : List Int := tab (oddV l).length fun i => wrap64 (rd (oddV l) (i : Int) - guessV kind (evenV l) (i : Int))
def lowV (kind : Int) (l : List Int) : List Int := tab (evenV l).length fun i => wrap64 (rd (evenV l) (i : Int) + moreV kind (highV kind l) (i : Int))
@[simp] theorem evenV_length (l : List Int) : (evenV l).length = (l.length + 1) / 2 := by simp [evenV]
@[simp] theorem oddV_length (l : List Int) : (oddV l).length = l.length / 2 := by simp [oddV]
@[simp] theorem highV_length (kind : Int) (l : List Int) : (highV kind l).length = l.length / 2 := by simp [highV]
@[simp] theorem lowV_length (kind : Int) (l : List Int) : (lowV kind l).length = (l.length + 1) / 2 := by simp [lowV]
theorem split_loop {α : Type} (L : Nat → List Int → List Int → Int → Option α) (l : List Int) (r : α)
    (step : ∀ (i : Nat) (e o : List Int), i < l.length → e.length ≤ i → o.length ≤ i →
      (Ev (fun k => L k e o (i : Int)) r ↔ if i % 2 = 0 then Ev (fun k => L k (e ++ [rd l (i : Int)]) o ((i : Int) + 1)) r else Ev (fun k => L k e (o ++ [rd l (i : Int)]) ((i : Int) + 1)) r)) :
    Ev (fun k => L k [] [] 0) r ↔ Ev (fun k => L k (evenV l) (oddV l) (l.length : Int)) r := by
  have h := for_iff (fun k (s : List Int × List Int) i => L k s.1 s.2 i) (fun i s => if i % 2 = 0 then (s.1 ++ [rd l (i : Int)], s.2) else (s.1, s.2 ++ [rd l (i : Int)])) (fun i s => s = (tab ((i + 1) / 2) fun j => rd l ((2 * j : Nat) : Int), tab (i / 2) fun j => rd l ((2 * j + 1 : Nat) : Int))) l.length r (fun i s hi hs => by
    subst hs
    by_cases c : i % 2 = 0
    · refine ⟨?_, ?_⟩
      · have e1 : (i + 1 + 1) / 2 = (i + 1) / 2 + 1 := by omega
        have e2 : (i + 1) / 2 = i / 2 := by omega
        have e3 : 2 * ((i + 1) / 2) = i := by omega
        simp only [if_pos c]
        rw [e1, e2]
        refine congrArg (fun x => (x, _)) ?_
        rw [tab_succ]
        have e4 : 2 * (i / 2) = i := by omega
        rw [e4]
      · have := step i (tab ((i + 1) / 2) fun j => rd l ((2 * j : Nat) : Int)) (tab (i / 2) fun j => rd l ((2 * j + 1 : Nat) : Int)) hi (by simp; omega) (by simp; omega)
        rw [if_pos c] at this
        simpa only [if_pos c] using this
    · refine ⟨?_, ?_⟩
      · have e1 : (i + 1 + 1) / 2 = (i + 1) / 2 := by omega
        have e2 : (i + 1) / 2 = i / 2 + 1 := by omega
        have e3 : 2 * (i / 2) + 1 = i := by omega
        simp only [if_neg c]
        rw [e1]
        refine congrArg (Prod.mk _) ?_
        have e4 : (i + 1) / 2 = i / 2 + 1 := e2
        rw [e4, tab_succ, e3]
      · have := step i (tab ((i + 1) / 2) fun j => rd l ((2 * j : Nat) : Int)) (tab (i / 2) fun j => rd l ((2 * j + 1 : Nat) : Int)) hi (by simp; omega) (by simp; omega)
        rw [if_neg c] at this
        simpa only [if_neg c] using this) ([], []) rfl
  have h1 := h.1
  have h2 := h.2
  rw [h1] at h2
  exact h2
theorem tmod2 (i : Nat) : Int.tmod (i : Int) 2 = ((i % 2 : Nat) : Int) := (Int.ofNat_tmod i 2).symm
theorem wrap9 (a b c d : Int) : wrap64 (wrap64 (wrap64 (9 * wrap64 (a + b)) - wrap64 (c + d)) + 8) = wrap64 (9 * (a + b) - c - d + 8) := by
  unfold wrap64
  omega
theorem wrap9s (a b c d : Int) : wrap64 (wrap64 (wrap64 (wrap64 (9 * wrap64 (a + b)) - c) - d) + 8) = wrap64 (9 * (a + b) - c - d + 8) := by
  unfold wrap64
  omega
theorem wrap4 (a b : Int) : wrap64 (wrap64 (a + b) + 2) = wrap64 (a + b + 2) := wrap_add_l _ _
/-! putting back -/
def interV (ev od : List Int) : List Int := iter (fun i s => if i < od.length then (s ++ [rd ev (i : Int)]) ++ [rd od (i : Int)] else s ++ [rd ev (i : Int)]) ev.length []
def evenB (kind : Int) (low high : List Int) : List Int := tab low.length fun i => wrap64 (rd low (i : Int) - moreV kind high (i : Int))
def oddB (kind : Int) (low high : List Int) : List Int := tab high.length fun i => wrap64 (rd high (i : Int) + guessV kind (evenB kind low high) (i : Int))
def backV (kind : Int) (low high : List Int) : List Int := interV (evenB kind low high) (oddB kind low high)
theorem interV_length (ev od : List Int) (h : od.length ≤ ev.length) : (interV ev od).length = ev.length + od.length := by
  unfold interV
  have := iter_inv (f := fun i s => if i < od.length then (s ++ [rd ev (i : Int)]) ++ [rd od (i : Int)] else s ++ [rd ev (i : Int)]) (fun i (s : List Int) => s.length = i + min i od.length) ev.length [] (by simp) fun i s hi hs => by
    by_cases c : i < od.length
    · simp only [if_pos c, List.length_append, List.length_cons, List.length_nil, hs]
      omega
    · simp only [if_neg c, List.length_append, List.length_cons, List.length_nil, hs]
      omega
  rw [this]
  omega
theorem backV_length (kind : Int) (low high : List Int) (h : high.length ≤ low.length) : (backV kind low high).length = low.length + high.length := by
  unfold backV
  rw [interV_length _ _ (by simpa [evenB, oddB] using h)]
  simp [evenB, oddB]

theorem implAt_eq (l : List Int) (i : Int) (h0 : 0 < l.length) (hl : l.length ≤ 2000000) : impl_at.f l i = some (atV l i) := by
  unfold impl_at.f impl_nearer.f atV
  simp only [Option.bind_some]
  rw [w64 (by omega) (by omega)]
  by_cases h1 : i < 0
  · have e : mn (mx i 0) ((l.length : Int) - 1) = 0 := by unfold mn mx; rw [if_pos h1, if_neg (by omega)]
    rw [e, if_pos h1, if_pos (by omega), if_pos (by omega)]
  · by_cases h2 : i ≥ (l.length : Int)
    · have e : mn (mx i 0) ((l.length : Int) - 1) = (l.length : Int) - 1 := by unfold mn mx; rw [if_neg h1, if_pos (by omega)]
      rw [e, if_neg h1, if_pos h2, if_pos (by omega), if_pos (by omega)]
    · have e : mn (mx i 0) ((l.length : Int) - 1) = i := by unfold mn mx; rw [if_neg h1, if_neg (by omega)]
      rw [e, if_neg h1, if_neg h2, if_pos (by omega), if_pos (by omega)]
theorem implGuess_eq (kind : Int) (e : List Int) (i : Nat) (hi : i < e.length) (hl : e.length ≤ 2000000) : impl_guess.f kind e (i : Int) = some (guessV kind e (i : Int)) := by
  unfold impl_guess.f guessV
  rw [w64 (n := (i : Int) + 1) (by omega) (by omega), w64 (n := (i : Int) - 1) (by omega) (by omega), w64 (n := (i : Int) + 2) (by omega) (by omega), implAt_eq e _ (by omega) hl, implAt_eq e _ (by omega) hl, implAt_eq e _ (by omega) hl]
  simp only [Option.bind_some]
  by_cases h1 : kind = 1
  · rw [if_pos h1, if_pos h1, if_pos (by omega), if_pos (by omega)]
  · rw [if_neg h1, if_neg h1]
    by_cases h2 : kind = 2
    · rw [if_pos h2, if_pos h2, if_pos (by omega), if_pos (by omega)]
    · rw [if_neg h2, if_neg h2, if_pos (by omega), if_pos (by omega), wrap9]
theorem implMore_eq (kind : Int) (h : List Int) (i : Nat) (hi : i ≤ h.length) (hl : h.length ≤ 2000000) : impl_more.f kind h (i : Int) = some (moreV kind h (i : Int)) := by
  unfold impl_more.f moreV
  by_cases h0 : h.length = 0
  · rw [if_pos (by omega), if_pos h0]
  · rw [if_neg (by omega), if_neg h0]
    by_cases h1 : kind = 1
    · rw [if_pos h1, if_pos h1]
      by_cases h2 : (i : Int) = (h.length : Int)
      · rw [if_pos h2, if_pos h2]
      · rw [if_neg h2, if_neg h2, if_pos (by omega), if_pos (by omega)]
    · rw [if_neg h1, if_neg h1, w64 (n := (i : Int) - 1) (by omega) (by omega), implAt_eq h _ (by omega) hl, implAt_eq h _ (by omega) hl]
      simp only [Option.bind_some]
      rw [wrap4]

theorem isLift_eq (a : Int) : impl_isLift.f a = some (decide (1 ≤ a ∧ a ≤ 3)) := by
  unfold impl_isLift.f
  by_cases h : a ≥ 1
  · rw [if_pos h]
    congr 1
    rw [decide_eq_decide]
    omega
  · rw [if_neg h]
    congr 1
    symm
    rw [decide_eq_false_iff_not]
    omega

theorem implOnce_ev (kind : Int) (l : List Int) (hl : l.length ≤ 2000000) : Ev (fun k => impl_liftOnce.f k kind l) (lowV kind l, highV kind l) := by
  unfold impl_liftOnce.f
  rw [split_loop (fun k e o i => impl_liftOnce.l0 k kind e o l (l.length : Int) i) l]
  · rw [ev_shift]
    simp only [impl_liftOnce.l0]
    rw [ev_neg (by omega)]
    rw [map_loop (fun k s i => impl_liftOnce.l1 k kind (evenV l) s ((oddV l).length : Int) i) (oddV l) (fun i => wrap64 (rd (oddV l) (i : Int) - guessV kind (evenV l) (i : Int)))]
    · have eH : (tab (oddV l).length fun i => wrap64 (rd (oddV l) (i : Int) - guessV kind (evenV l) (i : Int))) = highV kind l := rfl
      rw [eH, ev_shift]
      simp only [impl_liftOnce.l1]
      rw [ev_neg (by omega)]
      rw [map_loop (fun k s i => impl_liftOnce.l2 k kind s (highV kind l) ((evenV l).length : Int) i) (evenV l) (fun i => wrap64 (rd (evenV l) (i : Int) + moreV kind (highV kind l) (i : Int)))]
      · rw [ev_shift]
        simp only [impl_liftOnce.l2]
        rw [ev_neg (by omega)]
        exact Ev.now _
      · intro i s hi hs hr
        rw [evenV_length] at hi hs
        rw [ev_shift]
        simp only [impl_liftOnce.l2, evenV_length]
        rw [implMore_eq kind (highV kind l) i (by rw [highV_length]; omega) (by rw [highV_length]; omega), ev_pos (by omega), ev_pos (by omega), ev_pos (by omega), w64 (n := (i : Int) + 1) (by omega) (by omega), hr, Int.toNat_natCast]
        exact Iff.rfl
    · intro i s hi hs hr
      rw [oddV_length] at hi hs
      rw [ev_shift]
      simp only [impl_liftOnce.l1, oddV_length]
      rw [implGuess_eq kind (evenV l) i (by rw [evenV_length]; omega) (by rw [evenV_length]; omega), ev_pos (by omega), ev_pos (by omega), ev_pos (by omega), w64 (n := (i : Int) + 1) (by omega) (by omega), hr, Int.toNat_natCast]
      exact Iff.rfl
  · intro i e o hi he ho
    rw [ev_shift]
    simp only [impl_liftOnce.l0]
    rw [ev_pos (by omega), ev_pos (by omega), ev_pos (by omega), w64 (n := (i : Int) + 1) (by omega) (by omega), tmod2]
    by_cases c : i % 2 = 0
    · rw [ev_pos (by omega), ev_pos (by omega), if_pos c]
    · rw [ev_neg (by omega), ev_pos (by omega), if_neg c]

/-! ### Lift over levels -/
def liftN (kind : Int) : Nat → List Int → List Int → List Int
  | 0, low, rest => low ++ rest
  | n + 1, low, rest => if low.length ≤ 1 then low ++ rest else liftN kind n (lowV kind low) (highV kind low ++ rest)
theorem liftN_length (kind : Int) : ∀ (n : Nat) (low rest : List Int), (liftN kind n low rest).length = low.length + rest.length := by
  intro n
  induction n with
  | zero => intro low rest; simp [liftN]
  | succ n ih =>
    intro low rest
    unfold liftN
    split
    · simp
    · rw [ih, lowV_length, List.length_append, highV_length]
      omega
theorem isLevels_eq (a : Int) : impl_isLevels.f a = some (decide (0 ≤ a ∧ a ≤ 8)) := by
  unfold impl_isLevels.f
  by_cases h : a ≥ 0
  · rw [if_pos h]
    congr 1
    rw [decide_eq_decide]
    omega
  · rw [if_neg h]
    congr 1
    symm
    rw [decide_eq_false_iff_not]
    omega

theorem implLiftN_ev (kind : Int) (L : Nat) : ∀ (d i : Nat) (low rest : List Int), i + d = L → L ≤ 1000 → low.length + rest.length ≤ 1000000 → Ev (fun k => impl_Lift.l0 k kind low rest (L : Int) (i : Int)) (liftN kind d low rest, true) := by
  intro d
  induction d with
  | zero =>
    intro i low rest hi hL hl
    rw [ev_shift]
    simp only [impl_Lift.l0]
    rw [ev_neg (by omega), ev_pos (by omega)]
    exact Ev.now _
  | succ d ih =>
    intro i low rest hi hL hl
    rw [ev_shift]
    simp only [impl_Lift.l0]
    unfold liftN
    rw [ev_pos (by omega)]
    by_cases c : (low.length : Int) ≤ 1
    · rw [ev_pos c, ev_pos (by omega), if_pos (by omega)]
      exact Ev.now _
    · have hh := highV_length kind low
      have hw := lowV_length kind low
      have g := ih (i + 1) (lowV kind low) (highV kind low ++ rest) (by omega) hL (by rw [List.length_append]; omega)
      have e : ((i + 1 : Nat) : Int) = (i : Int) + 1 := by omega
      rw [e] at g
      rw [ev_neg c, if_neg (by omega), ev_bind (implOnce_ev kind low (by omega)), ev_pos (by show (highV kind low).length + rest.length < _; omega), w64 (n := (i : Int) + 1) (by omega) (by omega)]
      exact g
open Classical in
noncomputable def liftR (kind : Int) (l : List Int) (n : Int) : List Int × Bool := if 1 ≤ kind ∧ kind ≤ 3 ∧ sigB l = true ∧ 0 ≤ n ∧ n ≤ 8 then (liftN kind n.toNat l [], true) else ([], false)
theorem liftR_length (kind : Int) (l : List Int) (n : Int) (hl : l.length ≤ 2000000) : (liftR kind l n).1.length ≤ 2000000 := by
  unfold liftR
  split
  · show (liftN kind n.toNat l []).length ≤ _
    rw [liftN_length]
    simpa using hl
  · simp
theorem implLift_ev (kind : Int) (l : List Int) (n : Int) (hl : l.length ≤ 2000000) : Ev (fun k => impl_Lift.f k kind l n) (liftR kind l n) := by
  unfold impl_Lift.f
  have no : ¬ (1 ≤ kind ∧ kind ≤ 3 ∧ sigB l = true ∧ 0 ≤ n ∧ n ≤ 8) → Ev (fun k => impl_Lift.j0 k kind l n true) (liftR kind l n) := by
    intro h
    rw [ev_shift, liftR, if_neg h]
    simp only [impl_Lift.j0, if_true]
    exact Ev.now _
  rw [isLift_eq, ev_sbind, isLevels_eq]
  by_cases h1 : 1 ≤ kind ∧ kind ≤ 3
  · rw [ev_pos (by simpa using h1), ev_bind (implSig_ev l hl)]
    by_cases h2 : sigB l = true
    · rw [ev_pos h2, ev_sbind]
      by_cases h3 : 0 ≤ n ∧ n ≤ 8
      · have hl5 := (sigB_iff.1 h2).1
        rw [decide_eq_true h3, ev_shift, liftR, if_pos ⟨h1.1, h1.2, h2, h3.1, h3.2⟩]
        simp only [impl_Lift.j0, Bool.not_true, Bool.false_eq_true, if_false]
        rw [clone_eq l hl, ev_sbind]
        have g := implLiftN_ev kind n.toNat n.toNat 0 l [] (by omega) (by omega) (by simp; omega)
        rw [Int.toNat_of_nonneg h3.1] at g
        exact g
      · rw [decide_eq_false h3]
        exact no (by omega)
    · rw [ev_neg h2]
      exact no (fun h => h2 h.2.2.1)
  · rw [ev_neg (by simpa using h1)]
    exact no (fun h => h1 ⟨h.1, h.2.1⟩)

def constV (n : Nat) (x : Int) : List Int := tab n fun _ => x
theorem constV_length (n : Nat) (x : Int) : (constV n x).length = n := by simp [constV]
theorem constV_rd {n : Nat} {x i : Int} (h0 : 0 ≤ i) (h : i < (n : Int)) : rd (constV n x) i = x := by unfold constV; rw [rd_tab h0 h]
theorem constV_at {n : Nat} {x : Int} (hn : 0 < n) (i : Int) : atV (constV n x) i = x := by
  unfold atV
  rw [constV_length]
  by_cases h1 : i < 0
  · rw [if_pos h1, constV_rd (by omega) (by omega)]
  · rw [if_neg h1]
    by_cases h2 : i ≥ (n : Int)
    · rw [if_pos h2, constV_rd (by omega) (by omega)]
    · rw [if_neg h2, constV_rd (by omega) (by omega)]
theorem constV_add (m n : Nat) (x : Int) : constV m x ++ constV n x = constV (m + n) x := by
  unfold constV
  rw [tab_add]
theorem const_even (n : Nat) (x : Int) : evenV (constV n x) = constV ((n + 1) / 2) x := by
  unfold evenV
  rw [constV_length]
  exact tab_congr fun i hi => constV_rd (by omega) (by omega)
theorem const_odd (n : Nat) (x : Int) : oddV (constV n x) = constV (n / 2) x := by
  unfold oddV
  rw [constV_length]
  exact tab_congr fun i hi => constV_rd (by omega) (by omega)
theorem const_high (kind : Int) (n : Nat) (x : Int) (h0 : -100000 ≤ x) (h1 : x ≤ 100000) : highV kind (constV n x) = constV (n / 2) 0 := by
  unfold highV
  rw [const_odd, const_even, constV_length]
  refine tab_congr fun i hi => ?_
  have hg : guessV kind (constV ((n + 1) / 2) x) (i : Int) = x := by
    unfold guessV
    rw [constV_at (by omega), constV_at (by omega), constV_at (by omega), constV_rd (by omega) (by omega)]
    by_cases c : kind = 1
    · rw [if_pos c]
    · rw [if_neg c]
      by_cases d : kind = 2
      · rw [if_pos d, w64 (by omega) (by omega)]
        omega
      · rw [if_neg d, w64 (by omega) (by omega)]
        omega
  rw [hg, constV_rd (by omega) (by omega), w64 (by omega) (by omega)]
  omega
theorem const_low (kind : Int) (n : Nat) (x : Int) (h0 : -100000 ≤ x) (h1 : x ≤ 100000) : lowV kind (constV n x) = constV ((n + 1) / 2) x := by
  unfold lowV
  rw [const_even, const_high kind n x h0 h1, constV_length]
  refine tab_congr fun i hi => ?_
  have hm : moreV kind (constV (n / 2) 0) (i : Int) = 0 := by
    unfold moreV
    rw [constV_length]
    by_cases b : n / 2 = 0
    · rw [if_pos b]
    · rw [if_neg b]
      by_cases c : kind = 1
      · rw [if_pos c]
        by_cases d : (i : Int) = ((n / 2 : Nat) : Int)
        · rw [if_pos d]
        · rw [if_neg d, constV_rd (by omega) (by omega)]
          omega
      · rw [if_neg c, constV_at (by omega), constV_at (by omega), w64 (by omega) (by omega)]
        omega
  rw [hm, constV_rd (by omega) (by omega), w64 (by omega) (by omega)]
  omega
def lw : Nat → Nat → Nat
  | 0, n => n
  | d + 1, n => if n ≤ 1 then n else lw d ((n + 1) / 2)
theorem lw_le : ∀ d n, lw d n ≤ n := by
  intro d
  induction d with
  | zero => intro n; exact Nat.le_refl _
  | succ d ih =>
    intro n
    unfold lw
    split
    · exact Nat.le_refl _
    · have := ih ((n + 1) / 2)
      omega
theorem const_lift (kind x : Int) (h0 : -100000 ≤ x) (h1 : x ≤ 100000) : ∀ d n z, liftN kind d (constV n x) (constV z 0) = constV (lw d n) x ++ constV (n + z - lw d n) 0 := by
  intro d
  induction d with
  | zero =>
    intro n z
    show constV n x ++ constV z 0 = constV n x ++ constV (n + z - n) 0
    rw [Nat.add_sub_cancel_left]
  | succ d ih =>
    intro n z
    unfold liftN lw
    rw [constV_length]
    by_cases c : n ≤ 1
    · rw [if_pos c, if_pos c, Nat.add_sub_cancel_left]
    · have := lw_le d ((n + 1) / 2)
      rw [if_neg c, if_neg c, const_high kind n x h0 h1, const_low kind n x h0 h1, constV_add, ih]
      have e : (n + 1) / 2 + (n / 2 + z) - lw d ((n + 1) / 2) = n + z - lw d ((n + 1) / 2) := by omega
      rw [e]
theorem tdiv2 (n : Nat) (h : n ≤ 100000) : wrap64 (Int.tdiv (wrap64 ((n : Int) + 1)) 2) = (((n + 1) / 2 : Nat) : Int) := by
  rw [w64 (n := (n : Int) + 1) (by omega) (by omega)]
  have e : Int.tdiv ((n : Int) + 1) 2 = (((n + 1) / 2 : Nat) : Int) := by
    have e2 : (n : Int) + 1 = ((n + 1 : Nat) : Int) := by omega
    rw [e2]
    exact (Int.ofNat_tdiv (n + 1) 2).symm
  rw [e, w64 (by omega) (by omega)]
theorem lowLoop (n : Nat) (x : Int) (l y : List Int) (kind : Int) (hn : n ≤ 1000) : ∀ d i m : Nat, i + d = 3 → m ≤ 1000 → (Ev (fun k => laws_FnStill.j4 k (n : Int) x l kind y ((lw d m : Nat) : Int)) true) →
    Ev (fun k => laws_FnStill.l2 k (n : Int) x l kind y (m : Int) (i : Int)) true := by
  intro d
  induction d with
  | zero =>
    intro i m hi hm h
    rw [ev_shift]
    simp only [laws_FnStill.l2]
    rw [ev_neg (by omega)]
    exact h
  | succ d ih =>
    intro i m hi hm h
    rw [ev_shift]
    simp only [laws_FnStill.l2]
    rw [ev_pos (by omega)]
    unfold lw at h
    by_cases c : (m : Int) > 1
    · rw [if_neg (by omega)] at h
      have g := ih (i + 1) ((m + 1) / 2) (by omega) (by omega) h
      have e : ((i + 1 : Nat) : Int) = (i : Int) + 1 := by omega
      rw [e] at g
      rw [ev_pos c, tdiv2 _ (by omega), w64 (n := (i : Int) + 1) (by omega) (by omega)]
      exact g
    · rw [if_pos (by omega)] at h
      rw [ev_neg c]
      exact h
theorem kind_ev (n : Nat) (x kind : Int) (hn0 : 1 ≤ n) (hn : n ≤ 100) (h0 : -100000 ≤ x) (h1 : x ≤ 100000) (hk0 : 1 ≤ kind) (hk1 : kind ≤ 3)
    (h : Ev (fun k => laws_FnStill.l1 k (n : Int) x (constV n x) (kind + 1)) true) : Ev (fun k => laws_FnStill.l1 k (n : Int) x (constV n x) kind) true := by
  have hs : sigB (constV n x) = true := by
    refine sigB_iff.2 ⟨by rw [constV_length]; omega, inB_iff.2 ((all_rd (fun y => -1000000000 ≤ y ∧ y ≤ 1000000000)).2 fun i hi => ?_)⟩
    rw [constV_length] at hi
    rw [constV_rd (by omega) (by omega)]
    omega
  have hr : liftR kind (constV n x) 3 = (constV (lw 3 n) x ++ constV (n - lw 3 n) 0, true) := by
    unfold liftR
    rw [if_pos ⟨hk0, hk1, hs, by omega, by omega⟩]
    have := const_lift kind x h0 h1 3 n 0
    rw [Nat.add_zero] at this
    have e : (3 : Int).toNat = 3 := rfl
    rw [e]
    have e2 : constV 0 0 = ([] : List Int) := rfl
    rw [e2] at this
    rw [this]
  have hlw := lw_le 3 n
  have hlen : (constV (lw 3 n) x ++ constV (n - lw 3 n) 0).length = n := by rw [List.length_append, constV_length, constV_length]; omega
  rw [ev_shift]
  simp only [laws_FnStill.l1]
  rw [ev_pos hk1, ev_bind (implLift_ev kind (constV n x) 3 (by rw [constV_length]; omega)), hr]
  simp only [if_true]
  rw [hlen, bne_self_eq_false, ev_shift]
  simp only [laws_FnStill.j2, Bool.false_eq_true, if_false]
  refine lowLoop n x _ _ kind (by omega) 3 0 n (by omega) (by omega) ?_
  generalize lw 3 n = m at *
  rw [ev_shift]
  simp only [laws_FnStill.j4]
  have g := for_iff (fun k (_ : Unit) i => laws_FnStill.l3 k (n : Int) x (constV n x) kind (constV m x ++ constV (n - m) 0) (m : Int) i) (fun _ s => s) (fun _ _ => True) n true ?_ () trivial
  · rw [g.2, ev_shift]
    simp only [laws_FnStill.l3]
    rw [ev_neg (by omega), w64 (by omega) (by omega)]
    exact h
  · intro i _ hi _
    refine ⟨trivial, ?_⟩
    rw [ev_shift]
    simp only [laws_FnStill.l3]
    rw [hlen, ev_pos (by omega), w64 (n := (i : Int) + 1) (by omega) (by omega)]
    by_cases c : (i : Int) < (m : Int)
    · have e : rd (constV m x ++ constV (n - m) 0) (i : Int) = x := by rw [rd_append_left (by omega) (by rw [constV_length]; omega), constV_rd (by omega) c]
      rw [ev_pos c, ev_pos (by omega), ev_pos (by omega), ev_pos e, ev_neg (by omega)]
    · have e : rd (constV m x ++ constV (n - m) 0) (i : Int) = 0 := by rw [rd_append_right (by rw [constV_length]; omega), constV_length, constV_rd (by omega) (by omega)]
      rw [ev_neg c, ev_pos (by omega), ev_pos (by omega), ev_pos (by omega), ev_pos e]
theorem FnStill : laws_FnStill.Pure := by
  intro l0 _ _ hw
  refine Ev.rounds (g := fun k => laws_FnStill.f k l0) ?_
  simp only [laws_FnStill.f, big_eq, Option.bind_some]
  by_cases hlen : (l0.length : Int) > 1048576
  · rw [ev_pos (by simpa using hlen)]
    exact Ev.now _
  rw [ev_neg (by simpa using hlen)]
  obtain ⟨u, hu, hu0, hu1⟩ := at_ok l0 0 (by omega) hw (by omega) (by omega)
  obtain ⟨v, hv, hv0, hv1⟩ := at_ok l0 1 (by omega) hw (by omega) (by omega)
  rw [hu, ev_sbind, hv, ev_sbind]
  have t0 := Int.tmod_nonneg 60 hu0
  have t1 := Int.tmod_lt_of_pos u (by omega : (0 : Int) < 60)
  rw [w64 (n := 1 + Int.tmod u 60) (by omega) (by omega), w64 (n := v * 100) (by omega) (by omega), w64 (by omega) (by omega)]
  obtain ⟨n, hn⟩ : ∃ n : Nat, 1 + Int.tmod u 60 = (n : Int) := ⟨(1 + Int.tmod u 60).toNat, by omega⟩
  rw [hn]
  generalize hx : v * 100 - 12800 = x
  rw [push_loop (fun k s i => laws_FnStill.l0 k (n : Int) x s i) n (fun _ => x)]
  · rw [ev_shift]
    simp only [laws_FnStill.l0]
    rw [ev_neg (by omega)]
    have k4 : Ev (fun k => laws_FnStill.l1 k (n : Int) x (constV n x) 4) true := by
      rw [ev_shift]
      simp only [laws_FnStill.l1]
      rw [ev_neg (by omega)]
      exact Ev.now _
    have k3 := kind_ev n x 3 (by omega) (by omega) (by omega) (by omega) (by omega) (by omega) k4
    have k2 := kind_ev n x 2 (by omega) (by omega) (by omega) (by omega) (by omega) (by omega) k3
    exact kind_ev n x 1 (by omega) (by omega) (by omega) (by omega) (by omega) (by omega) k2
  · intro i s hi hs
    rw [ev_shift]
    simp only [laws_FnStill.l0]
    rw [ev_pos (by omega), ev_pos (by omega), w64 (by omega) (by omega)]

end Go.Proofs.Ytiffgdhhppmpaaa.Pure
