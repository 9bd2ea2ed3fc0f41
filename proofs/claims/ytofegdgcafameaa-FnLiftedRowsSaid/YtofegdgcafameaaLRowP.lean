/- The pure parts of FnLiftedRows. No conditions. -/
import Derived.Test.YtofegdgcafameaaQFnLiftedRowsx0
import Derived.Test.YtofegdgcafameaaQFnLiftedRowsx1
import Derived.Test.YtofegdgcafameaaQFnLiftedRowsx2
import Derived.Test.YtofegdgcafameaaQFnLiftedRowsx3
import Derived.Test.YtofegdgcafameaaQFnLiftedRowsx4
import Derived.Test.YtofegdgcafameaaQFnLiftedRowsx5
import Derived.Test.YtofegdgcafameaaQFnLiftedRowsx6
import Derived.Test.YtofegdgcafameaaQFnLiftedRowsx7
import Derived.Test.YtofegdgcafameaaQFnLiftedRowsx8
import Derived.Test.YtofegdgcafameaaQFnLiftedRowsx9
import Derived.Test.YtofegdgcafameaaQFnLiftedRowsx10
import Derived.Test.YtofegdgcafameaaBase
namespace Go.Proofs.Ytofegdgcafameaa.LRowP
open Go.RowKit Go.Proofs.Ytofegdgcafameaa.QFnLiftedRows Go.Proofs.YtofegdgcafameaaW.PrintWords Go.Proofs.YtofegdgcafameaaW.PrintLast
open Go.Proofs.Ytofegdgcafameaa.Base
set_option linter.unusedVariables false
set_option linter.unusedSimpArgs false
/-! ### lifting: the numbers -/
def atV (l : List Int) (i : Int) : Int := if i < 0 then rd l 0 else if i ≥ (l.length : Int) then rd l ((l.length : Int) - 1) else rd l i
def guessV (kind : Int) (e : List Int) (i : Int) : Int :=
  if kind = 1 then rd e i else if kind = 2 then (wrap64 (rd e i + atV e (i + 1))) / 2
  else (wrap64 (9 * (rd e i + atV e (i + 1)) - atV e (i - 1) - atV e (i + 2) + 8)) / 16
def moreV (kind : Int) (h : List Int) (i : Int) : Int :=
  if h.length = 0 then 0 else if kind = 1 then (if i = (h.length : Int) then 0 else rd h i / 2) else (wrap64 (atV h (i - 1) + atV h i + 2)) / 4
def evenV (l : List Int) : List Int := tab ((l.length + 1) / 2) fun j => rd l ((2 * j : Nat) : Int)
def oddV (l : List Int) : List Int := tab (l.length / 2) fun j => rd l ((2 * j + 1 : Nat) : Int)
def highV (kind : Int) (l : List Int) : List Int := tab (oddV l).length fun i => wrap64 (rd (oddV l) (i : Int) - guessV kind (evenV l) (i : Int))
def lowV (kind : Int) (l : List Int) : List Int := tab (evenV l).length fun i => wrap64 (rd (evenV l) (i : Int) + moreV kind (highV kind l) (i : Int))
@[simp] theorem evenV_length (l : List Int) : (evenV l).length = (l.length + 1) / 2 := by simp [evenV]
@[simp] theorem oddV_length (l : List Int) : (oddV l).length = l.length / 2 := by simp [oddV]
@[simp] theorem highV_length (kind : Int) (l : List Int) : (highV kind l).length = l.length / 2 := by simp [highV]
@[simp] theorem lowV_length (kind : Int) (l : List Int) : (lowV kind l).length = (l.length + 1) / 2 := by simp [lowV]
theorem split_loop {α : Type} (L : Nat → List Int → List Int → Int → Option α) (l : List Int) (r : α)
    (step : ∀ (i : Nat) (e o : List Int), i < l.length → e.length ≤ i → o.length ≤ i →
      (Ev (fun k => L k e o (i : Int)) r ↔ if i % 2 = 0 then Ev (fun k => L k (e ++ [rd l (i : Int)]) o ((i : Int) + 1)) r else Ev (fun k => L k e (o ++ [rd l (i : Int)]) ((i : Int) + 1)) r)) :
    Ev (fun k => L k [] [] 0) r ↔ Ev (fun k => L k (evenV l) (oddV l) (l.length : Int)) r := by
  have h := for_iff (fun k (s : List Int × List Int) i => L k s.1 s.2 i) (fun i s => if i % 2 = 0 then (s.1 ++ [rd l (i : Int)], s.2) else (s.1, s.2 ++ [rd l (i : Int)])) (fun i s => s = (tab ((i + 1) / 2) fun j => rd l ((2 * j : Nat) : Int), tab (i / 2) fun j => rd l ((2 * j + 1 : Nat) : Int))) l.length r (fun i s hi hs => by
    subst hs
    by_cases c : i % 2 = 0
    · refine ⟨?_, ?_⟩
      · have e1 : (i + 1 + 1) / 2 = (i + 1) / 2 + 1 := by omega
        have e2 : (i + 1) / 2 = i / 2 := by omega
        have e3 : 2 * ((i + 1) / 2) = i := by omega
        simp only [if_pos c]
        rw [e1, e2]
        refine congrArg (fun x => (x, _)) ?_
        rw [tab_succ]
        have e4 : 2 * (i / 2) = i := by omega
        rw [e4]
      · have := step i (tab ((i + 1) / 2) fun j => rd l ((2 * j : Nat) : Int)) (tab (i / 2) fun j => rd l ((2 * j + 1 : Nat) : Int)) hi (by simp; omega) (by simp; omega)
        rw [if_pos c] at this
        simpa only [if_pos c] using this
    · refine ⟨?_, ?_⟩
      · have e1 : (i + 1 + 1) / 2 = (i + 1) / 2 := by omega
        have e2 : (i + 1) / 2 = i / 2 + 1 := by omega
        have e3 : 2 * (i / 2) + 1 = i := by omega
        simp only [if_neg c]
        rw [e1]
        refine congrArg (Prod.mk _) ?_
        have e4 : (i + 1) / 2 = i / 2 + 1 := e2
        rw [e4, tab_succ, e3]
      · have := step i (tab ((i + 1) / 2) fun j => rd l ((2 * j : Nat) : Int)) (tab (i / 2) fun j => rd l ((2 * j + 1 : Nat) : Int)) hi (by simp; omega) (by simp; omega)
        rw [if_neg c] at this
        simpa only [if_neg c] using this) ([], []) rfl
  have h1 := h.1
  have h2 := h.2
  rw [h1] at h2
  exact h2
theorem tmod2 (i : Nat) : Int.tmod (i : Int) 2 = ((i % 2 : Nat) : Int) := (Int.ofNat_tmod i 2).symm
theorem wrap9 (a b c d : Int) : wrap64 (wrap64 (wrap64 (9 * wrap64 (a + b)) - wrap64 (c + d)) + 8) = wrap64 (9 * (a + b) - c - d + 8) := by
  unfold wrap64
  omega
theorem wrap9s (a b c d : Int) : wrap64 (wrap64 (wrap64 (wrap64 (9 * wrap64 (a + b)) - c) - d) + 8) = wrap64 (9 * (a + b) - c - d + 8) := by
  unfold wrap64
  omega
theorem wrap4 (a b : Int) : wrap64 (wrap64 (a + b) + 2) = wrap64 (a + b + 2) := wrap_add_l _ _
/-! putting back -/
def interV (ev od : List Int) : List Int := iter (fun i s => if i < od.length then (s ++ [rd ev (i : Int)]) ++ [rd od (i : Int)] else s ++ [rd ev (i : Int)]) ev.length []
def evenB (kind : Int) (low high : List Int) : List Int := tab low.length fun i => wrap64 (rd low (i : Int) - moreV kind high (i : Int))
def oddB (kind : Int) (low high : List Int) : List Int := tab high.length fun i => wrap64 (rd high (i : Int) + guessV kind (evenB kind low high) (i : Int))
def backV (kind : Int) (low high : List Int) : List Int := interV (evenB kind low high) (oddB kind low high)
theorem interV_length (ev od : List Int) (h : od.length ≤ ev.length) : (interV ev od).length = ev.length + od.length := by
  unfold interV
  have := iter_inv (f := fun i s => if i < od.length then (s ++ [rd ev (i : Int)]) ++ [rd od (i : Int)] else s ++ [rd ev (i : Int)]) (fun i (s : List Int) => s.length = i + min i od.length) ev.length [] (by simp) fun i s hi hs => by
    by_cases c : i < od.length
    · simp only [if_pos c, List.length_append, List.length_cons, List.length_nil, hs]
      omega
    · simp only [if_neg c, List.length_append, List.length_cons, List.length_nil, hs]
      omega
  rw [this]
  omega
theorem backV_length (kind : Int) (low high : List Int) (h : high.length ≤ low.length) : (backV kind low high).length = low.length + high.length := by
  unfold backV
  rw [interV_length _ _ (by simpa [evenB, oddB] using h)]
  simp [evenB, oddB]

theorem implAt_eq (l : List Int) (i : Int) (h0 : 0 < l.length) (hl : l.length ≤ 2000000) : impl_at.f l i = some (atV l i) := by
  unfold impl_at.f impl_nearer.f atV
  simp only [Option.bind_some]
  rw [w64 (by omega) (by omega)]
  by_cases h1 : i < 0
  · have e : mn (mx i 0) ((l.length : Int) - 1) = 0 := by unfold mn mx; rw [if_pos h1, if_neg (by omega)]
    rw [e, if_pos h1, if_pos (by omega), if_pos (by omega)]
  · by_cases h2 : i ≥ (l.length : Int)
    · have e : mn (mx i 0) ((l.length : Int) - 1) = (l.length : Int) - 1 := by unfold mn mx; rw [if_neg h1, if_pos (by omega)]
      rw [e, if_neg h1, if_pos h2, if_pos (by omega), if_pos (by omega)]
    · have e : mn (mx i 0) ((l.length : Int) - 1) = i := by unfold mn mx; rw [if_neg h1, if_neg (by omega)]
      rw [e, if_neg h1, if_neg h2, if_pos (by omega), if_pos (by omega)]
theorem implGuess_eq (kind : Int) (e : List Int) (i : Nat) (hi : i < e.length) (hl : e.length ≤ 2000000) : impl_guess.f kind e (i : Int) = some (guessV kind e (i : Int)) := by
  unfold impl_guess.f guessV
  rw [w64 (n := (i : Int) + 1) (by omega) (by omega), w64 (n := (i : Int) - 1) (by omega) (by omega), w64 (n := (i : Int) + 2) (by omega) (by omega), implAt_eq e _ (by omega) hl, implAt_eq e _ (by omega) hl, implAt_eq e _ (by omega) hl]
  simp only [Option.bind_some]
  by_cases h1 : kind = 1
  · rw [if_pos h1, if_pos h1, if_pos (by omega), if_pos (by omega)]
  · rw [if_neg h1, if_neg h1]
    by_cases h2 : kind = 2
    · rw [if_pos h2, if_pos h2, if_pos (by omega), if_pos (by omega)]
    · rw [if_neg h2, if_neg h2, if_pos (by omega), if_pos (by omega), wrap9]
theorem implMore_eq (kind : Int) (h : List Int) (i : Nat) (hi : i ≤ h.length) (hl : h.length ≤ 2000000) : impl_more.f kind h (i : Int) = some (moreV kind h (i : Int)) := by
  unfold impl_more.f moreV
  by_cases h0 : h.length = 0
  · rw [if_pos (by omega), if_pos h0]
  · rw [if_neg (by omega), if_neg h0]
    by_cases h1 : kind = 1
    · rw [if_pos h1, if_pos h1]
      by_cases h2 : (i : Int) = (h.length : Int)
      · rw [if_pos h2, if_pos h2]
      · rw [if_neg h2, if_neg h2, if_pos (by omega), if_pos (by omega)]
    · rw [if_neg h1, if_neg h1, w64 (n := (i : Int) - 1) (by omega) (by omega), implAt_eq h _ (by omega) hl, implAt_eq h _ (by omega) hl]
      simp only [Option.bind_some]
      rw [wrap4]

theorem isLift_eq (a : Int) : impl_isLift.f a = some (decide (1 ≤ a ∧ a ≤ 3)) := by
  unfold impl_isLift.f
  by_cases h : a ≥ 1
  · rw [if_pos h]
    congr 1
    rw [decide_eq_decide]
    omega
  · rw [if_neg h]
    congr 1
    symm
    rw [decide_eq_false_iff_not]
    omega

theorem implOnce_ev (kind : Int) (l : List Int) (hl : l.length ≤ 2000000) : Ev (fun k => impl_liftOnce.f k kind l) (lowV kind l, highV kind l) := by
  unfold impl_liftOnce.f
  rw [split_loop (fun k e o i => impl_liftOnce.l0 k kind e o l (l.length : Int) i) l]
  · rw [ev_shift]
    simp only [impl_liftOnce.l0]
    rw [ev_neg (by omega)]
    rw [map_loop (fun k s i => impl_liftOnce.l1 k kind (evenV l) s ((oddV l).length : Int) i) (oddV l) (fun i => wrap64 (rd (oddV l) (i : Int) - guessV kind (evenV l) (i : Int)))]
    · have eH : (tab (oddV l).length fun i => wrap64 (rd (oddV l) (i : Int) - guessV kind (evenV l) (i : Int))) = highV kind l := rfl
      rw [eH, ev_shift]
      simp only [impl_liftOnce.l1]
      rw [ev_neg (by omega)]
      rw [map_loop (fun k s i => impl_liftOnce.l2 k kind s (highV kind l) ((evenV l).length : Int) i) (evenV l) (fun i => wrap64 (rd (evenV l) (i : Int) + moreV kind (highV kind l) (i : Int)))]
      · rw [ev_shift]
        simp only [impl_liftOnce.l2]
        rw [ev_neg (by omega)]
        exact Ev.now _
      · intro i s hi hs hr
        rw [evenV_length] at hi hs
        rw [ev_shift]
        simp only [impl_liftOnce.l2, evenV_length]
        rw [implMore_eq kind (highV kind l) i (by rw [highV_length]; omega) (by rw [highV_length]; omega), ev_pos (by omega), ev_pos (by omega), ev_pos (by omega), w64 (n := (i : Int) + 1) (by omega) (by omega), hr, Int.toNat_natCast]
        exact Iff.rfl
    · intro i s hi hs hr
      rw [oddV_length] at hi hs
      rw [ev_shift]
      simp only [impl_liftOnce.l1, oddV_length]
      rw [implGuess_eq kind (evenV l) i (by rw [evenV_length]; omega) (by rw [evenV_length]; omega), ev_pos (by omega), ev_pos (by omega), ev_pos (by omega), w64 (n := (i : Int) + 1) (by omega) (by omega), hr, Int.toNat_natCast]
      exact Iff.rfl
  · intro i e o hi he ho
    rw [ev_shift]
    simp only [impl_liftOnce.l0]
    rw [ev_pos (by omega), ev_pos (by omega), ev_pos (by omega), w64 (n := (i : Int) + 1) (by omega) (by omega), tmod2]
    by_cases c : i % 2 = 0
    · rw [ev_pos (by omega), ev_pos (by omega), if_pos c]
    · rw [ev_neg (by omega), ev_pos (by omega), if_neg c]


theorem floor_eq (a b : Int) (hb : 0 < b) (h0 : -4611686018427387904 ≤ a / b) (h1 : a / b ≤ 4611686018427387904) : spec_l5Floor.f a b = some (a / b) := by
  unfold spec_l5Floor.f
  rw [if_neg (by omega)]
  have e1 := Int.tdiv_eq_ediv (a := a) (b := b)
  have e2 := Int.tmod_eq_emod (a := a) (b := b)
  have h2 := Int.emod_nonneg a (by omega : b ≠ 0)
  have h3 := Int.emod_lt_of_pos a hb
  by_cases c : 0 ≤ a ∨ b ∣ a
  · rw [if_pos c] at e1 e2
    rw [e1, e2, if_neg (by omega), w64 (by omega) (by omega), Int.add_zero]
  · rw [if_neg c] at e1 e2
    have s : b.sign = 1 := Int.sign_eq_one_of_pos hb
    have n : (b.natAbs : Int) = b := by omega
    rw [e1, e2, if_pos (by omega), s, w64 (n := a / b + 1) (by omega) (by omega), w64 (by omega) (by omega), Int.add_sub_cancel]

theorem specAt_eq (l : List Int) (i : Int) (h0 : 0 < l.length) (hl : l.length ≤ 2000000) : spec_l9At.f l i = some (atV l i) := by
  unfold spec_l9At.f atV
  rw [w64 (by omega) (by omega)]
  by_cases h1 : i < 0
  · rw [if_pos h1, if_pos h1, if_neg (by omega), if_pos (by omega)]
  · rw [if_neg h1, if_neg h1]
    by_cases h2 : i ≥ (l.length : Int)
    · rw [if_pos h2, if_pos h2, if_pos (by omega), if_pos (by omega)]
    · rw [if_neg h2, if_neg h2, if_pos (by omega), if_pos (by omega)]
theorem specGuess_eq (kind : Int) (e : List Int) (i : Nat) (hi : i < e.length) (hl : e.length ≤ 2000000) : spec_l9Guess.f kind e (i : Int) = some (guessV kind e (i : Int)) := by
  unfold spec_l9Guess.f guessV
  rw [w64 (n := (i : Int) + 1) (by omega) (by omega), w64 (n := (i : Int) - 1) (by omega) (by omega), w64 (n := (i : Int) + 2) (by omega) (by omega), specAt_eq e _ (by omega) hl, specAt_eq e _ (by omega) hl, specAt_eq e _ (by omega) hl]
  simp only [Option.bind_some]
  by_cases h1 : kind = 1
  · rw [if_pos h1, if_pos h1, if_pos (by omega), if_pos (by omega)]
  · rw [if_neg h1, if_neg h1]
    by_cases h2 : kind = 2
    · have := wrap_range (rd e (i : Int) + atV e ((i : Int) + 1))
      rw [if_pos h2, if_pos h2, if_pos (by omega), if_pos (by omega), floor_eq _ 2 (by omega) (by omega) (by omega)]
      rfl
    · rw [if_neg h2, if_neg h2, if_pos (by omega), if_pos (by omega), wrap9s]
      have := wrap_range (9 * (rd e (i : Int) + atV e ((i : Int) + 1)) - atV e ((i : Int) - 1) - atV e ((i : Int) + 2) + 8)
      rw [floor_eq _ 16 (by omega) (by omega) (by omega)]
      rfl
theorem specMend_ev (kind : Int) (h : List Int) (i : Nat) (hi : i ≤ h.length) (hl : h.length ≤ 2000000) (hw : ∀ j : Int, -9223372036854775808 ≤ rd h j ∧ rd h j ≤ 9223372036854775807) : Ev (fun k => spec_l9Mend.f k kind h (i : Int)) (moreV kind h (i : Int)) := by
  unfold spec_l9Mend.f moreV
  by_cases h0 : h.length = 0
  · rw [ev_pos (by omega), if_pos h0, ev_shift]
    simp only [spec_l9Mend.j0, if_true]
    exact Ev.now _
  · rw [ev_neg (by omega), if_neg h0]
    by_cases h1 : kind = 1
    · rw [ev_pos h1, if_pos h1]
      by_cases h2 : (i : Int) = (h.length : Int)
      · rw [decide_eq_true (by omega), if_pos h2, ev_shift]
        simp only [spec_l9Mend.j0, if_true]
        exact Ev.now _
      · rw [decide_eq_false (by omega), if_neg h2, ev_shift]
        simp only [spec_l9Mend.j0, Bool.false_eq_true, if_false]
        have := hw (i : Int)
        rw [ev_pos h1, ev_pos (by omega), ev_pos (by omega), floor_eq _ 2 (by omega) (by omega) (by omega)]
        exact Ev.now _
    · rw [ev_neg h1, if_neg h1, ev_shift]
      simp only [spec_l9Mend.j0, Bool.false_eq_true, if_false]
      have := wrap_range (atV h ((i : Int) - 1) + atV h (i : Int) + 2)
      rw [ev_neg h1, w64 (n := (i : Int) - 1) (by omega) (by omega), specAt_eq h _ (by omega) hl, specAt_eq h _ (by omega) hl, ev_sbind, ev_sbind, wrap4, floor_eq _ 4 (by omega) (by omega) (by omega)]
      exact Ev.now _

theorem tab_wrap (n : Nat) (g : Nat → Int) (j : Int) : -9223372036854775808 ≤ rd (tab n fun i => wrap64 (g i)) j ∧ rd (tab n fun i => wrap64 (g i)) j ≤ 9223372036854775807 := by
  by_cases h : j.toNat < n
  · have e : rd (tab n fun i => wrap64 (g i)) j = rd (tab n fun i => wrap64 (g i)) (j.toNat : Int) := by unfold rd; rw [Int.toNat_natCast]
    rw [e, rd_tab' h]
    exact wrap_range _
  · have e : rd (tab n fun i => wrap64 (g i)) j = 0 := by
      unfold rd
      rw [List.getD_eq_getElem?_getD, List.getElem?_eq_none (by simp; omega)]
      rfl
    omega
theorem specOnce_ev (kind : Int) (l : List Int) (hl : l.length ≤ 2000000) : Ev (fun k => spec_l9Once.f k kind l) (lowV kind l, highV kind l) := by
  unfold spec_l9Once.f
  rw [split_loop (fun k e o i => spec_l9Once.l0 k kind l e o i) l]
  · rw [ev_shift]
    simp only [spec_l9Once.l0]
    rw [ev_neg (by omega)]
    rw [push_loop (fun k s i => spec_l9Once.l1 k kind (evenV l) (oddV l) [] s i) (oddV l).length (fun i => wrap64 (rd (oddV l) (i : Int) - guessV kind (evenV l) (i : Int)))]
    · rw [ev_shift]
      simp only [spec_l9Once.l1]
      rw [ev_neg (by omega)]
      rw [push_loop (fun k s i => spec_l9Once.l2 k kind (evenV l) s (tab (oddV l).length fun i => wrap64 (rd (oddV l) (i : Int) - guessV kind (evenV l) (i : Int))) i) (evenV l).length (fun i => wrap64 (rd (evenV l) (i : Int) + moreV kind (highV kind l) (i : Int)))]
      · rw [ev_shift]
        simp only [spec_l9Once.l2]
        rw [ev_neg (by omega)]
        exact Ev.now _
      · intro i s hi hs
        rw [evenV_length] at hi
        rw [ev_shift]
        simp only [spec_l9Once.l2, evenV_length]
        have hm := specMend_ev kind (highV kind l) i (by rw [highV_length]; omega) (by rw [highV_length]; omega) (fun j => tab_wrap _ _ j)
        rw [ev_pos (by omega), ev_pos (by omega), ev_bind (by exact hm), ev_pos (by omega), w64 (n := (i : Int) + 1) (by omega) (by omega)]
    · intro i s hi hs
      rw [oddV_length] at hi
      rw [ev_shift]
      simp only [spec_l9Once.l1, oddV_length]
      rw [specGuess_eq kind (evenV l) i (by rw [evenV_length]; omega) (by rw [evenV_length]; omega), ev_pos (by omega), ev_pos (by omega), ev_sbind, ev_pos (by omega), w64 (n := (i : Int) + 1) (by omega) (by omega)]
  · intro i e o hi he ho
    rw [ev_shift]
    simp only [spec_l9Once.l0]
    rw [ev_pos (by omega), w64 (n := (i : Int) + 1) (by omega) (by omega), tmod2]
    by_cases c : i % 2 = 0
    · rw [ev_pos (by omega), ev_pos (by omega), ev_pos (by omega), if_pos c]
    · rw [ev_neg (by omega), ev_pos (by omega), ev_pos (by omega), if_neg c]

theorem clone_eq (l : List Int) (h : l.length ≤ 2000000) : slices_Clone_int_int.f l = some l := by
  unfold slices_Clone_int_int.f
  simp only [Option.bind_some, List.nil_append, List.length_nil]
  rw [if_pos (by omega)]


theorem implBack_ev (kind : Int) (low high : List Int) (hl : low.length ≤ 1000000) (h0 : high.length ≤ low.length) (h1 : low.length ≤ high.length + 1) : Ev (fun k => impl_liftBack.f k kind low high) (backV kind low high) := by
  unfold impl_liftBack.f
  rw [clone_eq low (by omega), clone_eq high (by omega), ev_sbind, ev_sbind]
  rw [map_loop (fun k s i => impl_liftBack.l0 k kind high s high (low.length : Int) i) low (fun i => wrap64 (rd low (i : Int) - moreV kind high (i : Int)))]
  · have eE : (tab low.length fun i => wrap64 (rd low (i : Int) - moreV kind high (i : Int))) = evenB kind low high := rfl
    have lE : (evenB kind low high).length = low.length := by simp [evenB]
    rw [eE, ev_shift]
    simp only [impl_liftBack.l0]
    rw [ev_neg (by omega)]
    rw [map_loop (fun k s i => impl_liftBack.l1 k kind (evenB kind low high) s (high.length : Int) i) high (fun i => wrap64 (rd high (i : Int) + guessV kind (evenB kind low high) (i : Int)))]
    · have eO : (tab high.length fun i => wrap64 (rd high (i : Int) + guessV kind (evenB kind low high) (i : Int))) = oddB kind low high := rfl
      have lO : (oddB kind low high).length = high.length := by simp [oddB]
      rw [eO, ev_shift]
      simp only [impl_liftBack.l1]
      rw [ev_neg (by omega)]
      have h := for_iff (fun k s i => impl_liftBack.l2 k (oddB kind low high) s (evenB kind low high) ((evenB kind low high).length : Int) i) (fun i s => if i < (oddB kind low high).length then (s ++ [rd (evenB kind low high) (i : Int)]) ++ [rd (oddB kind low high) (i : Int)] else s ++ [rd (evenB kind low high) (i : Int)]) (fun i s => s.length ≤ 2 * i) (evenB kind low high).length (backV kind low high) ?_ [] (by simp)
      · rw [h.2, ev_shift]
        simp only [impl_liftBack.l2]
        rw [ev_neg (by omega)]
        exact Ev.now _
      · intro i s hi hs
        have es : (s ++ [rd (evenB kind low high) (i : Int)]).length = s.length + 1 := by simp
        refine ⟨?_, ?_⟩
        · by_cases c : i < (oddB kind low high).length
          · simp only [if_pos c, List.length_append, List.length_cons, List.length_nil]
            omega
          · simp only [if_neg c, List.length_append, List.length_cons, List.length_nil]
            omega
        · rw [ev_shift]
          simp only [impl_liftBack.l2]
          rw [ev_pos (by omega), ev_pos (by omega), ev_pos (by omega), ev_pos (by omega), ev_sbind, w64 (n := (i : Int) + 1) (by omega) (by omega)]
          by_cases c : i < (oddB kind low high).length
          · rw [ev_pos (by omega), ev_pos (by omega), if_pos c]
          · rw [ev_neg (by omega), if_neg c]
    · intro i s hi hs hr
      rw [ev_shift]
      simp only [impl_liftBack.l1]
      rw [implGuess_eq kind (evenB kind low high) i (by omega) (by omega), ev_pos (by omega), ev_pos (by omega), ev_pos (by omega), w64 (n := (i : Int) + 1) (by omega) (by omega), hr, Int.toNat_natCast]
      exact Iff.rfl
  · intro i s hi hs hr
    rw [ev_shift]
    simp only [impl_liftBack.l0]
    rw [implMore_eq kind high i (by omega) (by omega), ev_pos (by omega), ev_pos (by omega), ev_pos (by omega), w64 (n := (i : Int) + 1) (by omega) (by omega), hr, Int.toNat_natCast]
    exact Iff.rfl


theorem specBackW_ev (kind : Int) (low high : List Int) (hl : low.length ≤ 1000000) (h0 : high.length ≤ low.length) (h1 : low.length ≤ high.length + 1) (hw : ∀ j : Int, -9223372036854775808 ≤ rd high j ∧ rd high j ≤ 9223372036854775807) : Ev (fun k => spec_l9Back.f k kind low high) (backV kind low high) := by
  unfold spec_l9Back.f
  rw [push_loop (fun k s i => spec_l9Back.l0 k kind low high s i) low.length (fun i => wrap64 (rd low (i : Int) - moreV kind high (i : Int)))]
  · have eE : (tab low.length fun i => wrap64 (rd low (i : Int) - moreV kind high (i : Int))) = evenB kind low high := rfl
    have lE : (evenB kind low high).length = low.length := by simp [evenB]
    have lO : (oddB kind low high).length = high.length := by simp [oddB]
    rw [eE, ev_shift]
    simp only [spec_l9Back.l0]
    rw [ev_neg (by omega)]
    have h := for_iff (fun k s i => spec_l9Back.l1 k kind high (evenB kind low high) s i) (fun i s => if i < (oddB kind low high).length then (s ++ [rd (evenB kind low high) (i : Int)]) ++ [rd (oddB kind low high) (i : Int)] else s ++ [rd (evenB kind low high) (i : Int)]) (fun i s => s.length ≤ 2 * i) (evenB kind low high).length (backV kind low high) ?_ [] (by simp)
    · rw [h.2, ev_shift]
      simp only [spec_l9Back.l1]
      rw [ev_neg (by omega)]
      exact Ev.now _
    · intro i s hi hs
      have es : (s ++ [rd (evenB kind low high) (i : Int)]).length = s.length + 1 := by simp
      refine ⟨?_, ?_⟩
      · by_cases c : i < (oddB kind low high).length
        · simp only [if_pos c, List.length_append, List.length_cons, List.length_nil]
          omega
        · simp only [if_neg c, List.length_append, List.length_cons, List.length_nil]
          omega
      · rw [ev_shift]
        simp only [spec_l9Back.l1]
        rw [ev_pos (by omega), ev_pos (by omega), ev_pos (by omega), ev_sbind, w64 (n := (i : Int) + 1) (by omega) (by omega)]
        by_cases c : i < (oddB kind low high).length
        · have er : rd (oddB kind low high) (i : Int) = wrap64 (rd high (i : Int) + guessV kind (evenB kind low high) (i : Int)) := by
            unfold oddB
            rw [rd_tab' (by omega)]
          rw [ev_pos (by omega), specGuess_eq kind (evenB kind low high) i (by omega) (by omega), ev_sbind, ev_pos (by omega), if_pos c, er]
        · rw [ev_neg (by omega), if_neg c]
  · intro i s hi hs
    rw [ev_shift]
    simp only [spec_l9Back.l0]
    have hm := specMend_ev kind high i (by omega) (by omega) hw
    rw [ev_pos (by omega), ev_pos (by omega), ev_bind hm, ev_pos (by omega), w64 (n := (i : Int) + 1) (by omega) (by omega)]


def ok64 (l : List Int) : Prop := ∀ i : Nat, i < l.length → wrap64 (rd l (i : Int)) = rd l (i : Int)
theorem ok64_tab (n : Nat) (g : Nat → Int) : ok64 (tab n fun i => wrap64 (g i)) := by
  intro i hi
  rw [tab_length] at hi
  rw [rd_tab' hi]
  have := wrap_range (g i)
  exact w64 this.1 this.2
theorem ok64_sig {l : List Int} (h : inB 8000000000 l = true) : ok64 l := by
  intro i _
  have := inB_rd h (by omega) (i : Int)
  exact w64 (by omega) (by omega)
theorem even_back (kind : Int) (l : List Int) (h : ok64 l) : evenB kind (lowV kind l) (highV kind l) = evenV l := by
  unfold evenB
  rw [lowV_length]
  conv => rhs; unfold evenV
  refine tab_congr fun i hi => ?_
  have e : rd (lowV kind l) (i : Int) = wrap64 (rd (evenV l) (i : Int) + moreV kind (highV kind l) (i : Int)) := by
    unfold lowV
    rw [rd_tab' (by rw [evenV_length]; exact hi)]
  have e2 : rd (evenV l) (i : Int) = rd l ((2 * i : Nat) : Int) := by
    unfold evenV
    rw [rd_tab' hi]
  rw [e, wrap_sub_l, Int.add_sub_cancel, e2]
  exact h _ (by omega)
theorem odd_back (kind : Int) (l : List Int) (h : ok64 l) : oddB kind (lowV kind l) (highV kind l) = oddV l := by
  unfold oddB
  rw [even_back kind l h, highV_length]
  conv => rhs; unfold oddV
  refine tab_congr fun i hi => ?_
  have e : rd (highV kind l) (i : Int) = wrap64 (rd (oddV l) (i : Int) - guessV kind (evenV l) (i : Int)) := by
    unfold highV
    rw [rd_tab' (by rw [oddV_length]; exact hi)]
  have e2 : rd (oddV l) (i : Int) = rd l ((2 * i + 1 : Nat) : Int) := by
    unfold oddV
    rw [rd_tab' hi]
  rw [e, wrap_add_l, Int.sub_add_cancel, e2]
  exact h _ (by omega)
theorem inter_split (l : List Int) : interV (evenV l) (oddV l) = l := by
  unfold interV
  rw [evenV_length, oddV_length]
  have := iter_inv (f := fun i s => if i < l.length / 2 then (s ++ [rd (evenV l) (i : Int)]) ++ [rd (oddV l) (i : Int)] else s ++ [rd (evenV l) (i : Int)]) (fun i (s : List Int) => s = tab (min (2 * i) l.length) fun j => rd l (j : Int)) ((l.length + 1) / 2) [] (by simp [tab]) fun i s hi hs => by
    have e2 : rd (evenV l) (i : Int) = rd l ((2 * i : Nat) : Int) := by
      unfold evenV
      rw [rd_tab' hi]
    have m1 : min (2 * i) l.length = 2 * i := by omega
    rw [m1] at hs
    by_cases c : i < l.length / 2
    · have e3 : rd (oddV l) (i : Int) = rd l ((2 * i + 1 : Nat) : Int) := by
        unfold oddV
        rw [rd_tab' c]
      have m2 : min (2 * (i + 1)) l.length = 2 * i + 1 + 1 := by omega
      simp only [if_pos c]
      rw [hs, e2, e3, m2, tab_succ, tab_succ]
    · have m2 : min (2 * (i + 1)) l.length = 2 * i + 1 := by omega
      simp only [if_neg c]
      rw [hs, e2, m2, tab_succ]
  rw [this]
  have m : min (2 * ((l.length + 1) / 2)) l.length = l.length := by omega
  rw [m, tab_rd]
theorem back_once (kind : Int) (l : List Int) (h : ok64 l) : backV kind (lowV kind l) (highV kind l) = l := by
  unfold backV
  rw [even_back kind l h, odd_back kind l h, inter_split]


theorem within_ev (l : List Int) (m : Int) (hl : l.length ≤ 2000000) (h0 : 0 ≤ m) (h1 : m ≤ 1000000000000) : Ev (fun k => impl_within.f k l m) (inB m l) := by
  unfold impl_within.f
  rw [inB_range]
  rw [all_iff (fun k i => impl_within.l0 k m l (l.length : Int) i) (fun i => decide (-m ≤ rd l (i : Int)) && decide (rd l (i : Int) ≤ m)) l.length _ false]
  · split
    · rename_i hp
      rw [hp]
      exact Ev.step (fun k => by simp only [impl_within.l0]; rw [if_neg (by omega)]) (Ev.now _)
    · rename_i hp
      simpa using hp
  · intro i hi
    by_cases p : -m ≤ rd l (i : Int) ∧ rd l (i : Int) ≤ m
    · rw [if_pos (by simpa using p)]
      rw [ev_shift]
      simp only [impl_within.l0]
      rw [ev_pos (by omega), ev_pos (by omega), ev_pos (by omega), w64 (n := -m) (by omega) (by omega), ev_neg (by omega), ev_neg (by omega), w64 (by omega) (by omega)]
    · rw [if_neg (by simpa using p)]
      rw [ev_shift]
      simp only [impl_within.l0]
      rw [ev_pos (by omega), ev_pos (by omega), ev_pos (by omega), w64 (n := -m) (by omega) (by omega)]
      by_cases q : rd l (i : Int) < -m
      · rw [ev_pos q, ev_some_iff]
      · rw [ev_neg q, ev_pos (by omega), ev_some_iff]

theorem l1In_eq (a b c : Int) : spec_l1In.f a b c = some (decide (b ≤ a ∧ a ≤ c)) := by
  unfold spec_l1In.f
  by_cases h : a ≥ b
  · rw [if_pos h]
    congr 1
    rw [decide_eq_decide]
    omega
  · rw [if_neg h]
    congr 1
    symm
    rw [decide_eq_false_iff_not]
    omega

theorem l9Wide_ev (l : List Int) (m : Int) (hl : l.length ≤ 2000000) (h0 : 0 ≤ m) (h1 : m ≤ 1000000000000) : Ev (fun k => spec_l9Wide.f k l m) (inB m l) := by
  unfold spec_l9Wide.f
  rw [inB_range]
  rw [all_iff (fun k i => spec_l9Wide.l0 k l m i) (fun i => decide (-m ≤ rd l (i : Int)) && decide (rd l (i : Int) ≤ m)) l.length _ false]
  · split
    · rename_i hp
      rw [hp]
      exact Ev.step (fun k => by simp only [spec_l9Wide.l0]; rw [if_neg (by omega)]) (Ev.now _)
    · rename_i hp
      simpa using hp
  · intro i hi
    by_cases p : -m ≤ rd l (i : Int) ∧ rd l (i : Int) ≤ m
    · rw [if_pos (by simpa using p)]
      rw [ev_shift]
      simp only [spec_l9Wide.l0]
      rw [ev_pos (by omega), ev_pos (by omega), w64 (n := -m) (by omega) (by omega), l1In_eq]
      simp only [Option.bind_some]
      rw [ev_pos (by simpa using p), w64 (by omega) (by omega)]
    · rw [if_neg (by simpa using p)]
      rw [ev_shift]
      simp only [spec_l9Wide.l0]
      rw [ev_pos (by omega), ev_pos (by omega), w64 (n := -m) (by omega) (by omega), l1In_eq]
      simp only [Option.bind_some]
      rw [ev_neg (by simpa using p), ev_some_iff]


theorem l9Kind_eq (a : Int) : spec_l9Kind.f a = some (decide (1 ≤ a ∧ a ≤ 3)) := by
  unfold spec_l9Kind.f
  rw [l1In_eq]
  rfl

/-! ### the cursor of a draw -/
def CurOk (b : List Int) (i : Int) : Prop := 0 ≤ i ∧ i ≤ (b.length : Int) ∧ b.length ≤ 2000000
theorem l1New_ev (b : List Int) (hb : b.length ≤ 2000000) : ∃ h, Ev (fun k => spec_l1New.f k b) (b, 0, h) := by
  unfold spec_l1New.f
  refine ⟨iter (fun i h => Go.bits .and .i64 (wrap64 ((wrap64 ((wrap64 (h * 131)) + (wrap64 (rd b (i : Int))))) + 7)) 1073741823) (min b.length 4000) (wrap64 (71933 + (b.length : Int))), ?_⟩
  rw [(for_iff (fun k h i => spec_l1New.l0 k b h i) (fun i h => Go.bits .and .i64 (wrap64 ((wrap64 ((wrap64 (h * 131)) + (wrap64 (rd b (i : Int))))) + 7)) 1073741823) (fun _ _ => True) (min b.length 4000) _ ?_ _ trivial).2]
  · rw [ev_shift]
    simp only [spec_l1New.l0]
    by_cases h : ((min b.length 4000 : Nat) : Int) < (b.length : Int)
    · rw [ev_pos h, ev_neg (by omega)]
      exact Ev.now _
    · rw [ev_neg h]
      exact Ev.now _
  · intro i s hi _
    refine ⟨trivial, ?_⟩
    rw [ev_shift]
    simp only [spec_l1New.l0]
    rw [ev_pos (by omega), ev_pos (by omega), ev_pos (by omega), w64 (n := (i : Int) + 1) (by omega) (by omega)]
theorem l1Byte_ok (b : List Int) (i h : Int) (hc : CurOk b i) : ∃ x i' h', spec_l1Byte.f b i h = some (x, i', h') ∧ CurOk b i' ∧ 0 ≤ x ∧ x ≤ 255 := by
  obtain ⟨h0, h1, h2⟩ := hc
  unfold spec_l1Byte.f
  by_cases c : i < (b.length : Int)
  · rw [if_pos c, if_pos h0]
    have := band_range
    refine ⟨_, _, _, rfl, ⟨?_, ?_, h2⟩, (band_range _ 255 (by omega) (by omega)).1, (band_range _ 255 (by omega) (by omega)).2⟩
    · rw [w64 (by omega) (by omega)]; omega
    · rw [w64 (by omega) (by omega)]; omega
  · rw [if_neg c]
    exact ⟨_, _, _, rfl, ⟨h0, h1, h2⟩, (band_range _ 255 (by omega) (by omega)).1, (band_range _ 255 (by omega) (by omega)).2⟩
theorem l1Below_ok (b : List Int) (i h n : Int) (hc : CurOk b i) : ∃ x i' h', spec_l1Below.f b i h n = some (x, i', h') ∧ CurOk b i' ∧ 0 ≤ x ∧ (0 < n → x < n) ∧ (n ≤ 0 → x = 0) := by
  unfold spec_l1Below.f
  by_cases c : n ≤ 0
  · rw [if_pos c]
    exact ⟨_, _, _, rfl, hc, by omega, by omega, fun _ => rfl⟩
  · rw [if_neg c]
    by_cases d : n ≤ 256
    · rw [if_pos d]
      obtain ⟨x, i1, h1, e, hc1, hx0, hx1⟩ := l1Byte_ok b i h hc
      rw [e]
      simp only [Option.bind_some]
      rw [if_neg (by omega)]
      refine ⟨_, _, _, rfl, hc1, ?_, fun _ => ?_, fun h => absurd h c⟩
      · exact Int.tmod_nonneg _ hx0
      · exact Int.tmod_lt_of_pos _ (by omega)
    · rw [if_neg d]
      obtain ⟨x, i1, h1, e, hc1, hx0, hx1⟩ := l1Byte_ok b i h hc
      rw [e]
      simp only [Option.bind_some]
      obtain ⟨y, i2, h2, e, hc2, hy0, hy1⟩ := l1Byte_ok b i1 h1 hc1
      rw [e]
      simp only [Option.bind_some]
      obtain ⟨z, i3, h3, e, hc3, hz0, hz1⟩ := l1Byte_ok b i2 h2 hc2
      rw [e]
      simp only [Option.bind_some]
      obtain ⟨w, i4, h4, e, hc4, hw0, hw1⟩ := l1Byte_ok b i3 h3 hc3
      rw [e]
      simp only [Option.bind_some]
      rw [if_neg (by omega)]
      refine ⟨_, _, _, rfl, hc4, ?_, fun _ => ?_, fun h => absurd h c⟩
      · refine Int.tmod_nonneg _ ?_
        rw [w64 (n := x * 16777216) (by omega) (by omega), w64 (n := y * 65536) (by omega) (by omega), w64 (n := z * 256) (by omega) (by omega), w64 (n := x * 16777216 + y * 65536) (by omega) (by omega), w64 (n := x * 16777216 + y * 65536 + z * 256) (by omega) (by omega), w64 (by omega) (by omega)]
        omega
      · exact Int.tmod_lt_of_pos _ (by omega)
theorem l1Once_ok (b : List Int) (i h n : Int) (hc : CurOk b i) : ∃ t i' h', spec_l1Once.f b i h n = some (t, i', h') ∧ CurOk b i' := by
  unfold spec_l1Once.f
  obtain ⟨x, i1, h1, e, hc1, _⟩ := l1Below_ok b i h n hc
  rw [e]
  exact ⟨_, _, _, rfl, hc1⟩

theorem l1PickInt_ok (b : List Int) (i h : Int) (l : List Int) (hl : 0 < l.length) (hc : CurOk b i) : ∃ x i' h', spec_l1PickInt.f b i h l = some (x, i', h') ∧ CurOk b i' ∧ x ∈ l := by
  unfold spec_l1PickInt.f
  obtain ⟨x, i1, h1, e, hc1, h0, hx, _⟩ := l1Below_ok b i h (l.length : Int) hc
  rw [e]
  simp only [Option.bind_some]
  have := hx (by omega)
  rw [if_pos h0, if_pos this]
  exact ⟨_, _, _, rfl, hc1, rd_mem h0 this⟩

theorem l5DrawSample_ok (b : List Int) (i h : Int) (hc : CurOk b i) : ∃ x i' h', spec_l5DrawSample.f b i h = some (x, i', h') ∧ CurOk b i' ∧ -1000000000 ≤ x ∧ x ≤ 1000000000 := by
  unfold spec_l5DrawSample.f
  obtain ⟨x, i1, h1, e, hc1, h0, hx, _⟩ := l1Below_ok b i h 5 hc
  rw [e]
  simp only [Option.bind_some]
  by_cases c0 : x = 0
  · rw [if_pos c0]
    obtain ⟨y, i2, h2, e, hc2, hy0, hy, _⟩ := l1Below_ok b i1 h1 21 hc1
    rw [e]
    simp only [Option.bind_some]
    have := hy (by omega)
    exact ⟨_, _, _, rfl, hc2, by rw [w64 (by omega) (by omega)]; omega, by rw [w64 (by omega) (by omega)]; omega⟩
  · rw [if_neg c0]
    have last : ∀ i1 h1, CurOk b i1 → ∃ x i' h', ((spec_l1Below.f b i1 h1 2001).bind fun t => (some (wrap64 (t.1 - 1000), t.2.1, t.2.2))) = some (x, i', h') ∧ CurOk b i' ∧ -1000000000 ≤ x ∧ x ≤ 1000000000 := by
      intro i1 h1 hc1
      obtain ⟨y, i2, h2, e, hc2, hy0, hy, _⟩ := l1Below_ok b i1 h1 2001 hc1
      rw [e]
      simp only [Option.bind_some]
      have := hy (by omega)
      exact ⟨_, _, _, rfl, hc2, by rw [w64 (by omega) (by omega)]; omega, by rw [w64 (by omega) (by omega)]; omega⟩
    by_cases c1 : x = 1
    · rw [if_pos c1]
      obtain ⟨y, i2, h2, e, hc2, hy0, hy, _⟩ := l1Below_ok b i1 h1 65536 hc1
      rw [e]
      simp only [Option.bind_some]
      have := hy (by omega)
      exact ⟨_, _, _, rfl, hc2, by rw [w64 (by omega) (by omega)]; omega, by rw [w64 (by omega) (by omega)]; omega⟩
    · rw [if_neg c1]
      by_cases c2 : x = 2
      · rw [if_pos c2]
        obtain ⟨t, i2, h2, e, hc2⟩ := l1Once_ok b i1 h1 12 hc1
        rw [e]
        simp only [Option.bind_some]
        by_cases c3 : t = true
        · rw [if_pos c3]
          obtain ⟨y, i3, h3, e, hc3, hy⟩ := l1PickInt_ok b i2 h2 [1000000000, (-1000000000), 0] (by simp) hc2
          rw [e]
          simp only [Option.bind_some]
          refine ⟨_, _, _, rfl, hc3, ?_⟩
          simp only [List.mem_cons, List.not_mem_nil, or_false] at hy
          omega
        · rw [if_neg c3]
          exact last _ _ hc2
      · rw [if_neg c2]
        exact last _ _ hc1
/-- A loop that counts down and appends what it draws. -/

theorem drawRows9 (b : List Int) (n : Int) (hn : n ≤ 1000) : ∀ (d : Nat) (s : List (List Int)) (x5 i h : Int), CurOk b i → x5 ≤ (d : Int) → s.length + d ≤ 1000 → (∀ q ∈ s, q.length ≤ 2000) →
    ∃ r i' h', Ev (fun k => spec_l9DrawRows.l0 k s n x5 b i h) (r, i', h') ∧ CurOk b i' ∧ r.length ≤ 1000 ∧ (∀ q ∈ r, q.length ≤ 2000) := by
  intro d
  induction d with
  | zero =>
    intro s x5 i h hc hx hs hq
    refine ⟨s, i, h, ?_, hc, by omega, hq⟩
    rw [ev_shift]
    simp only [spec_l9DrawRows.l0]
    rw [ev_neg (by omega)]
    exact Ev.now _
  | succ d ih =>
    intro s x5 i h hc hx hs hq
    by_cases c : x5 > 0
    · have onward : ∀ (q : List Int) (i h : Int), CurOk b i → q.length ≤ 2000 → ∃ r i' h', Ev (fun k => spec_l9DrawRows.l0 k (s ++ [q]) n (wrap64 (x5 - 1)) b i h) (r, i', h') ∧ CurOk b i' ∧ r.length ≤ 1000 ∧ (∀ q ∈ r, q.length ≤ 2000) := by
        intro q i h hc hl
        rw [w64 (by omega) (by omega)]
        refine ih (s ++ [q]) (x5 - 1) i h hc (by omega) (by simp; omega) ?_
        intro y hy
        rw [List.mem_append, List.mem_singleton] at hy
        rcases hy with hy | hy
        · exact hq y hy
        · subst hy; exact hl
      have last : ∀ (q : List Int) (i h : Int), CurOk b i → q.length ≤ 2000 → (n > 0 → 0 < q.length) → ∃ r i' h', Ev (fun k => spec_l9DrawRows.j2 k s n x5 q b i h) (r, i', h') ∧ CurOk b i' ∧ r.length ≤ 1000 ∧ (∀ q ∈ r, q.length ≤ 2000) := by
        intro q i h hc hl hp
        obtain ⟨t, i1, h1, e, hc1⟩ := l1Once_ok b i h 40 hc
        by_cases ht : t = true
        · by_cases c2 : n > 0
          · obtain ⟨x, i2, h2, e2, hc2, _⟩ := l1PickInt_ok b i1 h1 [1000000001, 8000000000, 8000000001] (by simp) hc1
            obtain ⟨r, i3, h3, e3, hr⟩ := onward (q.set (0 : Int).toNat x) i2 h2 hc2 (by rw [List.length_set]; exact hl)
            refine ⟨r, i3, h3, ?_, hr⟩
            have := hp c2
            rw [ev_shift]
            simp only [spec_l9DrawRows.j2]
            rw [e, ev_sbind, ev_pos ht, ev_pos c2, e2, ev_sbind, ev_pos (by omega), ev_pos (by omega)]
            exact e3
          · obtain ⟨r, i3, h3, e3, hr⟩ := onward q i1 h1 hc1 hl
            refine ⟨r, i3, h3, ?_, hr⟩
            rw [ev_shift]
            simp only [spec_l9DrawRows.j2]
            rw [e, ev_sbind, ev_pos ht, ev_neg c2, ev_pos (by omega)]
            exact e3
        · obtain ⟨r, i3, h3, e3, hr⟩ := onward q i1 h1 hc1 hl
          refine ⟨r, i3, h3, ?_, hr⟩
          rw [ev_shift]
          simp only [spec_l9DrawRows.j2]
          rw [e, ev_sbind, ev_neg ht, ev_pos (by omega)]
          exact e3
      have row : ∀ (m : Nat) (q : List Int) (i h : Int), CurOk b i → n - (q.length : Int) ≤ (m : Int) → q.length ≤ 1000 → ∃ r i' h', Ev (fun k => spec_l9DrawRows.l1 k s n x5 q (q.length : Int) b i h) (r, i', h') ∧ CurOk b i' ∧ r.length ≤ 1000 ∧ (∀ q ∈ r, q.length ≤ 2000) := by
        intro m
        induction m with
        | zero =>
          intro q i h hc hd hl
          obtain ⟨t, i1, h1, e, hc1⟩ := l1Once_ok b i h 40 hc
          by_cases ht : t = true
          · obtain ⟨r, i3, h3, e3, hr⟩ := last (q ++ [1]) i1 h1 hc1 (by simp; omega) (by simp)
            refine ⟨r, i3, h3, ?_, hr⟩
            rw [ev_shift]
            simp only [spec_l9DrawRows.l1]
            rw [ev_neg (by omega), e, ev_sbind, ev_pos ht, ev_pos (by omega)]
            exact e3
          · obtain ⟨r, i3, h3, e3, hr⟩ := last q i1 h1 hc1 (by omega) (by omega)
            refine ⟨r, i3, h3, ?_, hr⟩
            rw [ev_shift]
            simp only [spec_l9DrawRows.l1]
            rw [ev_neg (by omega), e, ev_sbind, ev_neg ht]
            exact e3
        | succ m ihm =>
          intro q i h hc hd hl
          by_cases c3 : (q.length : Int) < n
          · obtain ⟨x, i1, h1, e, hc1, _⟩ := l5DrawSample_ok b i h hc
            have el : (q ++ [x]).length = q.length + 1 := by simp
            obtain ⟨r, i2, h2, e2, hr⟩ := ihm (q ++ [x]) i1 h1 hc1 (by omega) (by omega)
            refine ⟨r, i2, h2, ?_, hr⟩
            have e3 : (q.length : Int) + 1 = ((q ++ [x]).length : Int) := by omega
            rw [ev_shift]
            simp only [spec_l9DrawRows.l1]
            rw [ev_pos c3, e, ev_sbind, ev_pos (by omega), w64 (by omega) (by omega), e3]
            exact e2
          · obtain ⟨t, i1, h1, e, hc1⟩ := l1Once_ok b i h 40 hc
            by_cases ht : t = true
            · obtain ⟨r, i3, h3, e3, hr⟩ := last (q ++ [1]) i1 h1 hc1 (by simp; omega) (by simp)
              refine ⟨r, i3, h3, ?_, hr⟩
              rw [ev_shift]
              simp only [spec_l9DrawRows.l1]
              rw [ev_neg (by omega), e, ev_sbind, ev_pos ht, ev_pos (by omega)]
              exact e3
            · obtain ⟨r, i3, h3, e3, hr⟩ := last q i1 h1 hc1 (by omega) (by omega)
              refine ⟨r, i3, h3, ?_, hr⟩
              rw [ev_shift]
              simp only [spec_l9DrawRows.l1]
              rw [ev_neg (by omega), e, ev_sbind, ev_neg ht]
              exact e3
      obtain ⟨r, i1, h1, e, hr⟩ := row n.toNat [] i h hc (by simp; omega) (by simp)
      refine ⟨r, i1, h1, ?_, hr⟩
      rw [ev_shift]
      simp only [spec_l9DrawRows.l0]
      rw [ev_pos c]
      exact e
    · refine ⟨s, i, h, ?_, hc, by omega, hq⟩
      rw [ev_shift]
      simp only [spec_l9DrawRows.l0]
      rw [ev_neg c]
      exact Ev.now _
theorem drawLift2_ev (b : List Int) (hb : b.length ≤ 2000000) : ∃ kind x, Ev (fun k => spec_DrawLift2.f k b) (kind, x) ∧ x.length ≤ 1000 ∧ (∀ q ∈ x, q.length ≤ 2000) := by
  unfold spec_DrawLift2.f
  obtain ⟨h, e1⟩ := l1New_ev b hb
  obtain ⟨x, i1, h1, e2, hc1, hx0, _⟩ := l1Below_ok b 0 h 40 ⟨by omega, by omega, hb⟩
  obtain ⟨n, i2, h2, e3, hc2, _, hn, _⟩ := l1Below_ok b i1 h1 7 hc1
  obtain ⟨m, i3, h3, e4, hc3, _, hm, _⟩ := l1Below_ok b i2 h2 7 hc2
  have hn' := hn (by omega)
  have hm' := hm (by omega)
  obtain ⟨r, i4, h4, e5, hc4, hr⟩ := drawRows9 b n (by omega) 10 [] m i3 h3 hc3 (by omega) (by simp) (by simp)
  refine ⟨Int.tmod x 5, r, ?_, hr⟩
  rw [ev_bind e1]
  dsimp only
  rw [e2, ev_sbind]
  dsimp only
  have e6 : Ev (fun k => spec_l9DrawRows.f k b i1 h1) (r, i4, h4) := by
    unfold spec_l9DrawRows.f
    rw [e3, ev_sbind]
    dsimp only
    rw [e4, ev_sbind]
    exact e5
  rw [ev_bind e6]
  exact Ev.now _

theorem sameInts_ev (a b : List Int) (h : a.length ≤ 2000000) : Ev (fun k => laws_sameInts.f k a b) (decide (a = b)) := by
  unfold laws_sameInts.f
  by_cases e : a.length = b.length
  · rw [ev_pos (by omega)]
    rw [all_iff (fun k i => laws_sameInts.l0 k a b i) (fun i => decide (rd a (i : Int) = rd b (i : Int))) a.length _ false]
    · split
      · rename_i hp
        have : a = b := list_ext_rd e fun i hi => by simpa using range_all.1 hp i hi
        rw [decide_eq_true this]
        exact Ev.step (fun k => by simp only [laws_sameInts.l0]; rw [if_neg (by omega)]) (Ev.now _)
      · rename_i hp
        have : ¬ a = b := fun h => hp (by subst h; rw [range_all]; simp)
        simp [this]
    · intro i hi
      by_cases p : rd a (i : Int) = rd b (i : Int)
      · rw [if_pos (by simpa using p)]
        rw [ev_shift]
        simp only [laws_sameInts.l0]
        rw [ev_pos (by omega), ev_pos (by omega), ev_pos (by omega), ev_pos p, w64 (by omega) (by omega)]
      · rw [if_neg (by simpa using p)]
        rw [ev_shift]
        simp only [laws_sameInts.l0]
        rw [ev_pos (by omega), ev_pos (by omega), ev_pos (by omega), ev_neg p, ev_some_iff]
  · rw [ev_neg (by omega)]
    have : ¬ a = b := fun h => e (by rw [h])
    simp only [this, decide_false]
    exact Ev.now _
theorem big_eq (l : List Int) : laws_big.f l = some (decide ((l.length : Int) > 1048576)) := rfl


/-! ### rows are the same as themselves -/
theorem sameRows_ev (x : List (List Int)) (hx : x.length ≤ 2000000) (hr : ∀ q ∈ x, q.length ≤ 2000000) : Ev (fun k => laws_sameRows.f k x x) true := by
  unfold laws_sameRows.f
  rw [ev_pos (by trivial)]
  have go : ∀ n j : Nat, j + n = x.length → Ev (fun k => laws_sameRows.l0 k x x (j : Int)) true := by
    intro n
    induction n with
    | zero =>
      intro j hj
      rw [ev_shift]
      simp only [laws_sameRows.l0]
      rw [ev_neg (by omega)]
      exact Ev.now _
    | succ n ih =>
      intro j hj
      rw [ev_shift]
      simp only [laws_sameRows.l0]
      rw [ev_pos (by omega), ev_pos (by omega), ev_pos (by omega), ev_bind (sameInts_ev _ _ (by
        unfold rd_L2
        rw [Int.toNat_natCast, List.getD_eq_getElem?_getD, List.getElem?_eq_getElem (by omega)]
        exact hr _ (List.getElem_mem (by omega)))), ev_pos (by simp), w64 (by omega) (by omega)]
      exact ih (j + 1) (by omega)
  exact go x.length 0 (by omega)

end Go.Proofs.Ytofegdgcafameaa.LRowP
