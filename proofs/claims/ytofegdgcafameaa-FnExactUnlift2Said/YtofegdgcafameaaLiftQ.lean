/- The pure parts of FnExactUnlift2 about single rows. No conditions. -/
import Derived.Test.YtofegdgcafameaaQFnExactUnlift2x0
import Derived.Test.YtofegdgcafameaaQFnExactUnlift2x1
import Derived.Test.YtofegdgcafameaaQFnExactUnlift2x2
import Derived.Test.YtofegdgcafameaaQFnExactUnlift2x3
import Derived.Test.YtofegdgcafameaaQFnExactUnlift2x4
import Derived.Test.YtofegdgcafameaaQFnExactUnlift2x5
import Derived.Test.YtofegdgcafameaaQFnExactUnlift2x6
import Derived.Test.YtofegdgcafameaaQFnExactUnlift2x7
import Derived.Test.YtofegdgcafameaaQFnExactUnlift2x8
import Derived.Test.YtofegdgcafameaaBase
namespace Go.Proofs.Ytofegdgcafameaa.LiftQ
open Go.RowKit Go.Proofs.Ytofegdgcafameaa.QFnExactUnlift2 Go.Proofs.YtofegdgcafameaaW.PrintWords Go.Proofs.YtofegdgcafameaaW.PrintLast
open Go.Proofs.Ytofegdgcafameaa.Base
set_option linter.unusedVariables false
set_option linter.unusedSimpArgs false
theorem clone_eq (l : List Int) (h : l.length ≤ 2000000) : slices_Clone_int_int.f l = some l := by
  unfold slices_Clone_int_int.f
  simp only [Option.bind_some, List.nil_append, List.length_nil]
  rw [if_pos (by omega)]

/-! ### lifting: the numbers -/
def atV (l : List Int) (i : Int) : Int := if i < 0 then rd l 0 else if i ≥ (l.length : Int) then rd l ((l.length : Int) - 1) else rd l i
def guessV (kind : Int) (e : List Int) (i : Int) : Int :=
  if kind = 1 then rd e i else if kind = 2 then (wrap64 (rd e i + atV e (i + 1))) / 2
  else (wrap64 (9 * (rd e i + atV e (i + 1)) - atV e (i - 1) - atV e (i + 2) + 8)) / 16
def moreV (kind : Int) (h : List Int) (i : Int) : Int :=
  if h.length = 0 then 0 else if kind = 1 then (if i = (h.length : Int) then 0 else rd h i / 2) else (wrap64 (atV h (i - 1) + atV h i + 2)) / 4
def evenV (l : List Int) : List Int := tab ((l.length + 1) / 2) fun j => rd l ((2 * j : Nat) : Int)
def oddV (l : List Int) : List Int := tab (l.length / 2) fun j => rd l ((2 * j + 1 : Nat) : Int)
def highV (kind : Int) (l : List Int) : List Int := tab (oddV l).length fun i => wrap64 (rd (oddV l) (i : Int) - guessV kind (evenV l) (i : Int))
def lowV (kind : Int) (l : List Int) : List Int := tab (evenV l).length fun i => wrap64 (rd (evenV l) (i : Int) + moreV kind (highV kind l) (i : Int))
@[simp] theorem evenV_length (l : List Int) : (evenV l).length = (l.length + 1) / 2 := by simp [evenV]
@[simp] theorem oddV_length (l : List Int) : (oddV l).length = l.length / 2 := by simp [oddV]
@[simp] theorem highV_length (kind : Int) (l : List Int) : (highV kind l).length = l.length / 2 := by simp [highV]
@[simp] theorem lowV_length (kind : Int) (l : List Int) : (lowV kind l).length = (l.length + 1) / 2 := by simp [lowV]
theorem split_loop {α : Type} (L : Nat → List Int → List Int → Int → Option α) (l : List Int) (r : α)
    (step : ∀ (i : Nat) (e o : List Int), i < l.length → e.length ≤ i → o.length ≤ i →
      (Ev (fun k => L k e o (i : Int)) r ↔ if i % 2 = 0 then Ev (fun k => L k (e ++ [rd l (i : Int)]) o ((i : Int) + 1)) r else Ev (fun k => L k e (o ++ [rd l (i : Int)]) ((i : Int) + 1)) r)) :
    Ev (fun k => L k [] [] 0) r ↔ Ev (fun k => L k (evenV l) (oddV l) (l.length : Int)) r := by
  have h := for_iff (fun k (s : List Int × List Int) i => L k s.1 s.2 i) (fun i s => if i % 2 = 0 then (s.1 ++ [rd l (i : Int)], s.2) else (s.1, s.2 ++ [rd l (i : Int)])) (fun i s => s = (tab ((i + 1) / 2) fun j => rd l ((2 * j : Nat) : Int), tab (i / 2) fun j => rd l ((2 * j + 1 : Nat) : Int))) l.length r (fun i s hi hs => by
    subst hs
    by_cases c : i % 2 = 0
    · refine ⟨?_, ?_⟩
      · have e1 : (i + 1 + 1) / 2 = (i + 1) / 2 + 1 := by omega
        have e2 : (i + 1) / 2 = i / 2 := by omega
        have e3 : 2 * ((i + 1) / 2) = i := by omega
        simp only [if_pos c]
        rw [e1, e2]
        refine congrArg (fun x => (x, _)) ?_
        rw [tab_succ]
        have e4 : 2 * (i / 2) = i := by omega
        rw [e4]
      · have := step i (tab ((i + 1) / 2) fun j => rd l ((2 * j : Nat) : Int)) (tab (i / 2) fun j => rd l ((2 * j + 1 : Nat) : Int)) hi (by simp; omega) (by simp; omega)
        rw [if_pos c] at this
        simpa only [if_pos c] using this
    · refine ⟨?_, ?_⟩
      · have e1 : (i + 1 + 1) / 2 = (i + 1) / 2 := by omega
        have e2 : (i + 1) / 2 = i / 2 + 1 := by omega
        have e3 : 2 * (i / 2) + 1 = i := by omega
        simp only [if_neg c]
        rw [e1]
        refine congrArg (Prod.mk _) ?_
        have e4 : (i + 1) / 2 = i / 2 + 1 := e2
        rw [e4, tab_succ, e3]
      · have := step i (tab ((i + 1) / 2) fun j => rd l ((2 * j : Nat) : Int)) (tab (i / 2) fun j => rd l ((2 * j + 1 : Nat) : Int)) hi (by simp; omega) (by simp; omega)
        rw [if_neg c] at this
        simpa only [if_neg c] using this) ([], []) rfl
  have h1 := h.1
  have h2 := h.2
  rw [h1] at h2
  exact h2
theorem tmod2 (i : Nat) : Int.tmod (i : Int) 2 = ((i % 2 : Nat) : Int) := (Int.ofNat_tmod i 2).symm
theorem wrap9 (a b c d : Int) : wrap64 (wrap64 (wrap64 (9 * wrap64 (a + b)) - wrap64 (c + d)) + 8) = wrap64 (9 * (a + b) - c - d + 8) := by
  unfold wrap64
  omega
theorem wrap9s (a b c d : Int) : wrap64 (wrap64 (wrap64 (wrap64 (9 * wrap64 (a + b)) - c) - d) + 8) = wrap64 (9 * (a + b) - c - d + 8) := by
  unfold wrap64
  omega
theorem wrap4 (a b : Int) : wrap64 (wrap64 (a + b) + 2) = wrap64 (a + b + 2) := wrap_add_l _ _
/-! putting back -/
def interV (ev od : List Int) : List Int := iter (fun i s => if i < od.length then (s ++ [rd ev (i : Int)]) ++ [rd od (i : Int)] else s ++ [rd ev (i : Int)]) ev.length []
def evenB (kind : Int) (low high : List Int) : List Int := tab low.length fun i => wrap64 (rd low (i : Int) - moreV kind high (i : Int))
def oddB (kind : Int) (low high : List Int) : List Int := tab high.length fun i => wrap64 (rd high (i : Int) + guessV kind (evenB kind low high) (i : Int))
def backV (kind : Int) (low high : List Int) : List Int := interV (evenB kind low high) (oddB kind low high)
theorem interV_length (ev od : List Int) (h : od.length ≤ ev.length) : (interV ev od).length = ev.length + od.length := by
  unfold interV
  have := iter_inv (f := fun i s => if i < od.length then (s ++ [rd ev (i : Int)]) ++ [rd od (i : Int)] else s ++ [rd ev (i : Int)]) (fun i (s : List Int) => s.length = i + min i od.length) ev.length [] (by simp) fun i s hi hs => by
    by_cases c : i < od.length
    · simp only [if_pos c, List.length_append, List.length_cons, List.length_nil, hs]
      omega
    · simp only [if_neg c, List.length_append, List.length_cons, List.length_nil, hs]
      omega
  rw [this]
  omega
theorem backV_length (kind : Int) (low high : List Int) (h : high.length ≤ low.length) : (backV kind low high).length = low.length + high.length := by
  unfold backV
  rw [interV_length _ _ (by simpa [evenB, oddB] using h)]
  simp [evenB, oddB]

theorem implAt_eq (l : List Int) (i : Int) (h0 : 0 < l.length) (hl : l.length ≤ 2000000) : impl_at.f l i = some (atV l i) := by
  unfold impl_at.f impl_nearer.f atV
  simp only [Option.bind_some]
  rw [w64 (by omega) (by omega)]
  by_cases h1 : i < 0
  · have e : mn (mx i 0) ((l.length : Int) - 1) = 0 := by unfold mn mx; rw [if_pos h1, if_neg (by omega)]
    rw [e, if_pos h1, if_pos (by omega), if_pos (by omega)]
  · by_cases h2 : i ≥ (l.length : Int)
    · have e : mn (mx i 0) ((l.length : Int) - 1) = (l.length : Int) - 1 := by unfold mn mx; rw [if_neg h1, if_pos (by omega)]
      rw [e, if_neg h1, if_pos h2, if_pos (by omega), if_pos (by omega)]
    · have e : mn (mx i 0) ((l.length : Int) - 1) = i := by unfold mn mx; rw [if_neg h1, if_neg (by omega)]
      rw [e, if_neg h1, if_neg h2, if_pos (by omega), if_pos (by omega)]
theorem implGuess_eq (kind : Int) (e : List Int) (i : Nat) (hi : i < e.length) (hl : e.length ≤ 2000000) : impl_guess.f kind e (i : Int) = some (guessV kind e (i : Int)) := by
  unfold impl_guess.f guessV
  rw [w64 (n := (i : Int) + 1) (by omega) (by omega), w64 (n := (i : Int) - 1) (by omega) (by omega), w64 (n := (i : Int) + 2) (by omega) (by omega), implAt_eq e _ (by omega) hl, implAt_eq e _ (by omega) hl, implAt_eq e _ (by omega) hl]
  simp only [Option.bind_some]
  by_cases h1 : kind = 1
  · rw [if_pos h1, if_pos h1, if_pos (by omega), if_pos (by omega)]
  · rw [if_neg h1, if_neg h1]
    by_cases h2 : kind = 2
    · rw [if_pos h2, if_pos h2, if_pos (by omega), if_pos (by omega)]
    · rw [if_neg h2, if_neg h2, if_pos (by omega), if_pos (by omega), wrap9]
theorem implMore_eq (kind : Int) (h : List Int) (i : Nat) (hi : i ≤ h.length) (hl : h.length ≤ 2000000) : impl_more.f kind h (i : Int) = some (moreV kind h (i : Int)) := by
  unfold impl_more.f moreV
  by_cases h0 : h.length = 0
  · rw [if_pos (by omega), if_pos h0]
  · rw [if_neg (by omega), if_neg h0]
    by_cases h1 : kind = 1
    · rw [if_pos h1, if_pos h1]
      by_cases h2 : (i : Int) = (h.length : Int)
      · rw [if_pos h2, if_pos h2]
      · rw [if_neg h2, if_neg h2, if_pos (by omega), if_pos (by omega)]
    · rw [if_neg h1, if_neg h1, w64 (n := (i : Int) - 1) (by omega) (by omega), implAt_eq h _ (by omega) hl, implAt_eq h _ (by omega) hl]
      simp only [Option.bind_some]
      rw [wrap4]

theorem implBack_ev (kind : Int) (low high : List Int) (hl : low.length ≤ 1000000) (h0 : high.length ≤ low.length) (h1 : low.length ≤ high.length + 1) : Ev (fun k => impl_liftBack.f k kind low high) (backV kind low high) := by
  unfold impl_liftBack.f
  rw [clone_eq low (by omega), clone_eq high (by omega), ev_sbind, ev_sbind]
  rw [map_loop (fun k s i => impl_liftBack.l0 k kind high s high (low.length : Int) i) low (fun i => wrap64 (rd low (i : Int) - moreV kind high (i : Int)))]
  · have eE : (tab low.length fun i => wrap64 (rd low (i : Int) - moreV kind high (i : Int))) = evenB kind low high := rfl
    have lE : (evenB kind low high).length = low.length := by simp [evenB]
    rw [eE, ev_shift]
    simp only [impl_liftBack.l0]
    rw [ev_neg (by omega)]
    rw [map_loop (fun k s i => impl_liftBack.l1 k kind (evenB kind low high) s (high.length : Int) i) high (fun i => wrap64 (rd high (i : Int) + guessV kind (evenB kind low high) (i : Int)))]
    · have eO : (tab high.length fun i => wrap64 (rd high (i : Int) + guessV kind (evenB kind low high) (i : Int))) = oddB kind low high := rfl
      have lO : (oddB kind low high).length = high.length := by simp [oddB]
      rw [eO, ev_shift]
      simp only [impl_liftBack.l1]
      rw [ev_neg (by omega)]
      have h := for_iff (fun k s i => impl_liftBack.l2 k (oddB kind low high) s (evenB kind low high) ((evenB kind low high).length : Int) i) (fun i s => if i < (oddB kind low high).length then (s ++ [rd (evenB kind low high) (i : Int)]) ++ [rd (oddB kind low high) (i : Int)] else s ++ [rd (evenB kind low high) (i : Int)]) (fun i s => s.length ≤ 2 * i) (evenB kind low high).length (backV kind low high) ?_ [] (by simp)
      · rw [h.2, ev_shift]
        simp only [impl_liftBack.l2]
        rw [ev_neg (by omega)]
        exact Ev.now _
      · intro i s hi hs
        have es : (s ++ [rd (evenB kind low high) (i : Int)]).length = s.length + 1 := by simp
        refine ⟨?_, ?_⟩
        · by_cases c : i < (oddB kind low high).length
          · simp only [if_pos c, List.length_append, List.length_cons, List.length_nil]
            omega
          · simp only [if_neg c, List.length_append, List.length_cons, List.length_nil]
            omega
        · rw [ev_shift]
          simp only [impl_liftBack.l2]
          rw [ev_pos (by omega), ev_pos (by omega), ev_pos (by omega), ev_pos (by omega), ev_sbind, w64 (n := (i : Int) + 1) (by omega) (by omega)]
          by_cases c : i < (oddB kind low high).length
          · rw [ev_pos (by omega), ev_pos (by omega), if_pos c]
          · rw [ev_neg (by omega), if_neg c]
    · intro i s hi hs hr
      rw [ev_shift]
      simp only [impl_liftBack.l1]
      rw [implGuess_eq kind (evenB kind low high) i (by omega) (by omega), ev_pos (by omega), ev_pos (by omega), ev_pos (by omega), w64 (n := (i : Int) + 1) (by omega) (by omega), hr, Int.toNat_natCast]
      exact Iff.rfl
  · intro i s hi hs hr
    rw [ev_shift]
    simp only [impl_liftBack.l0]
    rw [implMore_eq kind high i (by omega) (by omega), ev_pos (by omega), ev_pos (by omega), ev_pos (by omega), w64 (n := (i : Int) + 1) (by omega) (by omega), hr, Int.toNat_natCast]
    exact Iff.rfl


theorem floor_eq (a b : Int) (hb : 0 < b) (h0 : -4611686018427387904 ≤ a / b) (h1 : a / b ≤ 4611686018427387904) : spec_l5Floor.f a b = some (a / b) := by
  unfold spec_l5Floor.f
  rw [if_neg (by omega)]
  have e1 := Int.tdiv_eq_ediv (a := a) (b := b)
  have e2 := Int.tmod_eq_emod (a := a) (b := b)
  have h2 := Int.emod_nonneg a (by omega : b ≠ 0)
  have h3 := Int.emod_lt_of_pos a hb
  by_cases c : 0 ≤ a ∨ b ∣ a
  · rw [if_pos c] at e1 e2
    rw [e1, e2, if_neg (by omega), w64 (by omega) (by omega), Int.add_zero]
  · rw [if_neg c] at e1 e2
    have s : b.sign = 1 := Int.sign_eq_one_of_pos hb
    have n : (b.natAbs : Int) = b := by omega
    rw [e1, e2, if_pos (by omega), s, w64 (n := a / b + 1) (by omega) (by omega), w64 (by omega) (by omega), Int.add_sub_cancel]

theorem specAt_eq (l : List Int) (i : Int) (h0 : 0 < l.length) (hl : l.length ≤ 2000000) : spec_l9At.f l i = some (atV l i) := by
  unfold spec_l9At.f atV
  rw [w64 (by omega) (by omega)]
  by_cases h1 : i < 0
  · rw [if_pos h1, if_pos h1, if_neg (by omega), if_pos (by omega)]
  · rw [if_neg h1, if_neg h1]
    by_cases h2 : i ≥ (l.length : Int)
    · rw [if_pos h2, if_pos h2, if_pos (by omega), if_pos (by omega)]
    · rw [if_neg h2, if_neg h2, if_pos (by omega), if_pos (by omega)]
theorem specGuess_eq (kind : Int) (e : List Int) (i : Nat) (hi : i < e.length) (hl : e.length ≤ 2000000) : spec_l9Guess.f kind e (i : Int) = some (guessV kind e (i : Int)) := by
  unfold spec_l9Guess.f guessV
  rw [w64 (n := (i : Int) + 1) (by omega) (by omega), w64 (n := (i : Int) - 1) (by omega) (by omega), w64 (n := (i : Int) + 2) (by omega) (by omega), specAt_eq e _ (by omega) hl, specAt_eq e _ (by omega) hl, specAt_eq e _ (by omega) hl]
  simp only [Option.bind_some]
  by_cases h1 : kind = 1
  · rw [if_pos h1, if_pos h1, if_pos (by omega), if_pos (by omega)]
  · rw [if_neg h1, if_neg h1]
    by_cases h2 : kind = 2
    · have := wrap_range (rd e (i : Int) + atV e ((i : Int) + 1))
      rw [if_pos h2, if_pos h2, if_pos (by omega), if_pos (by omega), floor_eq _ 2 (by omega) (by omega) (by omega)]
      rfl
    · rw [if_neg h2, if_neg h2, if_pos (by omega), if_pos (by omega), wrap9s]
      have := wrap_range (9 * (rd e (i : Int) + atV e ((i : Int) + 1)) - atV e ((i : Int) - 1) - atV e ((i : Int) + 2) + 8)
      rw [floor_eq _ 16 (by omega) (by omega) (by omega)]
      rfl
theorem specMend_ev (kind : Int) (h : List Int) (i : Nat) (hi : i ≤ h.length) (hl : h.length ≤ 2000000) (hw : ∀ j : Int, -9223372036854775808 ≤ rd h j ∧ rd h j ≤ 9223372036854775807) : Ev (fun k => spec_l9Mend.f k kind h (i : Int)) (moreV kind h (i : Int)) := by
  unfold spec_l9Mend.f moreV
  by_cases h0 : h.length = 0
  · rw [ev_pos (by omega), if_pos h0, ev_shift]
    simp only [spec_l9Mend.j0, if_true]
    exact Ev.now _
  · rw [ev_neg (by omega), if_neg h0]
    by_cases h1 : kind = 1
    · rw [ev_pos h1, if_pos h1]
      by_cases h2 : (i : Int) = (h.length : Int)
      · rw [decide_eq_true (by omega), if_pos h2, ev_shift]
        simp only [spec_l9Mend.j0, if_true]
        exact Ev.now _
      · rw [decide_eq_false (by omega), if_neg h2, ev_shift]
        simp only [spec_l9Mend.j0, Bool.false_eq_true, if_false]
        have := hw (i : Int)
        rw [ev_pos h1, ev_pos (by omega), ev_pos (by omega), floor_eq _ 2 (by omega) (by omega) (by omega)]
        exact Ev.now _
    · rw [ev_neg h1, if_neg h1, ev_shift]
      simp only [spec_l9Mend.j0, Bool.false_eq_true, if_false]
      have := wrap_range (atV h ((i : Int) - 1) + atV h (i : Int) + 2)
      rw [ev_neg h1, w64 (n := (i : Int) - 1) (by omega) (by omega), specAt_eq h _ (by omega) hl, specAt_eq h _ (by omega) hl, ev_sbind, ev_sbind, wrap4, floor_eq _ 4 (by omega) (by omega) (by omega)]
      exact Ev.now _

theorem specBackW_ev (kind : Int) (low high : List Int) (hl : low.length ≤ 1000000) (h0 : high.length ≤ low.length) (h1 : low.length ≤ high.length + 1) (hw : ∀ j : Int, -9223372036854775808 ≤ rd high j ∧ rd high j ≤ 9223372036854775807) : Ev (fun k => spec_l9Back.f k kind low high) (backV kind low high) := by
  unfold spec_l9Back.f
  rw [push_loop (fun k s i => spec_l9Back.l0 k kind low high s i) low.length (fun i => wrap64 (rd low (i : Int) - moreV kind high (i : Int)))]
  · have eE : (tab low.length fun i => wrap64 (rd low (i : Int) - moreV kind high (i : Int))) = evenB kind low high := rfl
    have lE : (evenB kind low high).length = low.length := by simp [evenB]
    have lO : (oddB kind low high).length = high.length := by simp [oddB]
    rw [eE, ev_shift]
    simp only [spec_l9Back.l0]
    rw [ev_neg (by omega)]
    have h := for_iff (fun k s i => spec_l9Back.l1 k kind high (evenB kind low high) s i) (fun i s => if i < (oddB kind low high).length then (s ++ [rd (evenB kind low high) (i : Int)]) ++ [rd (oddB kind low high) (i : Int)] else s ++ [rd (evenB kind low high) (i : Int)]) (fun i s => s.length ≤ 2 * i) (evenB kind low high).length (backV kind low high) ?_ [] (by simp)
    · rw [h.2, ev_shift]
      simp only [spec_l9Back.l1]
      rw [ev_neg (by omega)]
      exact Ev.now _
    · intro i s hi hs
      have es : (s ++ [rd (evenB kind low high) (i : Int)]).length = s.length + 1 := by simp
      refine ⟨?_, ?_⟩
      · by_cases c : i < (oddB kind low high).length
        · simp only [if_pos c, List.length_append, List.length_cons, List.length_nil]
          omega
        · simp only [if_neg c, List.length_append, List.length_cons, List.length_nil]
          omega
      · rw [ev_shift]
        simp only [spec_l9Back.l1]
        rw [ev_pos (by omega), ev_pos (by omega), ev_pos (by omega), ev_sbind, w64 (n := (i : Int) + 1) (by omega) (by omega)]
        by_cases c : i < (oddB kind low high).length
        · have er : rd (oddB kind low high) (i : Int) = wrap64 (rd high (i : Int) + guessV kind (evenB kind low high) (i : Int)) := by
            unfold oddB
            rw [rd_tab' (by omega)]
          rw [ev_pos (by omega), specGuess_eq kind (evenB kind low high) i (by omega) (by omega), ev_sbind, ev_pos (by omega), if_pos c, er]
        · rw [ev_neg (by omega), if_neg c]
  · intro i s hi hs
    rw [ev_shift]
    simp only [spec_l9Back.l0]
    have hm := specMend_ev kind high i (by omega) (by omega) hw
    rw [ev_pos (by omega), ev_pos (by omega), ev_bind hm, ev_pos (by omega), w64 (n := (i : Int) + 1) (by omega) (by omega)]


theorem within_ev (l : List Int) (m : Int) (hl : l.length ≤ 2000000) (h0 : 0 ≤ m) (h1 : m ≤ 1000000000000) : Ev (fun k => impl_within.f k l m) (inB m l) := by
  unfold impl_within.f
  rw [inB_range]
  rw [all_iff (fun k i => impl_within.l0 k m l (l.length : Int) i) (fun i => decide (-m ≤ rd l (i : Int)) && decide (rd l (i : Int) ≤ m)) l.length _ false]
  · split
    · rename_i hp
      rw [hp]
      exact Ev.step (fun k => by simp only [impl_within.l0]; rw [if_neg (by omega)]) (Ev.now _)
    · rename_i hp
      simpa using hp
  · intro i hi
    by_cases p : -m ≤ rd l (i : Int) ∧ rd l (i : Int) ≤ m
    · rw [if_pos (by simpa using p)]
      rw [ev_shift]
      simp only [impl_within.l0]
      rw [ev_pos (by omega), ev_pos (by omega), ev_pos (by omega), w64 (n := -m) (by omega) (by omega), ev_neg (by omega), ev_neg (by omega), w64 (by omega) (by omega)]
    · rw [if_neg (by simpa using p)]
      rw [ev_shift]
      simp only [impl_within.l0]
      rw [ev_pos (by omega), ev_pos (by omega), ev_pos (by omega), w64 (n := -m) (by omega) (by omega)]
      by_cases q : rd l (i : Int) < -m
      · rw [ev_pos q, ev_some_iff]
      · rw [ev_neg q, ev_pos (by omega), ev_some_iff]

theorem l1In_eq (a b c : Int) : spec_l1In.f a b c = some (decide (b ≤ a ∧ a ≤ c)) := by
  unfold spec_l1In.f
  by_cases h : a ≥ b
  · rw [if_pos h]
    congr 1
    rw [decide_eq_decide]
    omega
  · rw [if_neg h]
    congr 1
    symm
    rw [decide_eq_false_iff_not]
    omega

theorem l9Wide_ev (l : List Int) (m : Int) (hl : l.length ≤ 2000000) (h0 : 0 ≤ m) (h1 : m ≤ 1000000000000) : Ev (fun k => spec_l9Wide.f k l m) (inB m l) := by
  unfold spec_l9Wide.f
  rw [inB_range]
  rw [all_iff (fun k i => spec_l9Wide.l0 k l m i) (fun i => decide (-m ≤ rd l (i : Int)) && decide (rd l (i : Int) ≤ m)) l.length _ false]
  · split
    · rename_i hp
      rw [hp]
      exact Ev.step (fun k => by simp only [spec_l9Wide.l0]; rw [if_neg (by omega)]) (Ev.now _)
    · rename_i hp
      simpa using hp
  · intro i hi
    by_cases p : -m ≤ rd l (i : Int) ∧ rd l (i : Int) ≤ m
    · rw [if_pos (by simpa using p)]
      rw [ev_shift]
      simp only [spec_l9Wide.l0]
      rw [ev_pos (by omega), ev_pos (by omega), w64 (n := -m) (by omega) (by omega), l1In_eq]
      simp only [Option.bind_some]
      rw [ev_pos (by simpa using p), w64 (by omega) (by omega)]
    · rw [if_neg (by simpa using p)]
      rw [ev_shift]
      simp only [spec_l9Wide.l0]
      rw [ev_pos (by omega), ev_pos (by omega), w64 (n := -m) (by omega) (by omega), l1In_eq]
      simp only [Option.bind_some]
      rw [ev_neg (by simpa using p), ev_some_iff]


theorem l9Kind_eq (a : Int) : spec_l9Kind.f a = some (decide (1 ≤ a ∧ a ≤ 3)) := by
  unfold spec_l9Kind.f
  rw [l1In_eq]
  rfl

theorem isLift_eq (a : Int) : impl_isLift.f a = some (decide (1 ≤ a ∧ a ≤ 3)) := by
  unfold impl_isLift.f
  by_cases h : a ≥ 1
  · rw [if_pos h]
    congr 1
    rw [decide_eq_decide]
    omega
  · rw [if_neg h]
    congr 1
    symm
    rw [decide_eq_false_iff_not]
    omega

end Go.Proofs.Ytofegdgcafameaa.LiftQ
