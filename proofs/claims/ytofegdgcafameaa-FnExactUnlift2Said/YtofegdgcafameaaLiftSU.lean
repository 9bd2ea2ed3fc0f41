/- The pure parts of FnExactUnlift2 about rows of rows. No conditions. -/
import Derived.Test.YtofegdgcafameaaQFnExactUnlift2x0
import Derived.Test.YtofegdgcafameaaQFnExactUnlift2x1
import Derived.Test.YtofegdgcafameaaQFnExactUnlift2x2
import Derived.Test.YtofegdgcafameaaQFnExactUnlift2x3
import Derived.Test.YtofegdgcafameaaQFnExactUnlift2x4
import Derived.Test.YtofegdgcafameaaQFnExactUnlift2x5
import Derived.Test.YtofegdgcafameaaQFnExactUnlift2x6
import Derived.Test.YtofegdgcafameaaQFnExactUnlift2x7
import Derived.Test.YtofegdgcafameaaQFnExactUnlift2x8
import Derived.Test.YtofegdgcafameaaBase
namespace Go.Proofs.Ytofegdgcafameaa.LiftSU
open Go.RowKit Go.Proofs.Ytofegdgcafameaa.QFnExactUnlift2 Go.Proofs.YtofegdgcafameaaW.PrintWords Go.Proofs.YtofegdgcafameaaW.PrintLast
open Go.Proofs.Ytofegdgcafameaa.Base
set_option linter.unusedVariables false
set_option linter.unusedSimpArgs false
/-! ### toIntS, eqIntS, markIntS, heldIntS -/
theorem toIntS_ev (l : List Int) (h : l.length ≤ 2000000) : Ev (fun k => laws_toIntS.f k l) l := by
  unfold laws_toIntS.f
  simp only [Int.toNat_natCast]
  rw [ev_pos (by omega), ev_pos (by omega)]
  rw [(for_iff (fun k s i => laws_toIntS.l0 k l s i) (fun i s => s.set i (rd l (i : Int))) (fun _ s => s.length = l.length) l.length l ?_ _ (by simp)).2]
  · rw [iter_store_all _ _ _ (by simp), tab_rd]
    exact Ev.step (fun k => by simp only [laws_toIntS.l0]; rw [if_neg (by omega)]) (Ev.now _)
  · intro i s hi hs
    refine ⟨by simpa using hs, ?_⟩
    rw [ev_shift]
    simp only [laws_toIntS.l0]
    rw [ev_pos (by omega), ev_pos (by omega), ev_pos (by omega), w64 (by omega) (by omega), Int.toNat_natCast]

theorem eqIntS_ev (a b : List Int) (h : a.length ≤ 2000000) : Ev (fun k => laws_eqIntS.f k a b) (decide (a = b)) := by
  unfold laws_eqIntS.f
  by_cases e : a.length = b.length
  · rw [ev_pos (by omega)]
    rw [all_iff (fun k i => laws_eqIntS.l0 k a b i) (fun i => decide (rd a (i : Int) = rd b (i : Int))) a.length _ false]
    · split
      · rename_i hp
        have : a = b := list_ext_rd e fun i hi => by simpa using range_all.1 hp i hi
        rw [decide_eq_true this]
        exact Ev.step (fun k => by simp only [laws_eqIntS.l0]; rw [if_neg (by omega)]) (Ev.now _)
      · rename_i hp
        have : ¬ a = b := fun h => hp (by subst h; rw [range_all]; simp)
        simp [this]
    · intro i hi
      by_cases p : rd a (i : Int) = rd b (i : Int)
      · rw [if_pos (by simpa using p)]
        rw [ev_shift]
        simp only [laws_eqIntS.l0]
        rw [ev_pos (by omega), ev_pos (by omega), ev_pos (by omega), ev_pos p, w64 (by omega) (by omega)]
      · rw [if_neg (by simpa using p)]
        rw [ev_shift]
        simp only [laws_eqIntS.l0]
        rw [ev_pos (by omega), ev_pos (by omega), ev_pos (by omega), ev_neg p, ev_some_iff]
  · rw [ev_neg (by omega)]
    have : ¬ a = b := fun h => e (by rw [h])
    simp only [this, decide_false]
    exact Ev.now _


theorem markIntS_ev (l : List Int) (m : Int) (h : l.length ≤ 2000000) (h0 : 0 ≤ m) (h1 : m ≤ 1000000000) :
    Ev (fun k => laws_markIntS.f k l m) (m + (l.length : Int), tab l.length (fun i => m + (i : Int))) := by
  unfold laws_markIntS.f
  rw [(for_iff (fun k (s : List Int × Int) i => laws_markIntS.l0 k s.1 s.2 i) (fun i s => (s.1.set i (m + (i : Int)), m + ((i : Int) + 1))) (fun i s => s.1.length = l.length ∧ s.2 = m + (i : Int)) l.length _ ?_ (l, m) ⟨rfl, by simp⟩).2]
  · have hI : ∀ n, n ≤ l.length → iter (fun (i : Nat) (s : List Int × Int) => (s.1.set i (m + (i : Int)), m + ((i : Int) + 1))) n (l, m) = (iter (fun i s => s.set i (m + (i : Int))) n l, m + (n : Int)) := by
      intro n
      induction n with
      | zero => intro _; simp [iter]
      | succ n ih => intro hn; rw [iter_succ, ih (by omega), iter_succ]; simp
    rw [hI _ (Nat.le_refl _), iter_store_all _ _ _ rfl]
    exact Ev.step (fun k => by simp only [laws_markIntS.l0]; rw [if_neg (by simp)]) (Ev.now _)
  · rintro i ⟨s, c⟩ hi ⟨hs, hc⟩
    simp only at hs hc
    subst hc
    refine ⟨⟨by simpa using hs, by simp⟩, ?_⟩
    rw [ev_shift]
    simp only [laws_markIntS.l0]
    rw [ev_pos (by omega), ev_pos (by omega), w64 (by omega) (by omega), w64 (by omega) (by omega), Int.toNat_natCast, Int.add_assoc]

theorem heldIntS_ev (n : Nat) (m : Int) (h : n ≤ 2000000) (h0 : 0 ≤ m) (h1 : m ≤ 1000000000) :
    Ev (fun k => laws_heldIntS.f k (tab n (fun i => m + (i : Int))) m) (m + (n : Int)) := by
  unfold laws_heldIntS.f
  rw [(for_iff (fun k (c : Int) i => laws_heldIntS.l0 k (tab n (fun i => m + (i : Int))) c i) (fun i c => m + ((i : Int) + 1)) (fun i c => c = m + (i : Int)) n _ ?_ m (by simp)).2]
  · have hI : iter (fun (i : Nat) (c : Int) => m + ((i : Int) + 1)) n m = m + (n : Int) := by
      cases n with
      | zero => simp [iter]
      | succ n => rw [iter_succ]; simp
    rw [hI]
    exact Ev.step (fun k => by simp only [laws_heldIntS.l0]; rw [if_neg (by simp)]) (Ev.now _)
  · intro i c hi hc
    refine ⟨by simp, ?_⟩
    rw [ev_shift]
    simp only [laws_heldIntS.l0, tab_length]
    rw [ev_pos (by omega), ev_pos (by omega), rd_tab' hi, ev_pos hc.symm, hc, w64 (by omega) (by omega), w64 (by omega) (by omega), Int.add_assoc]

/-! ### rows of rows -/
def tabL (n : Nat) (g : Nat → List Int) : List (List Int) := (List.range n).map g
@[simp] theorem tabL_length (n : Nat) (g : Nat → List Int) : (tabL n g).length = n := by simp [tabL]
theorem tabL_succ (n : Nat) (g : Nat → List Int) : tabL (n + 1) g = tabL n g ++ [g n] := by simp [tabL, List.range_succ]
theorem tabL_congr {n : Nat} {g h : Nat → List Int} (e : ∀ i, i < n → g i = h i) : tabL n g = tabL n h := by
  unfold tabL
  exact List.map_congr_left fun i hi => e i (List.mem_range.1 hi)
theorem rdL_tab {n : Nat} {g : Nat → List Int} {i : Nat} (h : i < n) : rd_L1 (tabL n g) (i : Int) = g i := by
  unfold rd_L1 tabL
  rw [Int.toNat_natCast, List.getD_eq_getElem?_getD, List.getElem?_map, List.getElem?_range h]
  rfl
theorem rdL_nat (x : List (List Int)) (i : Nat) : rd_L1 x (i : Int) = x.getD i [] := by simp [rd_L1]
theorem tabL_rd (x : List (List Int)) : tabL x.length (fun i => rd_L1 x (i : Int)) = x := by
  apply List.ext_getElem
  · simp
  · intro i h1 h2
    simp [tabL, rd_L1, h2]
theorem eq_tabL {x : List (List Int)} {n : Nat} {g : Nat → List Int} (hl : x.length = n) (h : ∀ i, i < n → rd_L1 x (i : Int) = g i) : x = tabL n g := by
  rw [← tabL_rd x, hl]
  exact tabL_congr h
theorem rdL_set {x : List (List Int)} {i j : Nat} {v : List Int} (hi : i < x.length) : rd_L1 (x.set i v) (j : Int) = if j = i then v else rd_L1 x (j : Int) := by
  rw [rdL_nat, rdL_nat, List.getD_eq_getElem?_getD, List.getD_eq_getElem?_getD, List.getElem?_set]
  by_cases e : i = j
  · subst e
    simp [hi]
  · rw [if_neg e, if_neg (fun h => e h.symm)]
theorem rd_setN {x : List Int} {i j : Nat} {v : Int} (hi : i < x.length) : rd (x.set i v) (j : Int) = if j = i then v else rd x (j : Int) := by
  rw [rd_nat, rd_nat, List.getD_eq_getElem?_getD, List.getD_eq_getElem?_getD, List.getElem?_set]
  by_cases e : i = j
  · subst e
    simp [hi]
  · rw [if_neg e, if_neg (fun h => e h.symm)]
theorem rdL_mem {x : List (List Int)} {i : Nat} (h : i < x.length) : rd_L1 x (i : Int) ∈ x := by
  rw [rdL_nat, List.getD_eq_getElem?_getD, List.getElem?_eq_getElem h]
  exact List.getElem_mem h
theorem tabL_set {n i : Nat} {g h : Nat → List Int} (hi : i < n) (e : ∀ j, j < n → j ≠ i → g j = h j) : (tabL n g).set i (h i) = tabL n h := by
  refine eq_tabL (by simp) fun j hj => ?_
  rw [rdL_set (by simpa using hi)]
  by_cases q : j = i
  · rw [if_pos q, q]
  · rw [if_neg q, rdL_tab hj]
    exact e j hj q
theorem tab_set {n i : Nat} {g h : Nat → Int} (hi : i < n) (e : ∀ j, j < n → j ≠ i → g j = h j) : (tab n g).set i (h i) = tab n h := by
  refine eq_tab (by simp) fun j hj => ?_
  rw [rd_setN (by simpa using hi)]
  by_cases q : j = i
  · rw [if_pos q, q]
  · rw [if_neg q, rd_tab' hj]
    exact e j hj q
/-- how many numbers lie ahead of row j -/
def off (x : List (List Int)) : Nat → Nat
  | 0 => 0
  | j + 1 => off x j + (rd_L1 x (j : Int)).length
theorem off_le (x : List (List Int)) {i j : Nat} (h : i ≤ j) : off x i ≤ off x j := by
  induction j with
  | zero => rw [Nat.le_zero.1 h]; exact Nat.le_refl _
  | succ j ih =>
    rcases Nat.lt_or_ge i (j + 1) with q | q
    · exact Nat.le_trans (ih (by omega)) (Nat.le_add_right _ _)
    · rw [show i = j + 1 by omega]
      exact Nat.le_refl _
theorem off_congr {x y : List (List Int)} (h : ∀ i : Nat, (rd_L1 x (i : Int)).length = (rd_L1 y (i : Int)).length) (j : Nat) : off x j = off y j := by
  induction j with
  | zero => rfl
  | succ j ih => rw [off, off, ih, h]
theorem len_le_off (x : List (List Int)) {i n : Nat} (h : i < n) : (rd_L1 x (i : Int)).length ≤ off x n :=
  Nat.le_trans (Nat.le_add_left _ (off x i)) (off_le x (Nat.succ_le_of_lt h))
/-- the rows filled with m, m + 1, .. one after the other -/
def markT (x : List (List Int)) (m : Int) : List (List Int) := tabL x.length fun j => tab (rd_L1 x (j : Int)).length fun i => m + (off x j : Int) + (i : Int)

theorem toIntSS_ev (x : List (List Int)) (hn : x.length ≤ 2000000) (hr : ∀ r ∈ x, r.length ≤ 2000000) : Ev (fun k => laws_toIntSS.f k x) x := by
  unfold laws_toIntSS.f
  rw [ev_pos (by omega), ev_pos (by omega), Int.toNat_natCast]
  have st : ∀ i : Nat, List (List Int) := fun i => tabL x.length fun j => if j < i then rd_L1 x (j : Int) else []
  have g := fun r => (for_iff (fun k (s : List (List Int)) i => laws_toIntSS.l0 k x s i) (fun i _ => tabL x.length fun j => if j < i + 1 then rd_L1 x (j : Int) else []) (fun i s => s = tabL x.length fun j => if j < i then rd_L1 x (j : Int) else []) x.length r (fun i s hi hs => by
    refine ⟨rfl, ?_⟩
    subst hs
    rw [ev_shift]
    simp only [laws_toIntSS.l0]
    rw [ev_pos (by omega), ev_pos (by omega), ev_bind (toIntS_ev _ (hr _ (rdL_mem hi))), ev_pos (by simp; omega), Int.toNat_natCast, w64 (by omega) (by omega)]
    have e := tabL_set (n := x.length) (i := i) (g := fun j => if j < i then rd_L1 x (j : Int) else []) (h := fun j => if j < i + 1 then rd_L1 x (j : Int) else []) hi (fun j _ hne => by
      by_cases q : j < i
      · simp only [if_pos q, if_pos (show j < i + 1 by omega)]
      · simp only [if_neg q, if_neg (show ¬ j < i + 1 by omega)])
    simp only [if_pos (Nat.lt_succ_self i)] at e
    rw [e]) (List.replicate x.length []) (eq_tabL (by simp) fun i hi => by rw [if_neg (by omega), rdL_nat, List.getD_eq_getElem?_getD, List.getElem?_replicate]; simp [hi])).2
  have h1 := (for_iff (fun k (s : List (List Int)) i => laws_toIntSS.l0 k x s i) (fun i _ => tabL x.length fun j => if j < i + 1 then rd_L1 x (j : Int) else []) (fun i s => s = tabL x.length fun j => if j < i then rd_L1 x (j : Int) else []) x.length x (fun i s hi hs => by
    refine ⟨rfl, ?_⟩
    subst hs
    rw [ev_shift]
    simp only [laws_toIntSS.l0]
    rw [ev_pos (by omega), ev_pos (by omega), ev_bind (toIntS_ev _ (hr _ (rdL_mem hi))), ev_pos (by simp; omega), Int.toNat_natCast, w64 (by omega) (by omega)]
    have e := tabL_set (n := x.length) (i := i) (g := fun j => if j < i then rd_L1 x (j : Int) else []) (h := fun j => if j < i + 1 then rd_L1 x (j : Int) else []) hi (fun j _ hne => by
      by_cases q : j < i
      · simp only [if_pos q, if_pos (show j < i + 1 by omega)]
      · simp only [if_neg q, if_neg (show ¬ j < i + 1 by omega)])
    simp only [if_pos (Nat.lt_succ_self i)] at e
    rw [e]) (List.replicate x.length []) (eq_tabL (by simp) fun i hi => by rw [if_neg (by omega), rdL_nat, List.getD_eq_getElem?_getD, List.getElem?_replicate]; simp [hi])).1
  rw [g, h1]
  have h2 : (tabL x.length fun j => if j < x.length then rd_L1 x (j : Int) else []) = x := by
    conv => rhs; rw [← tabL_rd x]
    exact tabL_congr fun i hi => by rw [if_pos hi]
  rw [h2]
  exact Ev.step (fun k => by simp only [laws_toIntSS.l0]; rw [if_neg (by omega)]) (Ev.now _)
theorem eqIntSS_ev (x : List (List Int)) (hn : x.length ≤ 2000000) (hr : ∀ r ∈ x, r.length ≤ 2000000) : Ev (fun k => laws_eqIntSS.f k x x) true := by
  unfold laws_eqIntSS.f
  rw [ev_pos rfl]
  rw [(for_iff (fun k (_ : Unit) i => laws_eqIntSS.l0 k x x i) (fun _ s => s) (fun _ _ => True) x.length true (fun i s hi _ => by
    refine ⟨trivial, ?_⟩
    rw [ev_shift]
    simp only [laws_eqIntSS.l0]
    rw [ev_pos (by omega), ev_pos (by omega), ev_pos (by omega), ev_bind (eqIntS_ev _ _ (hr _ (rdL_mem hi))), ev_pos (by simp), w64 (by omega) (by omega)]) () trivial).2]
  exact Ev.step (fun k => by simp only [laws_eqIntSS.l0]; rw [if_neg (by omega)]) (Ev.now _)
theorem heldIntSS_ev (x : List (List Int)) (m : Int) (hn : x.length ≤ 2000000) (ho : off x x.length ≤ 2000000) (h0 : 0 ≤ m) (h1 : m ≤ 1000000) : Ev (fun k => laws_heldIntSS.f k (markT x m) m) (m + (off x x.length : Int)) := by
  unfold laws_heldIntSS.f
  have hl : (markT x m).length = x.length := by simp [markT]
  have g := for_iff (fun k (c : Int) i => laws_heldIntSS.l0 k (markT x m) c i) (fun i _ => m + (off x (i + 1) : Int)) (fun i c => c = m + (off x i : Int)) x.length (m + (off x x.length : Int)) (fun i c hi hc => by
    refine ⟨rfl, ?_⟩
    subst hc
    have a1 := len_le_off x hi
    have a2 := off_le x (Nat.le_of_lt hi)
    rw [ev_shift]
    simp only [laws_heldIntSS.l0]
    rw [ev_pos (by omega), ev_pos (by omega), show rd_L1 (markT x m) (i : Int) = tab (rd_L1 x (i : Int)).length (fun j => m + (off x i : Int) + (j : Int)) from rdL_tab hi, ev_bind (heldIntS_ev _ _ (by omega) (by omega) (by omega)), ev_neg (by omega), w64 (by omega) (by omega)]
    rw [show m + (off x i : Int) + ((rd_L1 x (i : Int)).length : Int) = m + (off x (i + 1) : Int) by rw [off]; omega]) m (by simp [off])
  rw [g.2, g.1]
  exact Ev.step (fun k => by simp only [laws_heldIntSS.l0]; rw [if_neg (by omega)]) (Ev.now _)
theorem szIntSS_ev (x : List (List Int)) (hn : x.length ≤ maxLen) (hr : ∀ r ∈ x, r.length ≤ maxLen) : ∃ v, Ev (fun k => laws_szIntSS.f k x 1048576) v ∧ (0 ≤ v → x.length + off x x.length ≤ 1048576) := by
  unfold maxLen at hn hr
  unfold laws_szIntSS.f
  rw [w64 (by omega) (by omega)]
  by_cases h : (1048576 : Int) - (x.length : Int) < 0
  · exact ⟨-1, by rw [ev_pos h]; exact Ev.now _, by omega⟩
  · have go : ∀ n j : Nat, j + n = x.length → (x.length + off x j : Int) ≤ 1048576 → ∃ v, Ev (fun k => laws_szIntSS.l0 k x (1048576 - (x.length : Int) - (off x j : Int)) (j : Int)) v ∧ (0 ≤ v → x.length + off x x.length ≤ 1048576) := by
      intro n
      induction n with
      | zero =>
        intro j hj hb
        refine ⟨1048576 - (x.length : Int) - (off x j : Int), ?_, fun _ => by rw [show x.length = j by omega] at hb ⊢; omega⟩
        rw [ev_shift]
        simp only [laws_szIntSS.l0]
        rw [ev_neg (by omega)]
        exact Ev.now _
      | succ n ih =>
        intro j hj hb
        have hlen := hr _ (rdL_mem (x := x) (i := j) (by omega))
        have eoff : off x (j + 1) = off x j + (rd_L1 x (j : Int)).length := rfl
        by_cases q : (1048576 - (x.length : Int) - (off x j : Int)) - ((rd_L1 x (j : Int)).length : Int) < 0
        · refine ⟨-1, ?_, by omega⟩
          rw [ev_shift]
          simp only [laws_szIntSS.l0, laws_szIntS.f]
          rw [ev_pos (by omega), ev_pos (by omega), w64 (by omega) (by omega), if_pos q, ev_sbind, ev_pos (by omega)]
          exact Ev.now _
        · obtain ⟨v, e, hv⟩ := ih (j + 1) (by omega) (by omega)
          refine ⟨v, ?_, hv⟩
          rw [ev_shift]
          simp only [laws_szIntSS.l0, laws_szIntS.f]
          rw [ev_pos (by omega), ev_pos (by omega), w64 (by omega) (by omega), if_neg q, ev_sbind, ev_neg q, w64 (by omega) (by omega)]
          rw [show (1048576 - (x.length : Int) - (off x j : Int)) - ((rd_L1 x (j : Int)).length : Int) = 1048576 - (x.length : Int) - (off x (j + 1) : Int) by omega]
          exact e
    obtain ⟨v, e, hv⟩ := go x.length 0 (by omega) (by simp [off]; omega)
    refine ⟨v, ?_, hv⟩
    rw [ev_neg h]
    simpa [off] using e

end Go.Proofs.Ytofegdgcafameaa.LiftSU
