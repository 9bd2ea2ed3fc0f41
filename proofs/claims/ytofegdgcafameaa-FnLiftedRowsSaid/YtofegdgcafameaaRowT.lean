/- Rows of rows, of lists alone. -/
import Derived.Test.YtofegdgcafameaaBase
namespace Go.Proofs.Ytofegdgcafameaa.RowT
open Go.RowKit Go.Proofs.YtofegdgcafameaaW.PrintWords Go.Proofs.Ytofegdgcafameaa.Base
set_option linter.unusedVariables false
set_option linter.unusedSimpArgs false
def rd_L1 (xs : List (List Int)) (i : Int) : (List Int) := xs.getD i.toNat ([] : List Int)
/-! ### rows of rows -/
def tabL (n : Nat) (g : Nat → List Int) : List (List Int) := (List.range n).map g
@[simp] theorem tabL_length (n : Nat) (g : Nat → List Int) : (tabL n g).length = n := by simp [tabL]
theorem tabL_succ (n : Nat) (g : Nat → List Int) : tabL (n + 1) g = tabL n g ++ [g n] := by simp [tabL, List.range_succ]
theorem tabL_congr {n : Nat} {g h : Nat → List Int} (e : ∀ i, i < n → g i = h i) : tabL n g = tabL n h := by
  unfold tabL
  exact List.map_congr_left fun i hi => e i (List.mem_range.1 hi)
theorem rdL_tab {n : Nat} {g : Nat → List Int} {i : Nat} (h : i < n) : rd_L1 (tabL n g) (i : Int) = g i := by
  unfold rd_L1 tabL
  rw [Int.toNat_natCast, List.getD_eq_getElem?_getD, List.getElem?_map, List.getElem?_range h]
  rfl
theorem rdL_nat (x : List (List Int)) (i : Nat) : rd_L1 x (i : Int) = x.getD i [] := by simp [rd_L1]
theorem tabL_rd (x : List (List Int)) : tabL x.length (fun i => rd_L1 x (i : Int)) = x := by
  apply List.ext_getElem
  · simp
  · intro i h1 h2
    simp [tabL, rd_L1, h2]
theorem eq_tabL {x : List (List Int)} {n : Nat} {g : Nat → List Int} (hl : x.length = n) (h : ∀ i, i < n → rd_L1 x (i : Int) = g i) : x = tabL n g := by
  rw [← tabL_rd x, hl]
  exact tabL_congr h
theorem rdL_set {x : List (List Int)} {i j : Nat} {v : List Int} (hi : i < x.length) : rd_L1 (x.set i v) (j : Int) = if j = i then v else rd_L1 x (j : Int) := by
  rw [rdL_nat, rdL_nat, List.getD_eq_getElem?_getD, List.getD_eq_getElem?_getD, List.getElem?_set]
  by_cases e : i = j
  · subst e
    simp [hi]
  · rw [if_neg e, if_neg (fun h => e h.symm)]
theorem rd_setN {x : List Int} {i j : Nat} {v : Int} (hi : i < x.length) : rd (x.set i v) (j : Int) = if j = i then v else rd x (j : Int) := by
  rw [rd_nat, rd_nat, List.getD_eq_getElem?_getD, List.getD_eq_getElem?_getD, List.getElem?_set]
  by_cases e : i = j
  · subst e
    simp [hi]
  · rw [if_neg e, if_neg (fun h => e h.symm)]
theorem rdL_mem {x : List (List Int)} {i : Nat} (h : i < x.length) : rd_L1 x (i : Int) ∈ x := by
  rw [rdL_nat, List.getD_eq_getElem?_getD, List.getElem?_eq_getElem h]
  exact List.getElem_mem h
theorem tabL_set {n i : Nat} {g h : Nat → List Int} (hi : i < n) (e : ∀ j, j < n → j ≠ i → g j = h j) : (tabL n g).set i (h i) = tabL n h := by
  refine eq_tabL (by simp) fun j hj => ?_
  rw [rdL_set (by simpa using hi)]
  by_cases q : j = i
  · rw [if_pos q, q]
  · rw [if_neg q, rdL_tab hj]
    exact e j hj q
theorem tab_set {n i : Nat} {g h : Nat → Int} (hi : i < n) (e : ∀ j, j < n → j ≠ i → g j = h j) : (tab n g).set i (h i) = tab n h := by
  refine eq_tab (by simp) fun j hj => ?_
  rw [rd_setN (by simpa using hi)]
  by_cases q : j = i
  · rw [if_pos q, q]
  · rw [if_neg q, rd_tab' hj]
    exact e j hj q
/-- how many numbers lie ahead of row j -/
def off (x : List (List Int)) : Nat → Nat
  | 0 => 0
  | j + 1 => off x j + (rd_L1 x (j : Int)).length
theorem off_le (x : List (List Int)) {i j : Nat} (h : i ≤ j) : off x i ≤ off x j := by
  induction j with
  | zero => rw [Nat.le_zero.1 h]; exact Nat.le_refl _
  | succ j ih =>
    rcases Nat.lt_or_ge i (j + 1) with q | q
    · exact Nat.le_trans (ih (by omega)) (Nat.le_add_right _ _)
    · rw [show i = j + 1 by omega]
      exact Nat.le_refl _
theorem off_congr {x y : List (List Int)} (h : ∀ i : Nat, (rd_L1 x (i : Int)).length = (rd_L1 y (i : Int)).length) (j : Nat) : off x j = off y j := by
  induction j with
  | zero => rfl
  | succ j ih => rw [off, off, ih, h]
theorem len_le_off (x : List (List Int)) {i n : Nat} (h : i < n) : (rd_L1 x (i : Int)).length ≤ off x n :=
  Nat.le_trans (Nat.le_add_left _ (off x i)) (off_le x (Nat.succ_le_of_lt h))
/-- the rows filled with m, m + 1, .. one after the other -/
def markT (x : List (List Int)) (m : Int) : List (List Int) := tabL x.length fun j => tab (rd_L1 x (j : Int)).length fun i => m + (off x j : Int) + (i : Int)
def eachT (F : List Int → List Int) (x : List (List Int)) : List (List Int) := tabL x.length fun i => F (rd_L1 x (i : Int))
def colT (x : List (List Int)) (c : Nat) : List Int := tab x.length fun i => rd (rd_L1 x (i : Int)) (c : Int)
def colsT (F : List Int → List Int) (x : List (List Int)) : List (List Int) := tabL x.length fun i => tab (rd_L1 x 0).length fun c => rd (F (colT x c)) (i : Int)
def turnT (x : List (List Int)) : List (List Int) := tabL (rd_L1 x 0).length fun c => colT x c
def Even (x : List (List Int)) : Prop := ∀ i : Nat, i < x.length → (rd_L1 x (i : Int)).length = (rd_L1 x 0).length
def rowsB (kind : Int) (x : List (List Int)) (most : Int) : Prop := (1 ≤ kind ∧ kind ≤ 3) ∧ x.length ≤ 64 ∧ ∀ i : Nat, i < x.length → (rd_L1 x (i : Int)).length = (rd_L1 x 0).length ∧ (rd_L1 x (i : Int)).length ≤ 64 ∧ inB most (rd_L1 x (i : Int)) = true
end Go.Proofs.Ytofegdgcafameaa.RowT
