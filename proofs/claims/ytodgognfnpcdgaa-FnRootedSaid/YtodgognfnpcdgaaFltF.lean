/- Polynomials of given roots over pairs of whole numbers; the kind of a row of such pairs. -/
import Derived.Test.YtodgognfnpcdgaaFltD
namespace Go.Proofs.Ytodgognfnpcdgaa.FltF
open Go.RowKit Go.Proofs.Ytodgognfnpcdgaa.Flt Go.Proofs.Ytodgognfnpcdgaa.FltA Go.Proofs.Ytodgognfnpcdgaa.FltB Go.Proofs.Ytodgognfnpcdgaa.FltC Go.Proofs.Ytodgognfnpcdgaa.FltD Go.Proofs.YtodgognfnpcdgaaW.PrintWords
set_option linter.unusedVariables false
set_option linter.unusedSimpArgs false

def zeroC : Int × Int := (0, 0)
def oneC : Int × Int := (1, 0)
/-- xs times (x - w), and low besides -/
def mulroot (w : Int × Int) : Int × Int → List (Int × Int) → List (Int × Int)
  | low, [] => [low]
  | low, c :: cs => subC low (mulC w c) :: mulroot w c cs
def evalC (x : Int × Int) : List (Int × Int) → Int × Int
  | [] => zeroC
  | c :: cs => addC (mulC (evalC x cs) x) c
def rootsC : List (Int × Int) → List (Int × Int) → List (Int × Int)
  | xs, [] => xs
  | xs, w :: ws => rootsC (mulroot w zeroC xs) ws

theorem mulroot_length (w low : Int × Int) (xs : List (Int × Int)) : (mulroot w low xs).length = xs.length + 1 := by
  induction xs generalizing low with
  | nil => rfl
  | cons c cs ih => show (mulroot w c cs).length + 1 = _; rw [ih]; rfl
theorem mulroot_get (w low : Int × Int) (xs : List (Int × Int)) (k : Nat) (h : k < xs.length) : (mulroot w low xs)[k]? = some (subC ((low :: xs).getD k zeroC) (mulC w (xs.getD k zeroC))) := by
  induction xs generalizing low k with
  | nil => simp at h
  | cons c cs ih =>
    cases k with
    | zero => rfl
    | succ k => exact ih c k (by simpa using h)
theorem mulroot_last (w low : Int × Int) (xs : List (Int × Int)) : (mulroot w low xs)[xs.length]? = some ((low :: xs).getD xs.length zeroC) := by
  induction xs generalizing low with
  | nil => rfl
  | cons c cs ih => exact ih c
theorem mulroot_take (w low : Int × Int) (xs : List (Int × Int)) (k : Nat) (h : k < xs.length) : (mulroot w low xs).take (k + 1) = (mulroot w low xs).take k ++ [subC ((low :: xs).getD k zeroC) (mulC w (xs.getD k zeroC))] := by
  rw [List.take_add_one, mulroot_get w low xs k h]; rfl
theorem mulroot_end (w low : Int × Int) (xs : List (Int × Int)) : mulroot w low xs = (mulroot w low xs).take xs.length ++ [(low :: xs).getD xs.length zeroC] := by
  have h : (mulroot w low xs).take (xs.length + 1) = mulroot w low xs := List.take_of_length_le (by rw [mulroot_length]; exact Nat.le_refl _)
  conv => lhs; rw [← h, List.take_add_one, mulroot_last]
  simp
theorem eval_mulroot (w low x : Int × Int) (xs : List (Int × Int)) : evalC x (mulroot w low xs) = addC low (mulC (subC x w) (evalC x xs)) := by
  induction xs generalizing low with
  | nil => simp [mulroot, evalC, addC, mulC, subC, zeroC]
  | cons c cs ih =>
    show addC (mulC (evalC x (mulroot w c cs)) x) (subC low (mulC w c)) = addC low (mulC (subC x w) (addC (mulC (evalC x cs) x) c))
    rw [ih]
    generalize evalC x cs = e
    simp only [addC, mulC, subC]
    congr 1 <;> grind
theorem mulC_zero (z : Int × Int) : mulC z zeroC = zeroC := by simp [mulC, zeroC]
theorem eval_roots (x : Int × Int) (ws xs : List (Int × Int)) (h : x ∈ ws ∨ evalC x xs = zeroC) : evalC x (rootsC xs ws) = zeroC := by
  induction ws generalizing xs with
  | nil => rcases h with h | h; simp at h; exact h
  | cons w ws ih =>
    refine ih _ ?_
    by_cases hx : x ∈ ws
    · exact .inl hx
    · refine .inr ?_
      rw [eval_mulroot]
      rcases h with h | h
      · have : x = w := by simpa [hx] using h
        subst this
        simp [addC, mulC, subC, zeroC]
      · rw [h, mulC_zero]; rfl
/-- begins with 1 at its highest power -/
def Top (xs : List (Int × Int)) : Prop := ∃ ys, xs = ys ++ [oneC]
theorem top_mulroot {xs : List (Int × Int)} (h : Top xs) (w : Int × Int) : (mulroot w zeroC xs).take xs.length ++ [oneC] = mulroot w zeroC xs := by
  conv => rhs; rw [mulroot_end]
  obtain ⟨ys, rfl⟩ := h
  congr 2
  rw [← List.cons_append]
  simp [List.getD_eq_getElem?_getD]
theorem top_next {xs : List (Int × Int)} (h : Top xs) (w : Int × Int) : Top (mulroot w zeroC xs) := ⟨_, (top_mulroot h w).symm⟩
theorem roots_top (ws xs : List (Int × Int)) (h : Top xs) : Top (rootsC xs ws) := by
  induction ws generalizing xs with
  | nil => exact h
  | cons w ws ih => exact ih _ (top_next h w)
theorem roots_length (ws xs : List (Int × Int)) : (rootsC xs ws).length = xs.length + ws.length := by
  induction ws generalizing xs with
  | nil => rfl
  | cons w ws ih => show (rootsC (mulroot w zeroC xs) ws).length = _; rw [ih, mulroot_length]; simp; omega
theorem roots_snoc (xs ws : List (Int × Int)) (w : Int × Int) : rootsC xs (ws ++ [w]) = mulroot w zeroC (rootsC xs ws) := by
  induction ws generalizing xs with
  | nil => rfl
  | cons v ws ih => exact ih _

/-- all numbers at most X in size -/
def AllFit (xs : List (Int × Int)) (X : Nat) : Prop := ∀ x ∈ xs, Fits x X
theorem AllFit.get {xs : List (Int × Int)} {X : Nat} (h : AllFit xs X) (k : Nat) : Fits (xs.getD k zeroC) X := by
  rw [List.getD_eq_getElem?_getD]
  by_cases hk : k < xs.length
  · rw [List.getElem?_eq_getElem hk]; exact h _ (List.getElem_mem hk)
  · rw [List.getElem?_eq_none (by omega)]; exact ⟨Nat.zero_le _, Nat.zero_le _⟩
theorem fits_zero (X : Nat) : Fits zeroC X := ⟨Nat.zero_le _, Nat.zero_le _⟩
theorem fits_mono {z : Int × Int} {X Y : Nat} (h : Fits z X) (hX : X ≤ Y) : Fits z Y := ⟨Nat.le_trans h.1 hX, Nat.le_trans h.2 hX⟩
theorem fits_sub {a b : Int × Int} {X Y : Nat} (ha : Fits a X) (hb : Fits b Y) : Fits (subC a b) (X + Y) := by
  obtain ⟨h1, h2⟩ := ha
  obtain ⟨h3, h4⟩ := hb
  exact ⟨by show (a.1 - b.1).natAbs ≤ _; omega, by show (a.2 - b.2).natAbs ≤ _; omega⟩
theorem fits_add {a b : Int × Int} {X Y : Nat} (ha : Fits a X) (hb : Fits b Y) : Fits (addC a b) (X + Y) := by
  obtain ⟨h1, h2⟩ := ha
  obtain ⟨h3, h4⟩ := hb
  exact ⟨by show (a.1 + b.1).natAbs ≤ _; omega, by show (a.2 + b.2).natAbs ≤ _; omega⟩
theorem fits_mulroot {w low : Int × Int} {xs : List (Int × Int)} {X : Nat} (hw : Fits w 2) (hl : Fits low X) (h : AllFit xs X) : AllFit (mulroot w low xs) (5 * X) := by
  induction xs generalizing low with
  | nil =>
    intro x hx
    have : x = low := by simpa [mulroot] using hx
    subst this
    exact fits_mono hl (by omega)
  | cons c cs ih =>
    intro x hx
    have hx' : x = subC low (mulC w c) ∨ x ∈ mulroot w c cs := by simpa [mulroot] using hx
    have hc := h c (by simp)
    rcases hx' with rfl | hx'
    · exact fits_mono (fits_sub hl (fits_mul hw hc)) (by omega)
    · exact ih hc (fun y hy => h y (by simp [hy])) x hx'
theorem fits_roots {ws xs : List (Int × Int)} {X : Nat} (hw : AllFit ws 2) (h : AllFit xs X) : AllFit (rootsC xs ws) (5 ^ ws.length * X) := by
  induction ws generalizing xs X with
  | nil => simpa [rootsC] using h
  | cons w ws ih =>
    have h1 := ih (fun y hy => hw y (by simp [hy])) (fits_mulroot (hw w (by simp)) (fits_zero _) h)
    intro x hx
    refine fits_mono (h1 x hx) ?_
    rw [List.length_cons, Nat.pow_succ, Nat.mul_assoc]
    exact Nat.le_refl _
theorem evalC_drop (x : Int × Int) (xs : List (Int × Int)) (i : Nat) (h : i < xs.length) : evalC x (xs.drop i) = addC (mulC (evalC x (xs.drop (i + 1))) x) (xs.getD i zeroC) := by
  rw [List.drop_eq_getElem_cons h, List.getD_eq_getElem?_getD, List.getElem?_eq_getElem h]; rfl
theorem fits_eval {x : Int × Int} {xs : List (Int × Int)} {X : Nat} (hx : Fits x 2) (h : AllFit xs X) : Fits (evalC x xs) (5 ^ xs.length * X) := by
  induction xs with
  | nil => exact fits_zero _
  | cons c cs ih =>
    have h1 := ih (fun y hy => h y (by simp [hy]))
    refine fits_mono (fits_add (fits_mul h1 hx) (h c (by simp))) ?_
    have h5 : 1 ≤ 5 ^ cs.length := Nat.pow_pos (by omega)
    have h6 : X ≤ 5 ^ cs.length * X := Nat.le_mul_of_pos_left _ h5
    rw [List.length_cons, Nat.pow_succ, show 5 ^ cs.length * 5 * X = 5 * (5 ^ cs.length * X) by rw [Nat.mul_comm (5 ^ cs.length) 5, Nat.mul_assoc]]
    omega

/-- a row's element: a pair of floats that read as whole numbers -/
def cx : Kd (Int × Int) where
  sz := 2
  E := []
  K := fun _ z cs => ∃ p q, cs = [.float .f64 p, .float .f64 q] ∧ IsF p z.1 ∧ IsF q z.2
  M := fun _ _ _ z cs => ∃ p q, cs = [.float .f64 p, .float .f64 q] ∧ IsF p z.1 ∧ IsF q z.2
  K_len := by
    rintro w x cs ⟨p, q, rfl, _⟩
    rfl
  K_one := by
    rintro w x cs ⟨p, q, rfl, _⟩ u hu
    simp at hu
    rcases hu with rfl | rfl <;> rfl
  K_below := fun _ h => h
  K_of_M := fun h => h
  M_mono := fun _ h => h
  M_bound := fun h => h
  M_move := fun _ h => h
  M_lower := fun _ h => h

theorem cx_at {w : World} {A : Option Addr} {n : Nat} {xs : List (Int × Int)} (h : cx.C w A n xs) (i : Nat) (h1 : i < n) :
    ∃ ad p q, A = some ad ∧ IsF p (xs.getD i zeroC).1 ∧ IsF q (xs.getD i zeroC).2 ∧ w.cell? (ad.add (i * 2)) = some (.float .f64 p) ∧ w.cell? (ad.add (i * 2 + 1)) = some (.float .f64 q) := by
  obtain ⟨ad, c, e, hl, ⟨p, q, rfl, hp, hq⟩, hc⟩ := ReadsRow.get_ h zeroC i (by omega) (by omega)
  refine ⟨ad, p, q, e, ?_, ?_, ?_, ?_⟩
  · simpa using hp
  · simpa using hq
  · simpa [cx] using hc 0 _ rfl
  · simpa [cx] using hc 1 _ rfl

/-- an element, in every world that has grown from the row's -/
theorem cx_load {w : World} {A : Option Addr} {n : Nat} {xs : List (Int × Int)} (h : cx.C w A n xs) (i : Nat) (h1 : i < n) :
    ∃ ad p q, A = some ad ∧ IsF p (xs.getD i zeroC).1 ∧ IsF q (xs.getD i zeroC).2 ∧ ∀ W, Below w.heap.size w W → W.cell? (ad.add (i * 2)) = some (.float .f64 p) ∧ W.cell? ⟨(ad.add (i * 2)).block, (ad.add (i * 2)).off + 1, none⟩ = some (.float .f64 q) := by
  obtain ⟨ad, p, q, e, hp, hq, c0, c1⟩ := cx_at h i h1
  rw [add_field ad (i * 2) 1 (by omega)] at c1
  exact ⟨ad, p, q, e, hp, hq, fun W hb => ⟨(hb.cell (World.block_lt_of_cell? w _ c0)).trans c0, (hb.cell (World.block_lt_of_cell? w _ c1)).trans c1⟩⟩
end Go.Proofs.Ytodgognfnpcdgaa.FltF
