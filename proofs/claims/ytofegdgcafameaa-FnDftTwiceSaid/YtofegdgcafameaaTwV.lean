/- The transform both ways, of lists alone: it comes back, and rows and columns are transformed alike. -/
import Derived.Test.YtofegdgcafameaaTwP
namespace Go.Proofs.Ytofegdgcafameaa.TwV
open Go.RowKit Go.Proofs.Ytofegdgcafameaa.QFnDftTwice Go.Proofs.YtofegdgcafameaaW.PrintWords Go.Proofs.YtofegdgcafameaaW.PrintLast Go.Proofs.Ytofegdgcafameaa.Base Go.Proofs.Ytofegdgcafameaa.Mod Go.Proofs.Ytofegdgcafameaa.TwP
set_option linter.unusedVariables false
set_option linter.unusedSimpArgs false
/-- the turn of a transform of n numbers, and its scale -/
def wB (n p : Nat) (back : Bool) : Nat := if back = true then invN (unitN n p) p else unitN n p
def sB (n p : Nat) (back : Bool) : Nat := if back = true then invN n p else 1
theorem full_V (l : List Int) (p : Nat) (back : Bool) : dftFull l p back = dftV l p (wB l.length p back) (sB l.length p back) := by
  unfold dftFull wB sB
  cases back <;> simp
theorem two_sums (Y : Nat → Nat → Nat) (U V : Nat → Nat) (n m p s1 s2 : Nat) :
    sumN (fun d => (sumN (fun j => Y j d * U j) n * s2 % p) * V d) m * s1 % p = sumN (fun j => (sumN (fun d => Y j d * V d) m * s1 % p) * U j) n * s2 % p := by
  have h1 : Cg p (sumN (fun d => (sumN (fun j => Y j d * U j) n * s2 % p) * V d) m * s1) (sumN (fun d => sumN (fun j => Y j d * U j * V d) n) m * (s1 * s2)) := by
    have e : sumN (fun d => sumN (fun j => Y j d * U j * V d) n) m * (s1 * s2) = sumN (fun d => sumN (fun j => Y j d * U j) n * s2 * V d) m * s1 := by
      rw [sum_mul, sum_mul]
      refine sumN_congr fun d _ => ?_
      rw [← sum_mul]
      simp only [Nat.mul_comm, Nat.mul_left_comm, Nat.mul_assoc]
    rw [e]
    exact Cg.mul (Cg.sum fun d _ => Cg.mul (Cg.mod p _) (Cg.refl p _)) (Cg.refl p _)
  have h2 : Cg p (sumN (fun j => (sumN (fun d => Y j d * V d) m * s1 % p) * U j) n * s2) (sumN (fun j => sumN (fun d => Y j d * U j * V d) m) n * (s1 * s2)) := by
    have e : sumN (fun j => sumN (fun d => Y j d * U j * V d) m) n * (s1 * s2) = sumN (fun j => sumN (fun d => Y j d * V d) m * s1 * U j) n * s2 := by
      rw [sum_mul, sum_mul]
      refine sumN_congr fun j _ => ?_
      have : sumN (fun d => Y j d * U j * V d) m = sumN (fun d => Y j d * V d) m * U j := by
        rw [sum_mul]
        exact sumN_congr fun d _ => by simp only [Nat.mul_comm, Nat.mul_left_comm, Nat.mul_assoc]
      rw [this]
      simp only [Nat.mul_comm, Nat.mul_left_comm, Nat.mul_assoc]
    rw [e]
    exact Cg.mul (Cg.sum fun d _ => Cg.mul (Cg.mod p _) (Cg.refl p _)) (Cg.refl p _)
  rw [sum_swap (fun j d => Y j d * U j * V d) m n] at h1
  exact h1.trans h2.symm
/-- the columns' transforms, row i of them -/
def midT (x : List (List Int)) (p : Nat) (back : Bool) (i : Nat) : List Int := tab (rd_L2 x 0).length fun d => rd (dftFull (colT x d) p back) (i : Int)
theorem midT_len (x : List (List Int)) (p : Nat) (back : Bool) (i : Nat) : (midT x p back i).length = (rd_L2 x 0).length := tab_length _ _
theorem dftR_full {l : List Int} {p : Nat} {back : Bool} (h : (dftR l (p : Int) back).2 = true) : (dftR l (p : Int) back).1 = dftFull l p back := by
  have q := (dftR_iff l p back).1 h
  unfold dftR
  rw [if_pos q]
  rfl
theorem rd_V {l : List Int} {p w sc k : Nat} (h : k < l.length) : rd (dftV l p w sc) (k : Int) = (dftN l p w sc k : Int) := by
  unfold dftV
  rw [rd_tab' h]
theorem rd_full {l : List Int} {p k : Nat} {back : Bool} (h : k < l.length) : rd (dftFull l p back) (k : Int) = (dftN l p (wB l.length p back) (sB l.length p back) k : Int) := by
  rw [full_V, rd_V h]
theorem d2V_len (x : List (List Int)) (p : Int) (back : Bool) : (d2V x p back).length = x.length := tabL_length _ _
theorem d2V_row (x : List (List Int)) (p : Int) (back : Bool) {i : Nat} (hi : i < x.length) : rd_L2 (d2V x p back) (i : Int) = tab (rd_L2 x 0).length fun c => rd (colOut x p back c) (i : Int) := rdL_tab hi
/-- what one number of the transform both ways is: the rows first .. -/
theorem cell_rows {x : List (List Int)} {p : Nat} {back : Bool} (h : D2ok x (p : Int) back) {i c : Nat} (hi : i < x.length) (hc : c < (rd_L2 x 0).length) :
    rd (colOut x (p : Int) back c) (i : Int) = ((sumN (fun j => (sumN (fun d => (rd (rd_L2 x (j : Int)) (d : Int)).toNat * wB (rd_L2 x 0).length p back ^ (d * c)) (rd_L2 x 0).length * sB (rd_L2 x 0).length p back % p) * wB x.length p back ^ (j * i)) x.length * sB x.length p back % p : Nat) : Int) := by
  have hcl : (colIn x (p : Int) back c).length = x.length := by unfold colIn; rw [tab_length]
  unfold colOut
  rw [dftR_full (col_ok h hc), rd_full (by rw [hcl]; exact hi), hcl]
  unfold dftN
  rw [hcl]
  congr 3
  refine sumN_congr fun j hj => ?_
  congr 1
  have e : rd (colIn x (p : Int) back c) (j : Int) = rd (mid x (p : Int) back j) (c : Int) := by
    unfold colIn
    rw [rd_tab' hj]
  have hg := h.2 j hj
  rw [e]
  unfold mid
  rw [dftR_full hg.1, rd_full (by rw [hg.2]; exact hc), hg.2, Int.toNat_natCast]
  unfold dftN
  rw [hg.2]
/-- .. or the columns first -/
theorem cell_cols {x : List (List Int)} {p : Nat} {back : Bool} {i c : Nat} (hi : i < x.length) (hc : c < (rd_L2 x 0).length) :
    rd (dftFull (midT x p back i) p back) (c : Int) = ((sumN (fun d => (sumN (fun j => (rd (rd_L2 x (j : Int)) (d : Int)).toNat * wB x.length p back ^ (j * i)) x.length * sB x.length p back % p) * wB (rd_L2 x 0).length p back ^ (d * c)) (rd_L2 x 0).length * sB (rd_L2 x 0).length p back % p : Nat) : Int) := by
  rw [rd_full (by rw [midT_len]; exact hc), midT_len]
  unfold dftN
  rw [midT_len]
  congr 3
  refine sumN_congr fun d hd => ?_
  congr 1
  have e : rd (midT x p back i) (d : Int) = rd (dftFull (colT x d) p back) (i : Int) := by
    unfold midT
    rw [rd_tab' hd]
  rw [e, rd_full (by rw [col_len]; exact hi), col_len, Int.toNat_natCast]
  unfold dftN
  rw [col_len]
  congr 2
  refine sumN_congr fun j hj => ?_
  congr 2
  unfold colT
  rw [rd_tab' hj]
theorem row_full {x : List (List Int)} {p : Nat} {back : Bool} (h : D2ok x (p : Int) back) {i : Nat} (hi : i < x.length) : rd_L2 (d2V x (p : Int) back) (i : Int) = dftFull (midT x p back i) p back := by
  rw [d2V_row x _ back hi]
  symm
  refine eq_tab (by rw [dftFull_length, midT_len]) fun c hc => ?_
  rw [cell_rows h hi hc, cell_cols hi hc]
  congr 1
  exact two_sums (fun j d => (rd (rd_L2 x (j : Int)) (d : Int)).toNat) (fun j => wB x.length p back ^ (j * i)) (fun d => wB (rd_L2 x 0).length p back ^ (d * c)) x.length (rd_L2 x 0).length p (sB (rd_L2 x 0).length p back) (sB x.length p back)
/-! ### what D2ok tells -/
theorem good_prime {x : List (List Int)} {p : Int} {back : Bool} (h : D2ok x p back) : ∃ P : Nat, p = (P : Int) ∧ GoodP P ∧ IsP (P : Int) := by
  have q := ((dftR_iff _ _ _).1 (h.2 0 (whole_pos h.1)).1).1
  obtain ⟨P, rfl, hq⟩ := good_of q
  exact ⟨P, rfl, hq, q⟩
theorem good_width {x : List (List Int)} {p : Int} {back : Bool} (h : D2ok x p back) : Whole (rd_L2 x 0).length := ((dftR_iff _ _ _).1 (h.2 0 (whole_pos h.1)).1).2.2.2
theorem good_even {x : List (List Int)} {p : Int} {back : Bool} (h : D2ok x p back) : Even x := fun i hi => (h.2 i hi).2
theorem good_cell {x : List (List Int)} {p : Int} {back : Bool} (h : D2ok x p back) {i c : Nat} (hi : i < x.length) (hc : c < (rd_L2 x 0).length) : 0 ≤ rd (rd_L2 x (i : Int)) (c : Int) ∧ rd (rd_L2 x (i : Int)) (c : Int) < p := by
  have hg := h.2 i hi
  exact ((dftR_iff _ _ _).1 hg.1).2.2.1 c (by rw [hg.2]; exact hc)
theorem ok_of {x : List (List Int)} {p : Int} {back : Bool} (hp : IsP p) (hn : Whole x.length) (hm : Whole (rd_L2 x 0).length) (he : Even x) (hr : ∀ i c : Nat, i < x.length → c < (rd_L2 x 0).length → 0 ≤ rd (rd_L2 x (i : Int)) (c : Int) ∧ rd (rd_L2 x (i : Int)) (c : Int) < p) : D2ok x p back := by
  refine ⟨hn, fun i hi => ⟨(dftR_iff _ _ _).2 ⟨hp, ?_, fun c hc => ?_, ?_⟩, he i hi⟩⟩
  · rw [he i hi]; exact whole_le' hm
  · rw [he i hi] at hc; exact hr i c hi hc
  · rw [he i hi]; exact hm
theorem col_row {x : List (List Int)} {p : Nat} {back : Bool} (h : D2ok x (p : Int) back) {c : Nat} (hc : c < (rd_L2 x 0).length) : RowOk (p : Int) (colT x c) := by
  intro i hi
  rw [col_len] at hi
  unfold colT
  rw [rd_tab' hi]
  exact good_cell h hi hc
theorem full_row (l : List Int) (p : Nat) (back : Bool) (hp : GoodP p) : RowOk (p : Int) (dftFull l p back) := by
  rw [full_V]
  exact dftV_row _ _ _ _ (by have := hp.gt; omega)
theorem full_back (l : List Int) (p : Nat) (hp : GoodP p) (hn : Whole l.length) (hr : RowOk (p : Int) l) : dftFull (dftFull l p false) p true = l := by
  have e : dftFull l p false = dftV l p (unitN l.length p) 1 := by unfold dftFull; simp
  have hl : (dftV l p (unitN l.length p) 1).length = l.length := by simp [dftV]
  rw [e]
  unfold dftFull
  rw [if_pos rfl, hl]
  exact dft_back l p hp hn hr
theorem midT_row {x : List (List Int)} {p : Nat} {back : Bool} (hp : GoodP p) {i : Nat} (hi : i < x.length) : RowOk (p : Int) (midT x p back i) := by
  intro c hc
  rw [midT_len] at hc
  unfold midT
  rw [rd_tab' hc]
  exact full_row _ _ _ hp i (by rw [dftFull_length, col_len]; exact hi)
/-- the transform is told of whole rows again -/
theorem ok_after {x : List (List Int)} {p : Nat} {back : Bool} (back' : Bool) (h : D2ok x (p : Int) back) : D2ok (d2V x (p : Int) back) (p : Int) back' := by
  obtain ⟨P, e, hq, hP⟩ := good_prime h
  obtain rfl : p = P := by omega
  have hpos := whole_pos h.1
  have h0 : (rd_L2 (d2V x (p : Int) back) 0).length = (rd_L2 x 0).length := by
    have := d2V_row x (p : Int) back (i := 0) hpos
    rw [show ((0 : Nat) : Int) = 0 from rfl] at this
    rw [this, tab_length]
  refine ok_of hP (by rw [d2V_len]; exact h.1) (by rw [h0]; exact good_width h) (fun i hi => ?_) (fun i c hi hc => ?_)
  · rw [d2V_len] at hi
    rw [h0, d2V_row x _ back hi, tab_length]
  · rw [d2V_len] at hi
    rw [h0] at hc
    rw [row_full h hi]
    exact full_row _ _ _ hq c (by rw [dftFull_length, midT_len]; exact hc)
theorem comes_back {x : List (List Int)} {p : Nat} (h : D2ok x (p : Int) false) : d2V (d2V x (p : Int) false) (p : Int) true = x := by
  obtain ⟨P, e, hq, hP⟩ := good_prime h
  obtain rfl : p = P := by omega
  have hpos := whole_pos h.1
  have hok := ok_after true h
  have h0 : (rd_L2 (d2V x (p : Int) false) 0).length = (rd_L2 x 0).length := by
    have := d2V_row x (p : Int) false (i := 0) hpos
    rw [show ((0 : Nat) : Int) = 0 from rfl] at this
    rw [this, tab_length]
  have hmid : ∀ j : Nat, j < x.length → mid (d2V x (p : Int) false) (p : Int) true j = midT x p false j := by
    intro j hj
    unfold mid
    rw [dftR_full (hok.2 j (by rw [d2V_len]; exact hj)).1, row_full h hj]
    exact full_back _ _ hq (by rw [midT_len]; exact good_width h) (midT_row hq hj)
  have hcol : ∀ c : Nat, c < (rd_L2 x 0).length → colIn (d2V x (p : Int) false) (p : Int) true c = dftFull (colT x c) p false := by
    intro c hc
    unfold colIn
    rw [d2V_len]
    symm
    refine eq_tab (by rw [dftFull_length, col_len]) fun i hi => ?_
    rw [hmid i hi]
    unfold midT
    rw [rd_tab' hc]
  have hout : ∀ c : Nat, c < (rd_L2 x 0).length → colOut (d2V x (p : Int) false) (p : Int) true c = colT x c := by
    intro c hc
    unfold colOut
    rw [dftR_full (col_ok hok (by rw [h0]; exact hc)), hcol c hc]
    exact full_back _ _ hq (by rw [col_len]; exact h.1) (col_row h hc)
  symm
  refine eq_tabL (by rw [d2V_len]) fun i hi => ?_
  rw [d2V_len] at hi
  rw [h0]
  refine eq_tab (good_even h i hi) fun c hc => ?_
  rw [hout c hc]
  unfold colT
  rw [rd_tab' hi]
theorem back_R {x : List (List Int)} {p : Int} (h : (d2R x p false).2 = true) : d2R (d2R x p false).1 p true = (x, true) := by
  have hd : D2ok x p false := by
    unfold d2R at h
    split at h
    · assumption
    · cases h
  obtain ⟨P, rfl, hq, hP⟩ := good_prime hd
  have e : d2R x (P : Int) false = (d2V x (P : Int) false, true) := by unfold d2R; rw [if_pos hd]
  rw [e]
  unfold d2R
  rw [if_pos (ok_after true hd), comes_back hd]
theorem turned_R {x : List (List Int)} {p : Int} (h : (d2R x p false).2 = true) : (d2R (turnT x) p false).2 = true ∧ turnT (d2R (turnT x) p false).1 = (d2R x p false).1 := by
  have hd : D2ok x p false := by
    unfold d2R at h
    split at h
    · assumption
    · cases h
  obtain ⟨p, rfl, hq, hP⟩ := good_prime hd
  have e : d2R x (p : Int) false = (d2V x (p : Int) false, true) := by unfold d2R; rw [if_pos hd]
  have hpos := whole_pos hd.1
  have hm := good_width hd
  have hmpos := whole_pos hm
  have h0 : rd_L2 (turnT x) 0 = colT x 0 := by
    have := turn_row x hmpos
    rwa [show ((0 : Nat) : Int) = 0 from rfl] at this
  have h0l : (rd_L2 (turnT x) 0).length = x.length := by rw [h0, col_len]
  have hok : D2ok (turnT x) (p : Int) false := by
    refine ok_of hP (by rw [turn_len]; exact hm) (by rw [h0l]; exact hd.1) (turn_even x) (fun i c hi hc => ?_)
    rw [turn_len] at hi
    rw [h0l] at hc
    rw [turn_row x hi]
    unfold colT
    rw [rd_tab' hc]
    exact good_cell hd hc hi
  have e2 : d2R (turnT x) (p : Int) false = (d2V (turnT x) (p : Int) false, true) := by unfold d2R; rw [if_pos hok]
  rw [e, e2]
  refine ⟨rfl, ?_⟩
  have hcolT : ∀ i : Nat, i < x.length → colT (turnT x) i = rd_L2 x (i : Int) := by
    intro i hi
    unfold colT
    rw [turn_len]
    symm
    refine eq_tab (good_even hd i hi) fun c hc => ?_
    rw [turn_row x hc]
    unfold colT
    rw [rd_tab' hi]
  have hcin : ∀ i : Nat, i < x.length → colIn (turnT x) (p : Int) false i = midT x p false i := by
    intro i hi
    unfold colIn midT
    rw [turn_len]
    refine tab_congr fun d hdd => ?_
    unfold mid
    rw [dftR_full (hok.2 d (by rw [turn_len]; exact hdd)).1, turn_row x hdd]
  have hout : ∀ i : Nat, i < x.length → colOut (turnT x) (p : Int) false i = rd_L2 (d2V x (p : Int) false) (i : Int) := by
    intro i hi
    unfold colOut
    rw [dftR_full (col_ok hok (by rw [h0l]; exact hi)), hcin i hi, row_full hd hi]
  have g0 : (rd_L2 (d2V (turnT x) (p : Int) false) 0).length = x.length := by
    have := d2V_row (turnT x) (p : Int) false (i := 0) (by rw [turn_len]; exact hmpos)
    rw [show ((0 : Nat) : Int) = 0 from rfl] at this
    rw [this, tab_length, h0l]
  symm
  refine eq_tabL (by rw [g0]; exact d2V_len _ _ _) fun i hi => ?_
  rw [g0] at hi
  show _ = colT (d2V (turnT x) (p : Int) false) i
  unfold colT
  rw [d2V_len, turn_len]
  refine eq_tab (by rw [d2V_row x _ _ hi, tab_length]) fun c hc => ?_
  rw [d2V_row (turnT x) _ _ (by rw [turn_len]; exact hc), h0l, rd_tab' hi, hout i hi]
theorem small_any (p : Nat) (hP : IsP (p : Int)) (h5 : 5 < p) : d2R [[5]] (p : Int) false = ([[5]], true) := by
  have hok : D2ok [[5]] (p : Int) false := by
    refine ok_of hP (.inl rfl) (.inl rfl) (fun i hi => ?_) (fun i c hi hc => ?_)
    · have : i = 0 := by simp at hi; omega
      subst this; rfl
    · have h1 : i = 0 := by simp at hi; omega
      have h2 : c = 0 := by simp [rd_L2] at hc; omega
      subst h1; subst h2
      show (0 : Int) ≤ 5 ∧ (5 : Int) < (p : Int)
      omega
  have e : d2R [[5]] (p : Int) false = (d2V [[5]] (p : Int) false, true) := by unfold d2R; rw [if_pos hok]
  have e2 : d2V [[5]] (p : Int) false = [[5]] := by
    symm
    refine eq_tabL rfl fun i hi => ?_
    have : i = 0 := by simp at hi; omega
    subst this
    refine eq_tab rfl fun c hc => ?_
    have : c = 0 := by simp [rd_L2] at hc; omega
    subst this
    rw [cell_rows hok (by decide) (by decide)]
    have hs : ∀ n, sB n p false = 1 := fun _ => rfl
    simp only [Nat.mul_zero, Nat.pow_zero, hs]
    have h : (5 : Nat) % p = 5 := Nat.mod_eq_of_lt h5
    simp [sumN, rd_L2, rd, h]
  exact e.trans (by rw [e2])
theorem small_one : d2R [[5]] 998244353 false = ([[5]], true) := small_any 998244353 (.inl rfl) (by omega)
theorem d2_few (x : List (List Int)) (p : Int) (back : Bool) : (d2R x p back).1.length ≤ 2000000 ∧ ∀ r ∈ (d2R x p back).1, r.length ≤ 2000000 := by
  unfold d2R
  split
  · rename_i h
    refine ⟨?_, fun r hr => ?_⟩
    · show (d2V x p back).length ≤ _
      rw [d2V_len]
      have := whole_le' h.1
      omega
    · replace hr : r ∈ d2V x p back := hr
      unfold d2V tabL at hr
      obtain ⟨i, hi, rfl⟩ := List.mem_map.1 hr
      rw [tab_length]
      have := whole_le' (good_width h)
      omega
  · exact ⟨by simp, by simp⟩
end Go.Proofs.Ytofegdgcafameaa.TwV
