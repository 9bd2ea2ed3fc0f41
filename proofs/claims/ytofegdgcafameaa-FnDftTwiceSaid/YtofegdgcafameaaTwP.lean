/- The pure parts of FnDftTwice. No conditions. -/
import Derived.Test.YtofegdgcafameaaQFnDftTwicex0
import Derived.Test.YtofegdgcafameaaQFnDftTwicex1
import Derived.Test.YtofegdgcafameaaQFnDftTwicex2
import Derived.Test.YtofegdgcafameaaQFnDftTwicex3
import Derived.Test.YtofegdgcafameaaQFnDftTwicex4
import Derived.Test.YtofegdgcafameaaQFnDftTwicex5
import Derived.Test.YtofegdgcafameaaQFnDftTwicex6
import Derived.Test.YtofegdgcafameaaQFnDftTwicex7
import Derived.Test.YtofegdgcafameaaBase
import Derived.Test.YtofegdgcafameaaMod
namespace Go.Proofs.Ytofegdgcafameaa.TwP
open Go.RowKit Go.Proofs.Ytofegdgcafameaa.QFnDftTwice Go.Proofs.YtofegdgcafameaaW.PrintWords Go.Proofs.YtofegdgcafameaaW.PrintLast
open Go.Proofs.Ytofegdgcafameaa.Base Go.Proofs.Ytofegdgcafameaa.Mod
set_option linter.unusedVariables false
set_option linter.unusedSimpArgs false
/-! ### rows of rows -/
def tabL (n : Nat) (g : Nat → List Int) : List (List Int) := (List.range n).map g
@[simp] theorem tabL_length (n : Nat) (g : Nat → List Int) : (tabL n g).length = n := by simp [tabL]
theorem tabL_succ (n : Nat) (g : Nat → List Int) : tabL (n + 1) g = tabL n g ++ [g n] := by simp [tabL, List.range_succ]
theorem tabL_congr {n : Nat} {g h : Nat → List Int} (e : ∀ i, i < n → g i = h i) : tabL n g = tabL n h := by
  unfold tabL
  exact List.map_congr_left fun i hi => e i (List.mem_range.1 hi)
theorem rdL_tab {n : Nat} {g : Nat → List Int} {i : Nat} (h : i < n) : rd_L2 (tabL n g) (i : Int) = g i := by
  unfold rd_L2 tabL
  rw [Int.toNat_natCast, List.getD_eq_getElem?_getD, List.getElem?_map, List.getElem?_range h]
  rfl
theorem rdL_nat (x : List (List Int)) (i : Nat) : rd_L2 x (i : Int) = x.getD i [] := by simp [rd_L2]
theorem tabL_rd (x : List (List Int)) : tabL x.length (fun i => rd_L2 x (i : Int)) = x := by
  apply List.ext_getElem
  · simp
  · intro i h1 h2
    simp [tabL, rd_L2, h2]
theorem eq_tabL {x : List (List Int)} {n : Nat} {g : Nat → List Int} (hl : x.length = n) (h : ∀ i, i < n → rd_L2 x (i : Int) = g i) : x = tabL n g := by
  rw [← tabL_rd x, hl]
  exact tabL_congr h
theorem rdL_set {x : List (List Int)} {i j : Nat} {v : List Int} (hi : i < x.length) : rd_L2 (x.set i v) (j : Int) = if j = i then v else rd_L2 x (j : Int) := by
  rw [rdL_nat, rdL_nat, List.getD_eq_getElem?_getD, List.getD_eq_getElem?_getD, List.getElem?_set]
  by_cases e : i = j
  · subst e
    simp [hi]
  · rw [if_neg e, if_neg (fun h => e h.symm)]
theorem rd_setN {x : List Int} {i j : Nat} {v : Int} (hi : i < x.length) : rd (x.set i v) (j : Int) = if j = i then v else rd x (j : Int) := by
  rw [rd_nat, rd_nat, List.getD_eq_getElem?_getD, List.getD_eq_getElem?_getD, List.getElem?_set]
  by_cases e : i = j
  · subst e
    simp [hi]
  · rw [if_neg e, if_neg (fun h => e h.symm)]
theorem rdL_mem {x : List (List Int)} {i : Nat} (h : i < x.length) : rd_L2 x (i : Int) ∈ x := by
  rw [rdL_nat, List.getD_eq_getElem?_getD, List.getElem?_eq_getElem h]
  exact List.getElem_mem h
theorem tabL_set {n i : Nat} {g h : Nat → List Int} (hi : i < n) (e : ∀ j, j < n → j ≠ i → g j = h j) : (tabL n g).set i (h i) = tabL n h := by
  refine eq_tabL (by simp) fun j hj => ?_
  rw [rdL_set (by simpa using hi)]
  by_cases q : j = i
  · rw [if_pos q, q]
  · rw [if_neg q, rdL_tab hj]
    exact e j hj q
theorem tab_set {n i : Nat} {g h : Nat → Int} (hi : i < n) (e : ∀ j, j < n → j ≠ i → g j = h j) : (tab n g).set i (h i) = tab n h := by
  refine eq_tab (by simp) fun j hj => ?_
  rw [rd_setN (by simpa using hi)]
  by_cases q : j = i
  · rw [if_pos q, q]
  · rw [if_neg q, rd_tab' hj]
    exact e j hj q
/-- how many numbers lie ahead of row j -/
def off (x : List (List Int)) : Nat → Nat
  | 0 => 0
  | j + 1 => off x j + (rd_L2 x (j : Int)).length
theorem off_le (x : List (List Int)) {i j : Nat} (h : i ≤ j) : off x i ≤ off x j := by
  induction j with
  | zero => rw [Nat.le_zero.1 h]; exact Nat.le_refl _
  | succ j ih =>
    rcases Nat.lt_or_ge i (j + 1) with q | q
    · exact Nat.le_trans (ih (by omega)) (Nat.le_add_right _ _)
    · rw [show i = j + 1 by omega]
      exact Nat.le_refl _
theorem off_congr {x y : List (List Int)} (h : ∀ i : Nat, (rd_L2 x (i : Int)).length = (rd_L2 y (i : Int)).length) (j : Nat) : off x j = off y j := by
  induction j with
  | zero => rfl
  | succ j ih => rw [off, off, ih, h]
theorem len_le_off (x : List (List Int)) {i n : Nat} (h : i < n) : (rd_L2 x (i : Int)).length ≤ off x n :=
  Nat.le_trans (Nat.le_add_left _ (off x i)) (off_le x (Nat.succ_le_of_lt h))
/-- the rows filled with m, m + 1, .. one after the other -/
def markT (x : List (List Int)) (m : Int) : List (List Int) := tabL x.length fun j => tab (rd_L2 x (j : Int)).length fun i => m + (off x j : Int) + (i : Int)

/-! ### rows and columns -/
def colT (x : List (List Int)) (c : Nat) : List Int := tab x.length fun i => rd (rd_L2 x (i : Int)) (c : Int)
def turnT (x : List (List Int)) : List (List Int) := tabL (rd_L2 x 0).length fun c => colT x c
def Even (x : List (List Int)) : Prop := ∀ i : Nat, i < x.length → (rd_L2 x (i : Int)).length = (rd_L2 x 0).length
theorem turned_ev (x : List (List Int)) (hn : 0 < x.length) (hn1 : x.length ≤ 2000000) (hm : (rd_L2 x 0).length ≤ 2000000) (he : Even x) : Ev (fun k => laws_turnedRows.f k x) (turnT x) := by
  unfold laws_turnedRows.f
  have g := for_iff (fun k (s : List (List Int)) c => laws_turnedRows.l0 k x s c) (fun c _ => tabL (c + 1) fun c => colT x c) (fun c s => s = tabL c fun c => colT x c) (rd_L2 x 0).length (turnT x) (fun c s hc hs => by
    refine ⟨rfl, ?_⟩
    subst hs
    rw [ev_shift]
    simp only [laws_turnedRows.l0]
    rw [ev_pos (by omega), ev_pos (by omega), ev_shift]
    simp only [laws_turnedRows.j1]
    rw [ev_pos (by simp; omega)]
    have g2 := fun r => for_iff (fun k (s : List Int) i => laws_turnedRows.l1 k x (tabL c fun c => colT x c) (c : Int) s i) (fun i _ => tab (i + 1) fun i => rd (rd_L2 x (i : Int)) (c : Int)) (fun i s => s = tab i fun i => rd (rd_L2 x (i : Int)) (c : Int)) x.length r (fun i s hi hs => by
      refine ⟨rfl, ?_⟩
      subst hs
      have := he i hi
      rw [ev_shift]
      simp only [laws_turnedRows.l1]
      rw [ev_pos (by omega), ev_pos (by omega), ev_pos (by omega), ev_pos (by omega), ev_pos (by simp; omega), w64 (by omega) (by omega), tab_succ]) [] rfl
    rw [(g2 _).2, (g2 (turnT x)).1, ev_shift]
    simp only [laws_turnedRows.l1]
    rw [ev_neg (by omega), ev_pos (by simp; omega), w64 (by omega) (by omega), tabL_succ]
    rfl) [] rfl
  rw [g.2, g.1, ev_shift]
  simp only [laws_turnedRows.l0]
  rw [ev_pos (by omega), ev_pos (by omega), ev_shift]
  simp only [laws_turnedRows.j1]
  rw [ev_neg (by simp)]
  exact Ev.now _
theorem turn_len (x : List (List Int)) : (turnT x).length = (rd_L2 x 0).length := tabL_length _ _
theorem turn_row (x : List (List Int)) {c : Nat} (h : c < (rd_L2 x 0).length) : rd_L2 (turnT x) (c : Int) = colT x c := rdL_tab h
theorem col_len (x : List (List Int)) (c : Nat) : (colT x c).length = x.length := tab_length _ _
theorem turn_even (x : List (List Int)) : Even (turnT x) := by
  intro i hi
  rw [turn_len] at hi
  have h0 := turn_row x (c := 0) (by omega)
  rw [show ((0 : Nat) : Int) = 0 from rfl] at h0
  rw [turn_row x hi, h0, col_len, col_len]

theorem l1In_eq (a b c : Int) : spec_l1In.f a b c = some (decide (b ≤ a ∧ a ≤ c)) := by
  unfold spec_l1In.f
  by_cases h : a ≥ b
  · rw [if_pos h]
    congr 1
    rw [decide_eq_decide]
    omega
  · rw [if_neg h]
    congr 1
    symm
    rw [decide_eq_false_iff_not]
    omega

theorem l6Prime_eq (p : Int) : spec_l6Prime.f p = some (decide (IsP p)) := by
  unfold spec_l6Prime.f
  by_cases h1 : p = 998244353
  · rw [if_pos h1, decide_eq_true (.inl h1)]
  · rw [if_neg h1]
    by_cases h2 : p = 167772161
    · rw [if_pos h2, decide_eq_true (.inr (.inl h2))]
    · rw [if_neg h2]
      by_cases h3 : p = 469762049
      · rw [decide_eq_true (.inr (.inr h3))]
        simp [h3]
      · have : ¬ IsP p := fun h => by unfold IsP at h; omega
        rw [decide_eq_false this]
        simp [h3]
theorem specPow0_ev (p : Nat) (hp : GoodP p) : ∀ (f n a r : Nat), n < 2 ^ f → n < 9223372036854775808 → a < p → r < p → Ev (fun k => spec_PowMod.l0 k (a : Int) (n : Int) (p : Int) (r : Int)) ((r * a ^ n % p : Nat) : Int) := by
  have hp0 := hp.gt
  have hp1 := hp.lt
  intro f
  induction f with
  | zero =>
    intro n a r hf _ ha hr
    have : n = 0 := by omega
    subst this
    rw [ev_shift]
    simp only [spec_PowMod.l0]
    rw [ev_neg (by omega), Nat.pow_zero, Nat.mul_one, Nat.mod_eq_of_lt hr]
    exact Ev.now _
  | succ f ih =>
    intro n a r hf hn ha hr
    rw [ev_shift]
    simp only [spec_PowMod.l0]
    by_cases c : n = 0
    · subst c
      rw [ev_neg (by omega), Nat.pow_zero, Nat.mul_one, Nat.mod_eq_of_lt hr]
      exact Ev.now _
    · have hm1 := Nat.mod_lt (a * a) (by omega : 0 < p)
      have hm2 := Nat.mod_lt (r * a) (by omega : 0 < p)
      have e2 : Int.tdiv (n : Int) 2 = ((n / 2 : Nat) : Int) := (Int.ofNat_tdiv n 2).symm
      have e3 : Int.tmod (n : Int) 2 = ((n % 2 : Nat) : Int) := (Int.ofNat_tmod n 2).symm
      have hs := pow_step r a n p
      have hf2 : n / 2 < 2 ^ f := by rw [Nat.pow_succ] at hf; omega
      rw [ev_pos (by omega), e3, mulmod (by omega) (by omega), mulmod (by omega) (by omega), e2, w64 (n := ((n / 2 : Nat) : Int)) (by omega) (by omega)]
      by_cases d : n % 2 = 1
      · rw [if_pos d] at hs
        have g := ih (n / 2) (a * a % p) (r * a % p) hf2 (by omega) hm1 hm2
        rw [hs] at g
        rw [ev_pos (by omega), ev_neg (by omega)]
        exact g
      · rw [if_neg d] at hs
        have g := ih (n / 2) (a * a % p) r hf2 (by omega) hm1 hr
        rw [hs] at g
        rw [ev_neg (by omega), ev_neg (by omega)]
        exact g
theorem specPow_ev (p n a : Nat) (hi : IsP (p : Int)) (hp : GoodP p) (hn : n ≤ 4000000000000000000) (ha : a < p) : Ev (fun k => spec_PowMod.f k (a : Int) (n : Int) (p : Int)) ((a ^ n % p : Nat) : Int) := by
  have hp0 := hp.gt
  have hp1 := hp.lt
  unfold spec_PowMod.f
  rw [l6Prime_eq, decide_eq_true hi, ev_sbind, ev_pos rfl, w64 (by omega) (by omega), l1In_eq, decide_eq_true (by omega), ev_sbind, ev_pos rfl, l1In_eq, decide_eq_true (by omega), ev_sbind, ev_shift]
  simp only [spec_PowMod.j0, Bool.not_true, Bool.false_eq_true, if_false]
  have g := specPow0_ev p hp 63 n a 1 (by omega) (by omega) ha hp.gt
  rw [Nat.one_mul] at g
  exact g

theorem specInv_ev (a p : Nat) (hi : IsP (p : Int)) (hp : GoodP p) (h0 : 0 < a) (h1 : a < p) : Ev (fun k => spec_InvMod.f k (a : Int) (p : Int)) ((invN a p : Nat) : Int) := by
  have hp0 := hp.gt
  have hp1 := hp.lt
  unfold spec_InvMod.f
  rw [l6Prime_eq, decide_eq_true hi, ev_sbind, ev_pos rfl, w64 (n := (p : Int) - 1) (by omega) (by omega), l1In_eq, decide_eq_true (by omega), ev_sbind, ev_pos rfl, w64 (by omega) (by omega)]
  have e : (p : Int) - 2 = ((p - 2 : Nat) : Int) := by omega
  rw [e, ev_bind (specPow_ev p (p - 2) a hi hp (by omega) h1)]
  exact Ev.now _

theorem specWholeN_ev (n : Nat) : Ev (fun k => spec_l6Whole.f k (n : Int)) (decide (Whole n)) := by
  unfold spec_l6Whole.f
  have step : ∀ (w : Int) (b : Bool), 1 ≤ w → w ≤ 256 → (Ev (fun k => spec_l6Whole.l0 k (n : Int) w) b ↔ (if (n : Int) = w then true = b else Ev (fun k => spec_l6Whole.l0 k (n : Int) (2 * w)) b)) := by
    intro w b h0 h1
    rw [ev_shift]
    simp only [spec_l6Whole.l0]
    rw [ev_pos h1, w64 (by omega) (by omega)]
    by_cases c : (n : Int) = w
    · rw [ev_pos c, if_pos c, ev_some_iff]
    · rw [ev_neg c, if_neg c]
  by_cases h : Whole n
  · rw [decide_eq_true h]
    rcases h with h | h | h | h | h | h | h | h | h <;> subst h <;> (repeat (first | (rw [step _ _ (by omega) (by omega)]) | (rw [if_neg (by omega)]) | (rw [if_pos (by omega)])))
  · rw [decide_eq_false h]
    unfold Whole at h
    rw [step 1 _ (by omega) (by omega), if_neg (by omega), step _ _ (by omega) (by omega), if_neg (by omega), step _ _ (by omega) (by omega), if_neg (by omega), step _ _ (by omega) (by omega), if_neg (by omega), step _ _ (by omega) (by omega), if_neg (by omega), step _ _ (by omega) (by omega), if_neg (by omega), step _ _ (by omega) (by omega), if_neg (by omega), step _ _ (by omega) (by omega), if_neg (by omega), step _ _ (by omega) (by omega), if_neg (by omega), ev_shift]
    simp only [spec_l6Whole.l0]
    rw [ev_neg (by omega)]
    exact Ev.now _

theorem specUnit_ev (n p : Nat) (hi : IsP (p : Int)) (hp : GoodP p) (hn : Whole n) : Ev (fun k => spec_Unit.f k (n : Int) (p : Int)) ((unitN n p : Nat) : Int) := by
  have hp0 := hp.gt
  have hp1 := hp.lt
  have hn1 := whole_le hn
  have h3 : 3 < p := by unfold IsP at hi; omega
  unfold spec_Unit.f
  rw [l6Prime_eq, decide_eq_true hi, ev_sbind, ev_pos rfl, ev_bind (specWholeN_ev n), decide_eq_true hn, ev_pos rfl, ev_neg (by omega), w64 (n := (p : Int) - 1) (by omega) (by omega)]
  have e : (p : Int) - 1 = ((p - 1 : Nat) : Int) := by omega
  have e2 : Int.tdiv ((p - 1 : Nat) : Int) (n : Int) = (((p - 1) / n : Nat) : Int) := (Int.ofNat_tdiv (p - 1) n).symm
  have hd : (p - 1) / n ≤ p - 1 := Nat.div_le_self _ _
  unfold unitN
  rw [e, e2]
  generalize (p - 1) / n = D at *
  have g : Ev (fun k => spec_PowMod.f k 3 (D : Int) (p : Int)) ((3 ^ D % p : Nat) : Int) := specPow_ev p D 3 hi hp (by omega) h3
  rw [w64 (by omega) (by omega), ev_bind g]
  exact Ev.now _
theorem specRow_ev (l : List Int) (p : Int) (hl : l.length ≤ 2000000) (hp0 : 0 ≤ p) (hp1 : p ≤ 2000000000) : ∃ b, Ev (fun k => spec_l6Row.f k l p) b ∧ (b = true ↔ l.length ≤ 256 ∧ RowOk p l) := by
  unfold spec_l6Row.f
  refine ⟨(List.range l.length).all (fun i => decide (0 ≤ rd l (i : Int) ∧ rd l (i : Int) ≤ p - 1)) && decide (l.length ≤ 256), ?_, ?_⟩
  · rw [all_iff (fun k i => spec_l6Row.l0 k l p i) (fun i => decide (0 ≤ rd l (i : Int) ∧ rd l (i : Int) ≤ p - 1)) l.length _ false]
    · split
      · rename_i hq
        rw [hq, Bool.true_and, ev_shift]
        simp only [spec_l6Row.l0]
        rw [ev_neg (by omega), ev_some_iff, decide_eq_decide]
        omega
      · rename_i hq
        simp only [Bool.not_eq_true] at hq
        rw [hq, Bool.false_and]
    · intro i hi
      by_cases c : 0 ≤ rd l (i : Int) ∧ rd l (i : Int) ≤ p - 1
      · rw [if_pos (decide_eq_true c), ev_shift]
        simp only [spec_l6Row.l0]
        rw [ev_pos (by omega), ev_pos (by omega), w64 (n := p - 1) (by omega) (by omega), l1In_eq, ev_sbind, ev_pos (decide_eq_true c), w64 (by omega) (by omega)]
      · rw [if_neg (by rw [decide_eq_false c]; decide), ev_shift]
        simp only [spec_l6Row.l0]
        rw [ev_pos (by omega), ev_pos (by omega), w64 (n := p - 1) (by omega) (by omega), l1In_eq, ev_sbind, ev_neg (by rw [decide_eq_false c]; decide), ev_some_iff]
  · rw [Bool.and_eq_true, range_all, decide_eq_true_eq]
    constructor
    · rintro ⟨h1, h2⟩
      exact ⟨h2, fun i hi => by have := of_decide_eq_true (h1 i hi); omega⟩
    · rintro ⟨h1, h2⟩
      exact ⟨fun i hi => decide_eq_true (by have := h2 i hi; omega), h1⟩
theorem specCore_ev (l : List Int) (p w sc : Nat) (hp : GoodP p) (hw : w < p) (hsc : sc < p) (hn0 : 0 < l.length) (hn : l.length ≤ 256) (hr : RowOk (p : Int) l) :
    Ev (fun k => spec_Dft.j1 k l (p : Int) (l.length : Int) (w : Int) (sc : Int)) (dftV l p w sc, true) := by
  have hp0 := hp.gt
  have hp1 := hp.lt
  rw [ev_shift]
  simp only [spec_Dft.j1]
  have g := for_iff (fun q (s : List Int × Int) k => spec_Dft.l0 q l (p : Int) (l.length : Int) (w : Int) (sc : Int) s.1 s.2 k) (fun k s => (s.1 ++ [(dftN l p w sc k : Int)], ((w ^ (k + 1) % p : Nat) : Int))) (fun k s => s = (tab k (fun k => (dftN l p w sc k : Int)), ((w ^ k % p : Nat) : Int))) l.length (dftV l p w sc, true) ?_ ([], 1) (by simp [tab_zero, Nat.mod_eq_of_lt hp0])
  · rw [g.2, g.1, ev_shift]
    simp only [spec_Dft.l0]
    rw [ev_neg (by omega)]
    exact Ev.now _
  · intro k s hk hs
    subst hs
    refine ⟨by simp only [tab_succ], ?_⟩
    rw [ev_shift]
    simp only [spec_Dft.l0]
    rw [ev_pos (by omega)]
    have hwk := Nat.mod_lt (w ^ k) (by omega : 0 < p)
    have q := for_iff (fun q (c : Int × Int) i => spec_Dft.l1 q l (p : Int) (l.length : Int) (w : Int) (sc : Int) (tab k (fun k => (dftN l p w sc k : Int))) ((w ^ k % p : Nat) : Int) (k : Int) c.1 c.2 i) (fun i _ => (((sumN (fun i => (rd l (i : Int)).toNat * w ^ (i * k)) (i + 1) % p : Nat) : Int), ((w ^ ((i + 1) * k) % p : Nat) : Int))) (fun i c => c = (((sumN (fun i => (rd l (i : Int)).toNat * w ^ (i * k)) i % p : Nat) : Int), ((w ^ (i * k) % p : Nat) : Int))) l.length (dftV l p w sc, true) ?_ (0, 1) ?_
    · rw [q.2, q.1, ev_shift]
      simp only [spec_Dft.l1, tab_length]
      have hm := Nat.mod_lt (sumN (fun i => (rd l (i : Int)).toNat * w ^ (i * k)) l.length) (by omega : 0 < p)
      rw [ev_neg (by omega), ev_neg (by omega), ev_pos (by omega), mulmod (by omega) (by omega), mulmod (by omega) (by omega), w64 (by omega) (by omega), Nat.mod_mul_mod, Nat.mod_mul_mod, ← Nat.pow_succ]
      exact Iff.rfl
    · intro i c hi hc
      subst hc
      refine ⟨rfl, ?_⟩
      rw [ev_shift]
      simp only [spec_Dft.l1]
      have hm := Nat.mod_lt (sumN (fun i => (rd l (i : Int)).toNat * w ^ (i * k)) i) (by omega : 0 < p)
      have hm2 := Nat.mod_lt (w ^ (i * k)) (by omega : 0 < p)
      obtain ⟨x0, x1⟩ := hr i hi
      have ex : rd l (i : Int) = ((rd l (i : Int)).toNat : Int) := by omega
      rw [ex, addmulmod (by omega) (by omega) (by omega), mulmod (by omega) (by omega), ev_pos (by omega), ev_pos (by omega), ev_pos (by omega), ev_neg (by omega), w64 (n := (i : Int) + 1) (by omega) (by omega)]
      have key : (sumN (fun i => (rd l (i : Int)).toNat * w ^ (i * k)) i % p + (rd l (i : Int)).toNat * (w ^ (i * k) % p)) % p = sumN (fun i => (rd l (i : Int)).toNat * w ^ (i * k)) (i + 1) % p := by
        rw [sumN_succ, Nat.add_mod, Nat.mod_mod, Nat.mul_mod, Nat.mod_mod, ← Nat.mul_mod, ← Nat.add_mod]
      have key2 : w ^ (i * k) % p * (w ^ k % p) % p = w ^ ((i + 1) * k) % p := by
        rw [← Nat.mul_mod, ← Nat.pow_add, Nat.add_mul, Nat.one_mul]
      rw [key, key2]
    · simp [sumN, Nat.mod_eq_of_lt hp0]
theorem specDft_ev (l : List Int) (p : Int) (back : Bool) (hl : l.length ≤ 2000000) : Ev (fun k => spec_Dft.f k l p back) (dftR l p back) := by
  unfold spec_Dft.f
  have no : ¬ (IsP p ∧ l.length ≤ 256 ∧ RowOk p l ∧ Whole l.length) → Ev (fun k => spec_Dft.j0 k l p back (l.length : Int) true) (dftR l p back) := by
    intro h
    rw [ev_shift, dftR, if_neg h]
    simp only [spec_Dft.j0, if_true]
    exact Ev.now _
  rw [l6Prime_eq, ev_sbind]
  by_cases h1 : IsP p
  · obtain ⟨q, rfl, hq⟩ := good_of h1
    have hp0 := hq.gt
    have hp1 := hq.lt
    obtain ⟨b, hb, hiff⟩ := specRow_ev l (q : Int) hl (by omega) (by omega)
    rw [ev_pos (by simpa using h1), ev_bind hb]
    by_cases h2 : b = true
    · have h2' := hiff.1 h2
      rw [ev_pos h2, ev_bind (specWholeN_ev l.length)]
      by_cases h3 : Whole l.length
      · have hn := whole_le h3
        have hu := unit_one hq h3
        have hul : unitN l.length q < q := Nat.mod_lt _ (by omega)
        have hu0 : 0 < unitN l.length q := by
          apply Nat.pos_of_ne_zero
          intro e
          have hu' : unitN l.length q ^ l.length % q = 1 := hu
          rw [e, Nat.zero_pow (by omega), Nat.zero_mod] at hu'
          omega
        rw [decide_eq_true h3, ev_shift, dftR, if_pos ⟨h1, h2'.1, h2'.2, h3⟩, Int.toNat_natCast]
        simp only [spec_Dft.j0, Bool.not_true, Bool.false_eq_true, if_false]
        rw [ev_bind (specUnit_ev l.length q h1 hq h3)]
        have hlq : l.length < q := by unfold IsP at h1; omega
        cases back with
        | true =>
          rw [ev_pos rfl, ev_bind (specInv_ev (unitN l.length q) q h1 hq hu0 hul), ev_bind (specInv_ev l.length q h1 hq (by omega) hlq)]
          exact specCore_ev l q _ _ hq (Nat.mod_lt _ (by omega)) (Nat.mod_lt _ (by omega)) (by omega) (by omega) h2'.2
        | false =>
          rw [ev_neg (by decide)]
          exact specCore_ev l q _ 1 hq hul (by omega) (by omega) (by omega) h2'.2
      · rw [decide_eq_false h3]
        exact no (fun h => h3 h.2.2.2)
    · rw [ev_neg h2]
      exact no (fun h => h2 (hiff.2 ⟨h.2.1, h.2.2.1⟩))
  · rw [ev_neg (by simpa using h1)]
    exact no (fun h => h1 h.1)


theorem isPrime_eq (p : Int) : impl_isPrime.f p = some (decide (IsP p)) := by
  unfold impl_isPrime.f
  by_cases h1 : p = 998244353
  · rw [if_pos h1, decide_eq_true (.inl h1)]
  · rw [if_neg h1]
    by_cases h2 : p = 167772161
    · rw [if_pos h2, decide_eq_true (.inr (.inl h2))]
    · rw [if_neg h2]
      by_cases h3 : p = 469762049
      · rw [decide_eq_true (.inr (.inr h3))]
        simp [h3]
      · have : ¬ IsP p := fun h => by unfold IsP at h; omega
        rw [decide_eq_false this]
        simp [h3]
theorem residue_eq (a p : Int) : impl_residue.f a p = some (decide (0 ≤ a ∧ a < p)) := by
  unfold impl_residue.f
  by_cases h : a ≥ 0
  · rw [if_pos h]
    congr 1
    rw [decide_eq_decide]
    omega
  · rw [if_neg h]
    congr 1
    symm
    rw [decide_eq_false_iff_not]
    omega
theorem implPow0_ev (p : Nat) (hp : GoodP p) : ∀ (f n a r : Nat), n < 2 ^ f → n < 9223372036854775808 → a < p → r < p → Ev (fun k => impl_power.l0 k (a : Int) (n : Int) (p : Int) (r : Int)) ((r * a ^ n % p : Nat) : Int) := by
  have hp0 := hp.gt
  have hp1 := hp.lt
  intro f
  induction f with
  | zero =>
    intro n a r hf _ ha hr
    have : n = 0 := by omega
    subst this
    rw [ev_shift]
    simp only [impl_power.l0]
    rw [ev_neg (by omega), Nat.pow_zero, Nat.mul_one, Nat.mod_eq_of_lt hr]
    exact Ev.now _
  | succ f ih =>
    intro n a r hf hn ha hr
    rw [ev_shift]
    simp only [impl_power.l0]
    by_cases c : n = 0
    · subst c
      rw [ev_neg (by omega), Nat.pow_zero, Nat.mul_one, Nat.mod_eq_of_lt hr]
      exact Ev.now _
    · have hm1 := Nat.mod_lt (a * a) (by omega : 0 < p)
      have hm2 := Nat.mod_lt (r * a) (by omega : 0 < p)
      have e2 : (n : Int) / 2 = ((n / 2 : Nat) : Int) := by omega
      have hs := pow_step r a n p
      have hf2 : n / 2 < 2 ^ f := by rw [Nat.pow_succ] at hf; omega
      rw [ev_pos (by omega), band_one n hn, mulmod (by omega) (by omega), mulmod (by omega) (by omega), e2]
      by_cases d : n % 2 = 1
      · rw [if_pos d] at hs
        have g := ih (n / 2) (a * a % p) (r * a % p) hf2 (by omega) hm1 hm2
        rw [hs] at g
        rw [ev_pos (by omega), ev_neg (by omega)]
        exact g
      · rw [if_neg d] at hs
        have g := ih (n / 2) (a * a % p) r hf2 (by omega) hm1 hr
        rw [hs] at g
        rw [ev_neg (by omega), ev_neg (by omega)]
        exact g
theorem implPow_ev (p n a : Nat) (hp : GoodP p) (hn : n < 9223372036854775808) (ha : a < p) : Ev (fun k => impl_power.f k (a : Int) (n : Int) (p : Int)) ((a ^ n % p : Nat) : Int) := by
  unfold impl_power.f
  have g := implPow0_ev p hp 63 n a 1 (by omega) hn ha hp.gt
  rw [Nat.one_mul] at g
  exact g

theorem implInv_ev (a p : Nat) (hi : IsP (p : Int)) (hp : GoodP p) (h0 : 0 < a) (h1 : a < p) : Ev (fun k => impl_InvMod.f k (a : Int) (p : Int)) ((invN a p : Nat) : Int) := by
  have hp0 := hp.gt
  have hp1 := hp.lt
  unfold impl_InvMod.f
  rw [isPrime_eq, decide_eq_true hi, ev_sbind, ev_pos rfl, residue_eq, decide_eq_true (by omega), ev_sbind, ev_pos rfl, ev_neg (by omega), w64 (by omega) (by omega)]
  have e : (p : Int) - 2 = ((p - 2 : Nat) : Int) := by omega
  rw [e, ev_bind (implPow_ev p (p - 2) a hp (by omega) h1)]
  exact Ev.now _


theorem band_whole : ∀ n : Fin 257, 1 ≤ n.val → ((n.val &&& (n.val - 1)) == 0) = decide (Whole n.val) := by decide +kernel
theorem implWhole_eq (n : Nat) : impl_whole.f (n : Int) = some (decide (Whole n)) := by
  unfold impl_whole.f
  by_cases h0 : (n : Int) ≥ 1
  · rw [if_pos h0]
    by_cases h1 : (n : Int) ≤ 256
    · rw [if_pos h1, w64 (by omega) (by omega)]
      have e : (n : Int) - 1 = ((n - 1 : Nat) : Int) := by omega
      rw [e, band_nat n (n - 1) (by omega) (by omega)]
      have := band_whole ⟨n, by omega⟩ (by show 1 ≤ n; omega)
      simp only at this
      rw [← this]
      congr 1
      rw [Bool.eq_iff_iff, beq_iff_eq, beq_iff_eq]
      omega
    · rw [if_neg h1, decide_eq_false (fun h => by have := whole_le h; omega)]
  · rw [if_neg h0, decide_eq_false (fun h => by have := whole_le h; omega)]

theorem implUnit_ev (n p : Nat) (hi : IsP (p : Int)) (hp : GoodP p) (hn : Whole n) : Ev (fun k => impl_Unit.f k (n : Int) (p : Int)) ((unitN n p : Nat) : Int) := by
  have hp0 := hp.gt
  have hp1 := hp.lt
  have hn1 := whole_le hn
  have h3 : 3 < p := by unfold IsP at hi; omega
  unfold impl_Unit.f
  rw [isPrime_eq, decide_eq_true hi, ev_sbind, ev_pos rfl, implWhole_eq, decide_eq_true hn, ev_sbind, ev_pos rfl, ev_neg (by omega), w64 (n := (p : Int) - 1) (by omega) (by omega)]
  have e : (p : Int) - 1 = ((p - 1 : Nat) : Int) := by omega
  have e2 : Int.tdiv ((p - 1 : Nat) : Int) (n : Int) = (((p - 1) / n : Nat) : Int) := (Int.ofNat_tdiv (p - 1) n).symm
  have hd : (p - 1) / n ≤ p - 1 := Nat.div_le_self _ _
  unfold unitN
  rw [e, e2]
  generalize (p - 1) / n = D at *
  have g : Ev (fun k => impl_power.f k 3 (D : Int) (p : Int)) ((3 ^ D % p : Nat) : Int) := implPow_ev p D 3 hp (by omega) h3
  rw [w64 (by omega) (by omega), ev_bind g]
  exact Ev.now _

theorem implRow_ev (l : List Int) (p : Int) (hl : l.length ≤ 2000000) (hp0 : 0 ≤ p) (hp1 : p ≤ 2000000000) : ∃ b, Ev (fun k => impl_row.f k l p) b ∧ (b = true ↔ l.length ≤ 256 ∧ RowOk p l) := by
  unfold impl_row.f
  refine ⟨(List.range l.length).all (fun i => decide (0 ≤ rd l (i : Int) ∧ rd l (i : Int) < p)) && decide (l.length ≤ 256), ?_, ?_⟩
  · rw [all_iff (fun k i => impl_row.l0 k l p l (l.length : Int) i) (fun i => decide (0 ≤ rd l (i : Int) ∧ rd l (i : Int) < p)) l.length _ false]
    · split
      · rename_i hq
        rw [hq, Bool.true_and, ev_shift]
        simp only [impl_row.l0]
        rw [ev_neg (by omega), ev_some_iff, decide_eq_decide]
        omega
      · rename_i hq
        simp only [Bool.not_eq_true] at hq
        rw [hq, Bool.false_and]
    · intro i hi
      by_cases c : 0 ≤ rd l (i : Int) ∧ rd l (i : Int) < p
      · rw [if_pos (by simpa using c), ev_shift]
        simp only [impl_row.l0]
        rw [ev_pos (by omega), ev_pos (by omega), ev_pos (by omega), residue_eq, ev_sbind, ev_pos (by simpa using c), w64 (by omega) (by omega)]
      · rw [if_neg (by simpa using c), ev_shift]
        simp only [impl_row.l0]
        rw [ev_pos (by omega), ev_pos (by omega), ev_pos (by omega), residue_eq, ev_sbind, ev_neg (by simpa using c), ev_some_iff]
  · rw [Bool.and_eq_true, range_all, decide_eq_true_eq]
    constructor
    · rintro ⟨h1, h2⟩
      exact ⟨h2, fun i hi => by simpa using h1 i hi⟩
    · rintro ⟨h1, h2⟩
      exact ⟨fun i hi => by simpa using h2 i hi, h1⟩
theorem implTurns_ev (l : List Int) (p w sc : Nat) (r : List Int × Bool) (hp : GoodP p) (hw : w < p) (hn0 : 0 < l.length) (hn : l.length ≤ 256)
    (h : Ev (fun k => impl_Dft.l0 k l (p : Int) (l.length : Int) (w : Int) (sc : Int) (tab l.length fun j => ((w ^ j % p : Nat) : Int)) (l.length : Int)) r) :
    Ev (fun k => impl_Dft.l0 k l (p : Int) (l.length : Int) (w : Int) (sc : Int) ((List.replicate l.length 0).set 0 1) 1) r := by
  have hp0 := hp.gt
  have hp1 := hp.lt
  have g := for_at (fun k s i => impl_Dft.l0 k l (p : Int) (l.length : Int) (w : Int) (sc : Int) s i) (fun i _ => tab l.length fun j => if j < i + 2 then ((w ^ j % p : Nat) : Int) else 0) (fun i s => s = tab l.length fun j => if j < i + 1 then ((w ^ j % p : Nat) : Int) else 0) 1 (l.length - 1) r ?_ ((List.replicate l.length 0).set 0 1) ?_
  · rw [g.2, g.1]
    have e : (1 : Int) + ((l.length - 1 : Nat) : Int) = (l.length : Int) := by omega
    rw [e]
    have e2 : (tab l.length fun j => if j < l.length - 1 + 1 then ((w ^ j % p : Nat) : Int) else 0) = tab l.length fun j => ((w ^ j % p : Nat) : Int) := tab_congr fun j hj => by rw [if_pos (by omega)]
    rw [e2]
    exact h
  · intro i s hi hs
    subst hs
    refine ⟨rfl, ?_⟩
    rw [ev_shift]
    simp only [impl_Dft.l0, tab_length]
    have e1 : (1 : Int) + (i : Int) - 1 = (i : Int) := by omega
    have hm := Nat.mod_lt (w ^ i) (by omega : 0 < p)
    rw [ev_pos (by omega), e1, w64 (n := (i : Int)) (by omega) (by omega), rd_tab' (by omega), if_pos (by omega), mulmod (by omega) (by omega), ev_pos (by omega), ev_pos (by omega), ev_neg (by omega), ev_pos (by omega), ev_pos (by omega), w64 (n := (1 : Int) + (i : Int) + 1) (by omega) (by omega)]
    have e2 : ((1 : Int) + (i : Int)).toNat = i + 1 := by omega
    rw [e2, set_tab _ _ (by omega)]
    have e3 : (tab l.length fun m => if m = i + 1 then ((w ^ i % p * w % p : Nat) : Int) else if m < i + 1 then ((w ^ m % p : Nat) : Int) else 0) = tab l.length fun j => if j < i + 2 then ((w ^ j % p : Nat) : Int) else 0 := by
      refine tab_congr fun j _ => ?_
      by_cases c : j = i + 1
      · subst c
        rw [if_pos rfl, if_pos (by omega), Nat.pow_succ, Nat.mod_mul_mod]
      · rw [if_neg c]
        by_cases d : j < i + 1
        · rw [if_pos d, if_pos (by omega)]
        · rw [if_neg d, if_neg (by omega)]
    rw [e3]
  · refine eq_tab (by simp) fun j hj => ?_
    have h := rd_set (l := List.replicate l.length (0 : Int)) (i := (j : Int)) (j := 0) (v := 1) (by omega) (by simp; omega) (by omega)
    have e0 : (0 : Int).toNat = 0 := rfl
    rw [e0] at h
    rw [h]
    by_cases c : j = 0
    · subst c
      simp [Nat.mod_eq_of_lt hp0]
    · rw [if_neg (by omega), if_neg (by omega), rd_replicate]
theorem implCore_ev (l : List Int) (p w sc : Nat) (hp : GoodP p) (hw : w < p) (hsc : sc < p) (hn0 : 0 < l.length) (hn : l.length ≤ 256) (hr : RowOk (p : Int) l) (hper : w ^ l.length % p = 1) :
    Ev (fun k => impl_Dft.j1 k l (p : Int) (l.length : Int) (w : Int) (sc : Int)) (dftV l p w sc, true) := by
  have hp0 := hp.gt
  have hp1 := hp.lt
  rw [ev_shift]
  simp only [impl_Dft.j1]
  have hrep : (List.replicate l.length (0 : Int)).length = l.length := by simp
  have e0 : (0 : Int).toNat = 0 := rfl
  rw [ev_pos (by omega), Int.toNat_natCast, ev_pos (by omega), ev_sbind, ev_pos (by omega), e0]
  refine implTurns_ev l p w sc _ hp hw hn0 hn ?_
  rw [ev_shift]
  simp only [impl_Dft.l0]
  rw [ev_neg (by omega), ev_pos (by omega), Int.toNat_natCast, ev_pos (by omega), ev_sbind, hrep]
  have hmap := map_loop (fun k s i => impl_Dft.l1 k l (p : Int) (l.length : Int) (sc : Int) (tab l.length fun j => ((w ^ j % p : Nat) : Int)) s (l.length : Int) i) (List.replicate l.length 0) (fun k => (dftN l p w sc k : Int)) (dftV l p w sc, true) ?_
  · rw [hmap, hrep, ev_shift]
    simp only [impl_Dft.l1]
    rw [ev_neg (by omega)]
    exact Ev.now _
  · intro k s hk hs _
    rw [hrep] at hk hs
    rw [ev_shift]
    simp only [impl_Dft.l1]
    rw [ev_pos (by omega)]
    have g := for_iff (fun q c i => impl_Dft.l2 q l (p : Int) (l.length : Int) (sc : Int) (tab l.length fun j => ((w ^ j % p : Nat) : Int)) s (k : Int) c (l.length : Int) (k : Int) l (l.length : Int) i) (fun i _ => ((sumN (fun i => (rd l (i : Int)).toNat * w ^ (i * k)) (i + 1) % p : Nat) : Int)) (fun i c => c = ((sumN (fun i => (rd l (i : Int)).toNat * w ^ (i * k)) i % p : Nat) : Int)) l.length (dftV l p w sc, true) ?_ 0 ?_
    · rw [g.2, g.1, ev_shift]
      simp only [impl_Dft.l2]
      have hm := Nat.mod_lt (sumN (fun i => (rd l (i : Int)).toNat * w ^ (i * k)) l.length) (by omega : 0 < p)
      rw [ev_neg (by omega), ev_neg (by omega), ev_pos (by omega), ev_pos (by omega), mulmod (by omega) (by omega), w64 (by omega) (by omega), Int.toNat_natCast, Nat.mod_mul_mod]
      exact Iff.rfl
    · intro i c hi hc
      subst hc
      refine ⟨rfl, ?_⟩
      rw [ev_shift]
      simp only [impl_Dft.l2, tab_length]
      have h256 : i * k ≤ 256 * 256 := Nat.mul_le_mul (by omega) (by omega)
      have e1 : (i : Int) * (k : Int) = ((i * k : Nat) : Int) := by simp
      have hmn := Nat.mod_lt (i * k) hn0
      have hm := Nat.mod_lt (sumN (fun i => (rd l (i : Int)).toNat * w ^ (i * k)) i) (by omega : 0 < p)
      have hm2 := Nat.mod_lt (w ^ (i * k % l.length)) (by omega : 0 < p)
      obtain ⟨x0, x1⟩ := hr i hi
      have ex : rd l (i : Int) = ((rd l (i : Int)).toNat : Int) := by omega
      rw [e1, w64 (n := ((i * k : Nat) : Int)) (by omega) (by omega), tmod_nat, rd_tab' hmn, ex, addmulmod (by omega) (by omega) (by omega), ev_pos (by omega), ev_pos (by omega), ev_pos (by omega), ev_neg (by omega), ev_pos (by omega), ev_pos (by omega), ev_neg (by omega), w64 (n := (i : Int) + 1) (by omega) (by omega)]
      have key : (sumN (fun i => (rd l (i : Int)).toNat * w ^ (i * k)) i % p + (rd l (i : Int)).toNat * (w ^ (i * k % l.length) % p)) % p = sumN (fun i => (rd l (i : Int)).toNat * w ^ (i * k)) (i + 1) % p := by
        have hq : w ^ l.length % p = 1 % p := by rw [hper, Nat.mod_eq_of_lt hp0]
        rw [← pow_period hq, sumN_succ, Nat.add_mod, Nat.mod_mod, Nat.mul_mod, Nat.mod_mod, ← Nat.mul_mod, ← Nat.add_mod]
      rw [key]
    · rfl
theorem implDft_ev (l : List Int) (p : Int) (back : Bool) (hl : l.length ≤ 2000000) : Ev (fun k => impl_Dft.f k l p back) (dftR l p back) := by
  unfold impl_Dft.f
  have no : ¬ (IsP p ∧ l.length ≤ 256 ∧ RowOk p l ∧ Whole l.length) → Ev (fun k => impl_Dft.j0 k l p back (l.length : Int) true) (dftR l p back) := by
    intro h
    rw [ev_shift, dftR, if_neg h]
    simp only [impl_Dft.j0, if_true]
    exact Ev.now _
  rw [isPrime_eq, ev_sbind]
  by_cases h1 : IsP p
  · obtain ⟨q, rfl, hq⟩ := good_of h1
    have hp0 := hq.gt
    have hp1 := hq.lt
    obtain ⟨b, hb, hiff⟩ := implRow_ev l (q : Int) hl (by omega) (by omega)
    rw [ev_pos (by simpa using h1), ev_bind hb]
    by_cases h2 : b = true
    · have h2' := hiff.1 h2
      rw [ev_pos h2, implWhole_eq, ev_sbind]
      by_cases h3 : Whole l.length
      · have hn := whole_le h3
        have hu := unit_one hq h3
        have hul : unitN l.length q < q := Nat.mod_lt _ (by omega)
        have hu0 : 0 < unitN l.length q := by
          apply Nat.pos_of_ne_zero
          intro e
          have hu' : unitN l.length q ^ l.length % q = 1 := hu
          rw [e, Nat.zero_pow (by omega), Nat.zero_mod] at hu'
          omega
        rw [decide_eq_true h3, ev_shift, dftR, if_pos ⟨h1, h2'.1, h2'.2, h3⟩, Int.toNat_natCast]
        simp only [impl_Dft.j0, Bool.not_true, Bool.false_eq_true, if_false]
        rw [ev_bind (implUnit_ev l.length q h1 hq h3)]
        have hlq : l.length < q := by unfold IsP at h1; omega
        cases back with
        | true =>
          rw [ev_pos rfl, ev_bind (implInv_ev (unitN l.length q) q h1 hq hu0 hul), ev_bind (implInv_ev l.length q h1 hq (by omega) hlq)]
          have h4 := inv_one (p := q) (n := l.length) (w := unitN l.length q) hu
          rw [Nat.mod_eq_of_lt hp0] at h4
          exact implCore_ev l q _ _ hq (Nat.mod_lt _ (by omega)) (Nat.mod_lt _ (by omega)) (by omega) (by omega) h2'.2 h4
        | false =>
          rw [ev_neg (by decide)]
          exact implCore_ev l q _ 1 hq hul (by omega) (by omega) (by omega) h2'.2 hu
      · rw [decide_eq_false h3]
        exact no (fun h => h3 h.2.2.2)
    · rw [ev_neg h2]
      exact no (fun h => h2 (hiff.2 ⟨h.2.1, h.2.2.1⟩))
  · rw [ev_neg (by simpa using h1)]
    exact no (fun h => h1 h.1)

theorem dftR_iff (l : List Int) (p : Int) (back : Bool) : (dftR l p back).2 = true ↔ IsP p ∧ l.length ≤ 256 ∧ RowOk p l ∧ Whole l.length := by
  unfold dftR
  split
  · rename_i h; simp [h]
  · rename_i h; simp [h]
theorem dftR_of {l : List Int} {p : Int} {back : Bool} (h : (dftR l p back).2 = true) : dftR l p back = ((dftR l p back).1, true) := by rw [← h]
theorem dftR_no {l : List Int} {p : Int} {back : Bool} (h : ¬ (dftR l p back).2 = true) : dftR l p back = ([], false) := by
  unfold dftR
  rw [if_neg (fun q => h ((dftR_iff l p back).2 q))]
theorem dftR_len {l : List Int} {p : Int} {back : Bool} (h : (dftR l p back).2 = true) : (dftR l p back).1.length = l.length := by
  have q := (dftR_iff l p back).1 h
  unfold dftR
  rw [if_pos q]
  exact dftFull_length _ _ _
theorem dftN_lt {l : List Int} {p w sc k : Nat} (hp : 0 < p) : dftN l p w sc k < p := Nat.mod_lt _ hp
theorem dftR_row {l : List Int} {p : Int} {back : Bool} (h : (dftR l p back).2 = true) : RowOk p (dftR l p back).1 := by
  have q := (dftR_iff l p back).1 h
  obtain ⟨P, rfl, hq⟩ := good_of q.1
  unfold dftR
  rw [if_pos q]
  show RowOk (P : Int) (dftFull l P back)
  have v : ∀ w sc, RowOk (P : Int) (dftV l P w sc) := by
    intro w sc i hi
    unfold dftV at hi ⊢
    rw [tab_length] at hi
    rw [rd_tab' hi]
    have := dftN_lt (l := l) (p := P) (w := w) (sc := sc) (k := i) (by have := hq.gt; omega)
    omega
  unfold dftFull
  split
  · exact v _ _
  · exact v _ _
/-- the rows' transforms -/
noncomputable def mid (x : List (List Int)) (p : Int) (back : Bool) (i : Nat) : List Int := (dftR (rd_L2 x (i : Int)) p back).1
noncomputable def colIn (x : List (List Int)) (p : Int) (back : Bool) (c : Nat) : List Int := tab x.length fun i => rd (mid x p back i) (c : Int)
noncomputable def colOut (x : List (List Int)) (p : Int) (back : Bool) (c : Nat) : List Int := (dftR (colIn x p back c) p back).1
def GoodR (x : List (List Int)) (p : Int) (back : Bool) (i : Nat) : Prop := (dftR (rd_L2 x (i : Int)) p back).2 = true ∧ (rd_L2 x (i : Int)).length = (rd_L2 x 0).length
def D2ok (x : List (List Int)) (p : Int) (back : Bool) : Prop := Whole x.length ∧ ∀ i, i < x.length → GoodR x p back i
noncomputable def d2V (x : List (List Int)) (p : Int) (back : Bool) : List (List Int) := tabL x.length fun i => tab (rd_L2 x 0).length fun c => rd (colOut x p back c) (i : Int)
open Classical in
noncomputable def d2R (x : List (List Int)) (p : Int) (back : Bool) : List (List Int) × Bool := if D2ok x p back then (d2V x p back, true) else ([], false)
theorem whole_pos {n : Nat} (h : Whole n) : 0 < n := by unfold Whole at h; omega
theorem whole_le' {n : Nat} (h : Whole n) : n ≤ 256 := by unfold Whole at h; omega
theorem mid_len {x : List (List Int)} {p : Int} {back : Bool} {i : Nat} (h : GoodR x p back i) : (mid x p back i).length = (rd_L2 x 0).length := by
  unfold mid
  rw [dftR_len h.1]
  exact h.2
theorem col_ok {x : List (List Int)} {p : Int} {back : Bool} (h : D2ok x p back) {c : Nat} (hc : c < (rd_L2 x 0).length) : (dftR (colIn x p back c) p back).2 = true := by
  have h0 := (h.2 0 (whole_pos h.1))
  refine (dftR_iff _ _ _).2 ⟨((dftR_iff _ _ _).1 h0.1).1, by unfold colIn; rw [tab_length]; exact whole_le' h.1, fun i hi => ?_, by unfold colIn; rw [tab_length]; exact h.1⟩
  unfold colIn at hi ⊢
  rw [tab_length] at hi
  rw [rd_tab' hi]
  exact dftR_row (h.2 i hi).1 c (by rw [dftR_len (h.2 i hi).1, (h.2 i hi).2]; exact hc)
theorem colOut_len {x : List (List Int)} {p : Int} {back : Bool} (h : D2ok x p back) {c : Nat} (hc : c < (rd_L2 x 0).length) : (colOut x p back c).length = x.length := by
  unfold colOut
  rw [dftR_len (col_ok h hc)]
  unfold colIn
  rw [tab_length]
/-- out's rows when the columns ahead of c are done, and of column c the rows ahead of j -/
noncomputable def cell2 (x : List (List Int)) (p : Int) (back : Bool) (c j i d : Nat) : Int := if d < c ∨ (d = c ∧ i < j) then rd (colOut x p back d) (i : Int) else rd (mid x p back i) (d : Int)
noncomputable def st2 (x : List (List Int)) (p : Int) (back : Bool) (c j : Nat) : List (List Int) := tabL x.length fun i => tab (rd_L2 x 0).length fun d => cell2 x p back c j i d
theorem implDft2_ev (x : List (List Int)) (p : Int) (back : Bool) (hn : x.length ≤ 2000000) (hr : ∀ r ∈ x, r.length ≤ 2000000) : Ev (fun k => impl_Dft2.f k x p back) (d2R x p back) := by
  unfold impl_Dft2.f
  rw [implWhole_eq, ev_sbind]
  by_cases hw : Whole x.length
  · rw [ev_pos (by simpa using hw)]
    have hpos := whole_pos hw
    have hb0 := hr _ (rdL_mem (x := x) (i := 0) hpos)
    have hb0' : (rd_L2 x 0).length ≤ 2000000 := hb0
    have cols : D2ok x p back → Ev (fun k => impl_Dft2.l1 k p back (tabL x.length (mid x p back)) ((rd_L2 x 0).length : Int) 0) (d2R x p back) := by
      intro hd
      rw [show tabL x.length (mid x p back) = st2 x p back 0 0 from tabL_congr fun i hi => by
        refine eq_tab (mid_len (hd.2 i hi)) fun d _ => ?_
        unfold cell2
        rw [if_neg (by omega)]]
      have step : ∀ c : Nat, c < (rd_L2 x 0).length → ∀ r, Ev (fun k => impl_Dft2.l1 k p back (st2 x p back c 0) ((rd_L2 x 0).length : Int) (c : Int)) r ↔ Ev (fun k => impl_Dft2.l1 k p back (st2 x p back (c + 1) 0) ((rd_L2 x 0).length : Int) ((c : Int) + 1)) r := by
        intro c hc r
        have slen : ∀ a b, (st2 x p back a b).length = x.length := fun a b => by simp [st2]
        have srow : ∀ a b (i : Nat), i < x.length → rd_L2 (st2 x p back a b) (i : Int) = tab (rd_L2 x 0).length fun d => cell2 x p back a b i d := fun a b i hi => rdL_tab hi
        rw [ev_shift]
        simp only [impl_Dft2.l1]
        rw [ev_pos (by omega)]
        have g := fun r => for_iff (fun k (s : List Int) i => impl_Dft2.l2 k p back (st2 x p back c 0) (c : Int) s ((rd_L2 x 0).length : Int) (c : Int) (st2 x p back c 0) ((st2 x p back c 0).length : Int) i)
          (fun i _ => tab (i + 1) fun i => rd (mid x p back i) (c : Int)) (fun i s => s = tab i fun i => rd (mid x p back i) (c : Int)) x.length r (fun i s hi hs => by
            refine ⟨rfl, ?_⟩
            subst hs
            rw [ev_shift]
            simp only [impl_Dft2.l2]
            rw [ev_pos (by rw [slen]; omega), ev_pos (by omega), ev_pos (by rw [slen]; omega), ev_pos (by omega), ev_pos (by rw [srow _ _ _ hi]; simp; omega), ev_pos (by simp; omega), w64 (by omega) (by omega), srow _ _ _ hi, rd_tab' hc]
            have : cell2 x p back c 0 i c = rd (mid x p back i) (c : Int) := by unfold cell2; rw [if_neg (by omega)]
            rw [this, tab_succ]) [] rfl
        rw [(g r).2, (g r).1, ev_shift]
        simp only [impl_Dft2.l2]
        rw [ev_neg (by rw [slen]; omega)]
        have hcol : Ev (fun k => impl_Dft.f k (tab x.length fun i => rd (mid x p back i) (c : Int)) p back) (colOut x p back c, true) := by
          have := implDft_ev (colIn x p back c) p back (by unfold colIn; simp; omega)
          rw [dftR_of (col_ok hd hc)] at this
          exact this
        rw [ev_bind hcol]
        dsimp only
        have g2 := for_iff (fun k (s : List (List Int)) i => impl_Dft2.l3 k p back s (c : Int) (colOut x p back c) ((rd_L2 x 0).length : Int) (c : Int) (x.length : Int) i)
          (fun i _ => st2 x p back c (i + 1)) (fun i s => s = st2 x p back c i) x.length r (fun i s hi hs => by
            refine ⟨rfl, ?_⟩
            subst hs
            rw [ev_shift]
            simp only [impl_Dft2.l3]
            rw [ev_pos (by omega), ev_pos (by omega), ev_pos (by rw [slen]; omega), ev_pos (by rw [colOut_len hd hc]; omega), ev_pos (by omega), ev_pos (by rw [srow _ _ _ hi]; simp; omega), w64 (by omega) (by omega), Int.toNat_natCast, Int.toNat_natCast, srow _ _ _ hi]
            have e1 := tab_set (n := (rd_L2 x 0).length) (i := c) (g := fun d => cell2 x p back c i i d) (h := fun d => cell2 x p back c (i + 1) i d) hc (fun d _ hne => by
              unfold cell2
              by_cases q : d < c
              · rw [if_pos (Or.inl q), if_pos (Or.inl q)]
              · rw [if_neg (by omega), if_neg (by omega)])
            have e2 : cell2 x p back c (i + 1) i c = rd (colOut x p back c) (i : Int) := by unfold cell2; rw [if_pos (by omega)]
            rw [← e2, e1]
            have e3 := tabL_set (n := x.length) (i := i) (g := fun i' => tab (rd_L2 x 0).length fun d => cell2 x p back c i i' d) (h := fun i' => tab (rd_L2 x 0).length fun d => cell2 x p back c (i + 1) i' d) hi (fun i' _ hne => tab_congr fun d _ => by
              unfold cell2
              by_cases q : d < c ∨ (d = c ∧ i' < i)
              · rw [if_pos q, if_pos (by omega)]
              · rw [if_neg q, if_neg (by omega)])
            exact Iff.of_eq (by rw [show st2 x p back c i = tabL x.length fun i' => tab (rd_L2 x 0).length fun d => cell2 x p back c i i' d from rfl, e3]; rfl)) (st2 x p back c 0) rfl
        rw [show ((st2 x p back c 0).length : Int) = (x.length : Int) by rw [slen], g2.2, g2.1, ev_shift]
        simp only [impl_Dft2.l3]
        rw [ev_neg (by omega), w64 (by omega) (by omega)]
        have e4 : st2 x p back c x.length = st2 x p back (c + 1) 0 := tabL_congr fun i hi => tab_congr fun d _ => by
          unfold cell2
          by_cases q : d < c ∨ (d = c ∧ i < x.length)
          · rw [if_pos q, if_pos (by omega)]
          · rw [if_neg q, if_neg (by omega)]
        rw [e4]
      have g := for_iff (fun k (s : List (List Int)) i => impl_Dft2.l1 k p back s ((rd_L2 x 0).length : Int) i) (fun i _ => st2 x p back (i + 1) 0) (fun i s => s = st2 x p back i 0) (rd_L2 x 0).length (d2R x p back) (fun i s hi hs => by
        refine ⟨rfl, ?_⟩
        subst hs
        exact step i hi _) (st2 x p back 0 0) rfl
      rw [g.2, g.1, ev_shift]
      simp only [impl_Dft2.l1]
      rw [ev_neg (by omega), ev_some_iff]
      unfold d2R
      rw [if_pos hd]
      refine Prod.ext (tabL_congr fun i hi => tab_congr fun d h => ?_) rfl
      unfold cell2
      rw [if_pos (Or.inl h)]
    have go : ∀ n j : Nat, j + n = x.length → (∀ i, i < j → GoodR x p back i) → Ev (fun k => impl_Dft2.l0 k x p back (tabL j (mid x p back)) x (x.length : Int) (j : Int)) (d2R x p back) := by
      intro n
      induction n with
      | zero =>
        intro j hj hg
        rw [ev_shift]
        simp only [impl_Dft2.l0]
        rw [ev_neg (by omega), ev_pos (by omega), show j = x.length by omega]
        exact cols ⟨hw, fun i hi => hg i (by omega)⟩
      | succ n ih =>
        intro j hj hg
        rw [ev_shift]
        simp only [impl_Dft2.l0]
        rw [ev_pos (by omega), ev_pos (by omega), ev_pos (by omega), ev_bind (implDft_ev _ p back (hr _ (rdL_mem (by omega))))]
        by_cases q : (dftR (rd_L2 x (j : Int)) p back).2 = true
        · rw [ev_pos q, ev_pos (by omega)]
          by_cases q2 : (rd_L2 x (j : Int)).length = (rd_L2 x 0).length
          · rw [ev_pos (by omega), ev_pos (by simp; omega), w64 (by omega) (by omega)]
            have := ih (j + 1) (by omega) (fun i hi => by
              by_cases e : i = j
              · subst e; exact ⟨q, q2⟩
              · exact hg i (by omega))
            rw [tabL_succ] at this
            exact this
          · rw [ev_neg (by omega), ev_some_iff]
            unfold d2R
            rw [if_neg (fun h => q2 (h.2 j (by omega)).2)]
        · rw [ev_neg q, ev_some_iff]
          unfold d2R
          rw [if_neg (fun h => q (h.2 j (by omega)).1)]
    exact go x.length 0 (by omega) (fun i hi => by omega)
  · rw [ev_neg (by simpa using hw), ev_some_iff]
    unfold d2R
    rw [if_neg (fun h => hw h.1)]

/-! ### the cursor of a draw -/
def CurOk (b : List Int) (i : Int) : Prop := 0 ≤ i ∧ i ≤ (b.length : Int) ∧ b.length ≤ 2000000
theorem l1New_ev (b : List Int) (hb : b.length ≤ 2000000) : ∃ h, Ev (fun k => spec_l1New.f k b) (b, 0, h) := by
  unfold spec_l1New.f
  refine ⟨iter (fun i h => Go.bits .and .i64 (wrap64 ((wrap64 ((wrap64 (h * 131)) + (wrap64 (rd b (i : Int))))) + 7)) 1073741823) (min b.length 4000) (wrap64 (71933 + (b.length : Int))), ?_⟩
  rw [(for_iff (fun k h i => spec_l1New.l0 k b h i) (fun i h => Go.bits .and .i64 (wrap64 ((wrap64 ((wrap64 (h * 131)) + (wrap64 (rd b (i : Int))))) + 7)) 1073741823) (fun _ _ => True) (min b.length 4000) _ ?_ _ trivial).2]
  · rw [ev_shift]
    simp only [spec_l1New.l0]
    by_cases h : ((min b.length 4000 : Nat) : Int) < (b.length : Int)
    · rw [ev_pos h, ev_neg (by omega)]
      exact Ev.now _
    · rw [ev_neg h]
      exact Ev.now _
  · intro i s hi _
    refine ⟨trivial, ?_⟩
    rw [ev_shift]
    simp only [spec_l1New.l0]
    rw [ev_pos (by omega), ev_pos (by omega), ev_pos (by omega), w64 (n := (i : Int) + 1) (by omega) (by omega)]
theorem l1Byte_ok (b : List Int) (i h : Int) (hc : CurOk b i) : ∃ x i' h', spec_l1Byte.f b i h = some (x, i', h') ∧ CurOk b i' ∧ 0 ≤ x ∧ x ≤ 255 := by
  obtain ⟨h0, h1, h2⟩ := hc
  unfold spec_l1Byte.f
  by_cases c : i < (b.length : Int)
  · rw [if_pos c, if_pos h0]
    have := band_range
    refine ⟨_, _, _, rfl, ⟨?_, ?_, h2⟩, (band_range _ 255 (by omega) (by omega)).1, (band_range _ 255 (by omega) (by omega)).2⟩
    · rw [w64 (by omega) (by omega)]; omega
    · rw [w64 (by omega) (by omega)]; omega
  · rw [if_neg c]
    exact ⟨_, _, _, rfl, ⟨h0, h1, h2⟩, (band_range _ 255 (by omega) (by omega)).1, (band_range _ 255 (by omega) (by omega)).2⟩
theorem l1Below_ok (b : List Int) (i h n : Int) (hc : CurOk b i) : ∃ x i' h', spec_l1Below.f b i h n = some (x, i', h') ∧ CurOk b i' ∧ 0 ≤ x ∧ (0 < n → x < n) ∧ (n ≤ 0 → x = 0) := by
  unfold spec_l1Below.f
  by_cases c : n ≤ 0
  · rw [if_pos c]
    exact ⟨_, _, _, rfl, hc, by omega, by omega, fun _ => rfl⟩
  · rw [if_neg c]
    by_cases d : n ≤ 256
    · rw [if_pos d]
      obtain ⟨x, i1, h1, e, hc1, hx0, hx1⟩ := l1Byte_ok b i h hc
      rw [e]
      simp only [Option.bind_some]
      rw [if_neg (by omega)]
      refine ⟨_, _, _, rfl, hc1, ?_, fun _ => ?_, fun h => absurd h c⟩
      · exact Int.tmod_nonneg _ hx0
      · exact Int.tmod_lt_of_pos _ (by omega)
    · rw [if_neg d]
      obtain ⟨x, i1, h1, e, hc1, hx0, hx1⟩ := l1Byte_ok b i h hc
      rw [e]
      simp only [Option.bind_some]
      obtain ⟨y, i2, h2, e, hc2, hy0, hy1⟩ := l1Byte_ok b i1 h1 hc1
      rw [e]
      simp only [Option.bind_some]
      obtain ⟨z, i3, h3, e, hc3, hz0, hz1⟩ := l1Byte_ok b i2 h2 hc2
      rw [e]
      simp only [Option.bind_some]
      obtain ⟨w, i4, h4, e, hc4, hw0, hw1⟩ := l1Byte_ok b i3 h3 hc3
      rw [e]
      simp only [Option.bind_some]
      rw [if_neg (by omega)]
      refine ⟨_, _, _, rfl, hc4, ?_, fun _ => ?_, fun h => absurd h c⟩
      · refine Int.tmod_nonneg _ ?_
        rw [w64 (n := x * 16777216) (by omega) (by omega), w64 (n := y * 65536) (by omega) (by omega), w64 (n := z * 256) (by omega) (by omega), w64 (n := x * 16777216 + y * 65536) (by omega) (by omega), w64 (n := x * 16777216 + y * 65536 + z * 256) (by omega) (by omega), w64 (by omega) (by omega)]
        omega
      · exact Int.tmod_lt_of_pos _ (by omega)
theorem l1Once_ok (b : List Int) (i h n : Int) (hc : CurOk b i) : ∃ t i' h', spec_l1Once.f b i h n = some (t, i', h') ∧ CurOk b i' := by
  unfold spec_l1Once.f
  obtain ⟨x, i1, h1, e, hc1, _⟩ := l1Below_ok b i h n hc
  rw [e]
  exact ⟨_, _, _, rfl, hc1⟩

theorem l1PickInt_ok (b : List Int) (i h : Int) (l : List Int) (hl : 0 < l.length) (hc : CurOk b i) : ∃ x i' h', spec_l1PickInt.f b i h l = some (x, i', h') ∧ CurOk b i' ∧ x ∈ l := by
  unfold spec_l1PickInt.f
  obtain ⟨x, i1, h1, e, hc1, h0, hx, _⟩ := l1Below_ok b i h (l.length : Int) hc
  rw [e]
  simp only [Option.bind_some]
  have := hx (by omega)
  rw [if_pos h0, if_pos this]
  exact ⟨_, _, _, rfl, hc1, rd_mem h0 this⟩

theorem drawPrime_ok (b : List Int) (i h : Int) (hc : CurOk b i) : ∃ x i' h', spec_l6DrawPrime.f b i h = some (x, i', h') ∧ CurOk b i' ∧ -1 ≤ x ∧ x ≤ 998244354 := by
  unfold spec_l6DrawPrime.f
  obtain ⟨t, i1, h1, e, hc1⟩ := l1Once_ok b i h 25 hc
  rw [e]
  simp only [Option.bind_some]
  by_cases ht : t = true
  · rw [if_pos ht]
    obtain ⟨x, i2, h2, e2, hc2, hx⟩ := l1PickInt_ok b i1 h1 [0, 7, (-1), 998244354] (by simp) hc1
    rw [e2]
    simp only [List.mem_cons, List.not_mem_nil, or_false] at hx
    exact ⟨x, i2, h2, rfl, hc2, by omega, by omega⟩
  · rw [if_neg ht]
    obtain ⟨x, i2, h2, e2, hc2, hx⟩ := l1PickInt_ok b i1 h1 [998244353, 167772161, 469762049] (by simp) hc1
    rw [e2]
    simp only [List.mem_cons, List.not_mem_nil, or_false] at hx
    exact ⟨x, i2, h2, rfl, hc2, by omega, by omega⟩
theorem drawResidue_ok (b : List Int) (i h p : Int) (hc : CurOk b i) (h0 : -1 ≤ p) (h1 : p ≤ 998244354) : ∃ x i' h', spec_l6DrawResidue.f b i h p = some (x, i', h') ∧ CurOk b i' ∧ -5 ≤ x ∧ x ≤ 998244354 := by
  unfold spec_l6DrawResidue.f
  obtain ⟨t, i1, h1', e, hc1, _⟩ := l1Below_ok b i h 5 hc
  rw [e]
  simp only [Option.bind_some]
  by_cases c : t = 0
  · rw [if_pos c]
    obtain ⟨x, i2, h2, e2, hc2, hx0, hx, _⟩ := l1Below_ok b i1 h1' 5 hc1
    have := hx (by omega)
    rw [e2]
    exact ⟨x, i2, h2, rfl, hc2, by omega, by omega⟩
  · rw [if_neg c]
    by_cases d : t = 1
    · rw [if_pos d]
      obtain ⟨x, i2, h2, e2, hc2, hx0, hx, _⟩ := l1Below_ok b i1 h1' 3 hc1
      have := hx (by omega)
      rw [e2]
      simp only [Option.bind_some]
      rw [w64 (n := p - 1) (by omega) (by omega), w64 (by omega) (by omega)]
      exact ⟨_, i2, h2, rfl, hc2, by omega, by omega⟩
    · rw [if_neg d]
      obtain ⟨x, i2, h2, e2, hc2, hx0, hx, hz⟩ := l1Below_ok b i1 h1' p hc1
      rw [e2]
      refine ⟨x, i2, h2, rfl, hc2, by omega, ?_⟩
      by_cases q : 0 < p
      · have := hx q
        omega
      · have := hz (by omega)
        omega

theorem u64_small {n : Int} (h0 : 0 ≤ n) (h1 : n < 18446744073709551616) : IntKind.u64.wrap n = n := by
  have hs : IntKind.wrap .u64 n = (if (false && decide (n % (2 ^ 64 : Int) ≥ (2 ^ 63 : Int))) = true then n % (2 ^ 64 : Int) - (2 ^ 64 : Int) else n % (2 ^ 64 : Int)) := rfl
  have h4 : n % (2 ^ 64 : Int) = n := Int.emod_eq_of_lt h0 (by omega)
  rw [hs, h4]
  simp

theorem shl_small (x : Int) (h0 : 0 ≤ x) (h1 : x ≤ 8) : ∃ m, shl .i64 1 x = m ∧ 0 ≤ m ∧ m ≤ 256 := by
  have h : x = 0 ∨ x = 1 ∨ x = 2 ∨ x = 3 ∨ x = 4 ∨ x = 5 ∨ x = 6 ∨ x = 7 ∨ x = 8 := by omega
  rcases h with h | h | h | h | h | h | h | h | h <;> subst h <;> exact ⟨_, rfl, by decide +kernel, by decide +kernel⟩
theorem drawRows6 (b : List Int) (p n m : Int) (hp0 : -1 ≤ p) (hp1 : p ≤ 998244354) (hn : n ≤ 256) (hm : m ≤ 256) : ∀ (d : Nat) (s : List (List Int)) (x i h : Int), CurOk b i → 0 ≤ x → n - x ≤ (d : Int) → s.length + d ≤ 1000 → (∀ q ∈ s, q.length ≤ 2000) →
    ∃ r o, Ev (fun k => spec_DrawDft2.l0 k p s n m x b i h) (r, p, o) ∧ r.length ≤ 1000 ∧ (∀ q ∈ r, q.length ≤ 2000) := by
  intro d
  induction d with
  | zero =>
    intro s x i h hc hx0 hx hs hq
    obtain ⟨t, i1, h1, e, hc1⟩ := l1Once_ok b i h 2 hc
    refine ⟨s, t, ?_, by omega, hq⟩
    rw [ev_shift]
    simp only [spec_DrawDft2.l0]
    rw [ev_neg (by omega), e, ev_sbind]
    exact Ev.now _
  | succ d ih =>
    intro s x i h hc hx0 hx hs hq
    by_cases c : x < n
    · have onward : ∀ (q : List Int) (i h : Int), CurOk b i → q.length ≤ 2000 → ∃ r o, Ev (fun k => spec_DrawDft2.l0 k p (s ++ [q]) n m (wrap64 (x + 1)) b i h) (r, p, o) ∧ r.length ≤ 1000 ∧ (∀ q ∈ r, q.length ≤ 2000) := by
        intro q i h hc hl
        rw [w64 (by omega) (by omega)]
        refine ih (s ++ [q]) (x + 1) i h hc (by omega) (by omega) (by simp; omega) ?_
        intro y hy
        rw [List.mem_append, List.mem_singleton] at hy
        rcases hy with hy | hy
        · exact hq y hy
        · subst hy; exact hl
      have fin : ∀ (q : List Int) (i h : Int), CurOk b i → ¬ (q.length : Int) < m → q.length ≤ 1000 → ∃ r o, Ev (fun k => spec_DrawDft2.l1 k p s n m x q (q.length : Int) b i h) (r, p, o) ∧ r.length ≤ 1000 ∧ (∀ q ∈ r, q.length ≤ 2000) := by
        intro q i h hc hd hl
        obtain ⟨t, i1, h1, e, hc1⟩ := l1Once_ok b i h 60 hc
        by_cases ht : t = true
        · obtain ⟨r, o, e3, hr⟩ := onward (q ++ [1]) i1 h1 hc1 (by simp; omega)
          refine ⟨r, o, ?_, hr⟩
          rw [ev_shift]
          simp only [spec_DrawDft2.l1]
          rw [ev_neg hd, e, ev_sbind, ev_pos ht, ev_pos (by omega), ev_pos (by omega)]
          exact e3
        · obtain ⟨r, o, e3, hr⟩ := onward q i1 h1 hc1 (by omega)
          refine ⟨r, o, ?_, hr⟩
          rw [ev_shift]
          simp only [spec_DrawDft2.l1]
          rw [ev_neg hd, e, ev_sbind, ev_neg ht, ev_pos (by omega)]
          exact e3
      have row : ∀ (k : Nat) (q : List Int) (i h : Int), CurOk b i → m - (q.length : Int) ≤ (k : Int) → q.length ≤ 1000 → ∃ r o, Ev (fun k => spec_DrawDft2.l1 k p s n m x q (q.length : Int) b i h) (r, p, o) ∧ r.length ≤ 1000 ∧ (∀ q ∈ r, q.length ≤ 2000) := by
        intro k
        induction k with
        | zero =>
          intro q i h hc hd hl
          exact fin q i h hc (by omega) hl
        | succ k ihm =>
          intro q i h hc hd hl
          by_cases c3 : (q.length : Int) < m
          · obtain ⟨y, i1, h1, e, hc1, _⟩ := drawResidue_ok b i h p hc hp0 hp1
            have el : (q ++ [y]).length = q.length + 1 := by simp
            obtain ⟨r, o, e2, hr⟩ := ihm (q ++ [y]) i1 h1 hc1 (by omega) (by omega)
            refine ⟨r, o, ?_, hr⟩
            have e3 : (q.length : Int) + 1 = ((q ++ [y]).length : Int) := by omega
            rw [ev_shift]
            simp only [spec_DrawDft2.l1]
            rw [ev_pos c3, e, ev_sbind, ev_pos (by omega), w64 (by omega) (by omega), e3]
            exact e2
          · exact fin q i h hc c3 hl
      obtain ⟨r, o, e, hr⟩ := row m.toNat [] i h hc (by simp; omega) (by simp)
      refine ⟨r, o, ?_, hr⟩
      rw [ev_shift]
      simp only [spec_DrawDft2.l0]
      rw [ev_pos c]
      exact e
    · obtain ⟨t, i1, h1, e, hc1⟩ := l1Once_ok b i h 2 hc
      refine ⟨s, t, ?_, by omega, hq⟩
      rw [ev_shift]
      simp only [spec_DrawDft2.l0]
      rw [ev_neg c, e, ev_sbind]
      exact Ev.now _
theorem drawDft2_ev (b : List Int) (hb : b.length ≤ 2000000) : ∃ x p o, Ev (fun k => spec_DrawDft2.f k b) (x, p, o) ∧ x.length ≤ 1000 ∧ (∀ q ∈ x, q.length ≤ 2000) := by
  unfold spec_DrawDft2.f
  obtain ⟨h, e1⟩ := l1New_ev b hb
  obtain ⟨p, i1, h1, e2, hc1, hp0, hp1⟩ := drawPrime_ok b 0 h ⟨by omega, by omega, hb⟩
  obtain ⟨n, i2, h2, e3, hc2, hn0, hn, _⟩ := l1Below_ok b i1 h1 3 hc1
  obtain ⟨m, i3, h3, e4, hc3, hm0, hm, _⟩ := l1Below_ok b i2 h2 4 hc2
  obtain ⟨t, i4, h4, e5, hc4⟩ := l1Once_ok b i3 h3 20 hc3
  have hn' := hn (by omega)
  have hm' := hm (by omega)
  obtain ⟨N, eN, hN0, hN1⟩ := shl_small n hn0 (by omega)
  obtain ⟨M, eM, hM0, hM1⟩ := shl_small m hm0 (by omega)
  by_cases ht : t = true
  · obtain ⟨y, i5, h5, e6, hc5, hy0, hy, _⟩ := l1Below_ok b i4 h4 4 hc4
    have hy' := hy (by omega)
    obtain ⟨r, o, e7, hr⟩ := drawRows6 b p y M hp0 hp1 (by omega) hM1 300 [] 0 i5 h5 hc5 (by omega) (by omega) (by simp) (by simp)
    refine ⟨r, p, o, ?_, hr⟩
    rw [ev_bind e1]
    dsimp only
    rw [e2, ev_sbind]
    dsimp only
    rw [ev_sbind, e3, ev_sbind]
    dsimp only
    rw [u64_small hn0 (by omega), ev_pos hn0, e4, ev_sbind]
    dsimp only
    rw [u64_small hm0 (by omega), ev_pos hm0, e5, ev_sbind, ev_pos ht, e6, ev_sbind, eM, ev_shift]
    simp only [spec_DrawDft2.j0]
    exact e7
  · obtain ⟨r, o, e7, hr⟩ := drawRows6 b p N M hp0 hp1 (by omega) hM1 300 [] 0 i4 h4 hc4 (by omega) (by omega) (by simp) (by simp)
    refine ⟨r, p, o, ?_, hr⟩
    rw [ev_bind e1]
    dsimp only
    rw [e2, ev_sbind]
    dsimp only
    rw [ev_sbind, e3, ev_sbind]
    dsimp only
    rw [u64_small hn0 (by omega), ev_pos hn0, e4, ev_sbind]
    dsimp only
    rw [u64_small hm0 (by omega), ev_pos hm0, e5, ev_sbind, ev_neg ht, eM, eN, ev_shift]
    simp only [spec_DrawDft2.j0]
    exact e7

theorem sameInts_ev (a b : List Int) (h : a.length ≤ 2000000) : Ev (fun k => laws_sameInts.f k a b) (decide (a = b)) := by
  unfold laws_sameInts.f
  by_cases e : a.length = b.length
  · rw [ev_pos (by omega)]
    rw [all_iff (fun k i => laws_sameInts.l0 k a b i) (fun i => decide (rd a (i : Int) = rd b (i : Int))) a.length _ false]
    · split
      · rename_i hp
        have : a = b := list_ext_rd e fun i hi => by simpa using range_all.1 hp i hi
        rw [decide_eq_true this]
        exact Ev.step (fun k => by simp only [laws_sameInts.l0]; rw [if_neg (by omega)]) (Ev.now _)
      · rename_i hp
        have : ¬ a = b := fun h => hp (by subst h; rw [range_all]; simp)
        simp [this]
    · intro i hi
      by_cases p : rd a (i : Int) = rd b (i : Int)
      · rw [if_pos (by simpa using p)]
        rw [ev_shift]
        simp only [laws_sameInts.l0]
        rw [ev_pos (by omega), ev_pos (by omega), ev_pos (by omega), ev_pos p, w64 (by omega) (by omega)]
      · rw [if_neg (by simpa using p)]
        rw [ev_shift]
        simp only [laws_sameInts.l0]
        rw [ev_pos (by omega), ev_pos (by omega), ev_pos (by omega), ev_neg p, ev_some_iff]
  · rw [ev_neg (by omega)]
    have : ¬ a = b := fun h => e (by rw [h])
    simp only [this, decide_false]
    exact Ev.now _
theorem big_eq (l : List Int) : laws_big.f l = some (decide ((l.length : Int) > 1048576)) := rfl


/-! ### rows are the same as themselves -/
theorem sameRows_ev (x : List (List Int)) (hx : x.length ≤ 2000000) (hr : ∀ q ∈ x, q.length ≤ 2000000) : Ev (fun k => laws_sameRows.f k x x) true := by
  unfold laws_sameRows.f
  rw [ev_pos (by trivial)]
  have go : ∀ n j : Nat, j + n = x.length → Ev (fun k => laws_sameRows.l0 k x x (j : Int)) true := by
    intro n
    induction n with
    | zero =>
      intro j hj
      rw [ev_shift]
      simp only [laws_sameRows.l0]
      rw [ev_neg (by omega)]
      exact Ev.now _
    | succ n ih =>
      intro j hj
      rw [ev_shift]
      simp only [laws_sameRows.l0]
      rw [ev_pos (by omega), ev_pos (by omega), ev_pos (by omega), ev_bind (sameInts_ev _ _ (by
        unfold rd_L2
        rw [Int.toNat_natCast, List.getD_eq_getElem?_getD, List.getElem?_eq_getElem (by omega)]
        exact hr _ (List.getElem_mem (by omega)))), ev_pos (by simp), w64 (by omega) (by omega)]
      exact ih (j + 1) (by omega)
  exact go x.length 0 (by omega)

end Go.Proofs.Ytofegdgcafameaa.TwP
