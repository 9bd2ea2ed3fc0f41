/- The parts of FnExactDft2: the rows of rows' helpers, and the program's Dft2. No conditions. -/
import Derived.Test.YtofegdgcafameaaQFnExactDft2x0
import Derived.Test.YtofegdgcafameaaQFnExactDft2x1
import Derived.Test.YtofegdgcafameaaQFnExactDft2x2
import Derived.Test.YtofegdgcafameaaQFnExactDft2x3
import Derived.Test.YtofegdgcafameaaQFnExactDft2x4
import Derived.Test.YtofegdgcafameaaQFnExactDft2x5
import Derived.Test.YtofegdgcafameaaQFnExactDft2x6
import Derived.Test.YtofegdgcafameaaBase
import Derived.Test.YtofegdgcafameaaMod
namespace Go.Proofs.Ytofegdgcafameaa.Dft2P
open Go.RowKit Go.Proofs.Ytofegdgcafameaa.QFnExactDft2 Go.Proofs.YtofegdgcafameaaW.PrintWords Go.Proofs.YtofegdgcafameaaW.PrintLast
open Go.Proofs.Ytofegdgcafameaa.Base Go.Proofs.Ytofegdgcafameaa.Mod
set_option linter.unusedVariables false
set_option linter.unusedSimpArgs false
/-! ### toIntS, eqIntS, markIntS, heldIntS -/
theorem toIntS_ev (l : List Int) (h : l.length ≤ 2000000) : Ev (fun k => laws_toIntS.f k l) l := by
  unfold laws_toIntS.f
  simp only [Int.toNat_natCast]
  rw [ev_pos (by omega), ev_pos (by omega)]
  rw [(for_iff (fun k s i => laws_toIntS.l0 k l s i) (fun i s => s.set i (rd l (i : Int))) (fun _ s => s.length = l.length) l.length l ?_ _ (by simp)).2]
  · rw [iter_store_all _ _ _ (by simp), tab_rd]
    exact Ev.step (fun k => by simp only [laws_toIntS.l0]; rw [if_neg (by omega)]) (Ev.now _)
  · intro i s hi hs
    refine ⟨by simpa using hs, ?_⟩
    rw [ev_shift]
    simp only [laws_toIntS.l0]
    rw [ev_pos (by omega), ev_pos (by omega), ev_pos (by omega), w64 (by omega) (by omega), Int.toNat_natCast]

theorem eqIntS_ev (a b : List Int) (h : a.length ≤ 2000000) : Ev (fun k => laws_eqIntS.f k a b) (decide (a = b)) := by
  unfold laws_eqIntS.f
  by_cases e : a.length = b.length
  · rw [ev_pos (by omega)]
    rw [all_iff (fun k i => laws_eqIntS.l0 k a b i) (fun i => decide (rd a (i : Int) = rd b (i : Int))) a.length _ false]
    · split
      · rename_i hp
        have : a = b := list_ext_rd e fun i hi => by simpa using range_all.1 hp i hi
        rw [decide_eq_true this]
        exact Ev.step (fun k => by simp only [laws_eqIntS.l0]; rw [if_neg (by omega)]) (Ev.now _)
      · rename_i hp
        have : ¬ a = b := fun h => hp (by subst h; rw [range_all]; simp)
        simp [this]
    · intro i hi
      by_cases p : rd a (i : Int) = rd b (i : Int)
      · rw [if_pos (by simpa using p)]
        rw [ev_shift]
        simp only [laws_eqIntS.l0]
        rw [ev_pos (by omega), ev_pos (by omega), ev_pos (by omega), ev_pos p, w64 (by omega) (by omega)]
      · rw [if_neg (by simpa using p)]
        rw [ev_shift]
        simp only [laws_eqIntS.l0]
        rw [ev_pos (by omega), ev_pos (by omega), ev_pos (by omega), ev_neg p, ev_some_iff]
  · rw [ev_neg (by omega)]
    have : ¬ a = b := fun h => e (by rw [h])
    simp only [this, decide_false]
    exact Ev.now _


theorem markIntS_ev (l : List Int) (m : Int) (h : l.length ≤ 2000000) (h0 : 0 ≤ m) (h1 : m ≤ 1000000000) :
    Ev (fun k => laws_markIntS.f k l m) (m + (l.length : Int), tab l.length (fun i => m + (i : Int))) := by
  unfold laws_markIntS.f
  rw [(for_iff (fun k (s : List Int × Int) i => laws_markIntS.l0 k s.1 s.2 i) (fun i s => (s.1.set i (m + (i : Int)), m + ((i : Int) + 1))) (fun i s => s.1.length = l.length ∧ s.2 = m + (i : Int)) l.length _ ?_ (l, m) ⟨rfl, by simp⟩).2]
  · have hI : ∀ n, n ≤ l.length → iter (fun (i : Nat) (s : List Int × Int) => (s.1.set i (m + (i : Int)), m + ((i : Int) + 1))) n (l, m) = (iter (fun i s => s.set i (m + (i : Int))) n l, m + (n : Int)) := by
      intro n
      induction n with
      | zero => intro _; simp [iter]
      | succ n ih => intro hn; rw [iter_succ, ih (by omega), iter_succ]; simp
    rw [hI _ (Nat.le_refl _), iter_store_all _ _ _ rfl]
    exact Ev.step (fun k => by simp only [laws_markIntS.l0]; rw [if_neg (by simp)]) (Ev.now _)
  · rintro i ⟨s, c⟩ hi ⟨hs, hc⟩
    simp only at hs hc
    subst hc
    refine ⟨⟨by simpa using hs, by simp⟩, ?_⟩
    rw [ev_shift]
    simp only [laws_markIntS.l0]
    rw [ev_pos (by omega), ev_pos (by omega), w64 (by omega) (by omega), w64 (by omega) (by omega), Int.toNat_natCast, Int.add_assoc]

theorem heldIntS_ev (n : Nat) (m : Int) (h : n ≤ 2000000) (h0 : 0 ≤ m) (h1 : m ≤ 1000000000) :
    Ev (fun k => laws_heldIntS.f k (tab n (fun i => m + (i : Int))) m) (m + (n : Int)) := by
  unfold laws_heldIntS.f
  rw [(for_iff (fun k (c : Int) i => laws_heldIntS.l0 k (tab n (fun i => m + (i : Int))) c i) (fun i c => m + ((i : Int) + 1)) (fun i c => c = m + (i : Int)) n _ ?_ m (by simp)).2]
  · have hI : iter (fun (i : Nat) (c : Int) => m + ((i : Int) + 1)) n m = m + (n : Int) := by
      cases n with
      | zero => simp [iter]
      | succ n => rw [iter_succ]; simp
    rw [hI]
    exact Ev.step (fun k => by simp only [laws_heldIntS.l0]; rw [if_neg (by simp)]) (Ev.now _)
  · intro i c hi hc
    refine ⟨by simp, ?_⟩
    rw [ev_shift]
    simp only [laws_heldIntS.l0, tab_length]
    rw [ev_pos (by omega), ev_pos (by omega), rd_tab' hi, ev_pos hc.symm, hc, w64 (by omega) (by omega), w64 (by omega) (by omega), Int.add_assoc]

/-! ### rows of rows -/
def tabL (n : Nat) (g : Nat → List Int) : List (List Int) := (List.range n).map g
@[simp] theorem tabL_length (n : Nat) (g : Nat → List Int) : (tabL n g).length = n := by simp [tabL]
theorem tabL_succ (n : Nat) (g : Nat → List Int) : tabL (n + 1) g = tabL n g ++ [g n] := by simp [tabL, List.range_succ]
theorem tabL_congr {n : Nat} {g h : Nat → List Int} (e : ∀ i, i < n → g i = h i) : tabL n g = tabL n h := by
  unfold tabL
  exact List.map_congr_left fun i hi => e i (List.mem_range.1 hi)
theorem rdL_tab {n : Nat} {g : Nat → List Int} {i : Nat} (h : i < n) : rd_L1 (tabL n g) (i : Int) = g i := by
  unfold rd_L1 tabL
  rw [Int.toNat_natCast, List.getD_eq_getElem?_getD, List.getElem?_map, List.getElem?_range h]
  rfl
theorem rdL_nat (x : List (List Int)) (i : Nat) : rd_L1 x (i : Int) = x.getD i [] := by simp [rd_L1]
theorem tabL_rd (x : List (List Int)) : tabL x.length (fun i => rd_L1 x (i : Int)) = x := by
  apply List.ext_getElem
  · simp
  · intro i h1 h2
    simp [tabL, rd_L1, h2]
theorem eq_tabL {x : List (List Int)} {n : Nat} {g : Nat → List Int} (hl : x.length = n) (h : ∀ i, i < n → rd_L1 x (i : Int) = g i) : x = tabL n g := by
  rw [← tabL_rd x, hl]
  exact tabL_congr h
theorem rdL_set {x : List (List Int)} {i j : Nat} {v : List Int} (hi : i < x.length) : rd_L1 (x.set i v) (j : Int) = if j = i then v else rd_L1 x (j : Int) := by
  rw [rdL_nat, rdL_nat, List.getD_eq_getElem?_getD, List.getD_eq_getElem?_getD, List.getElem?_set]
  by_cases e : i = j
  · subst e
    simp [hi]
  · rw [if_neg e, if_neg (fun h => e h.symm)]
theorem rd_setN {x : List Int} {i j : Nat} {v : Int} (hi : i < x.length) : rd (x.set i v) (j : Int) = if j = i then v else rd x (j : Int) := by
  rw [rd_nat, rd_nat, List.getD_eq_getElem?_getD, List.getD_eq_getElem?_getD, List.getElem?_set]
  by_cases e : i = j
  · subst e
    simp [hi]
  · rw [if_neg e, if_neg (fun h => e h.symm)]
theorem rdL_mem {x : List (List Int)} {i : Nat} (h : i < x.length) : rd_L1 x (i : Int) ∈ x := by
  rw [rdL_nat, List.getD_eq_getElem?_getD, List.getElem?_eq_getElem h]
  exact List.getElem_mem h
theorem tabL_set {n i : Nat} {g h : Nat → List Int} (hi : i < n) (e : ∀ j, j < n → j ≠ i → g j = h j) : (tabL n g).set i (h i) = tabL n h := by
  refine eq_tabL (by simp) fun j hj => ?_
  rw [rdL_set (by simpa using hi)]
  by_cases q : j = i
  · rw [if_pos q, q]
  · rw [if_neg q, rdL_tab hj]
    exact e j hj q
theorem tab_set {n i : Nat} {g h : Nat → Int} (hi : i < n) (e : ∀ j, j < n → j ≠ i → g j = h j) : (tab n g).set i (h i) = tab n h := by
  refine eq_tab (by simp) fun j hj => ?_
  rw [rd_setN (by simpa using hi)]
  by_cases q : j = i
  · rw [if_pos q, q]
  · rw [if_neg q, rd_tab' hj]
    exact e j hj q
/-- how many numbers lie ahead of row j -/
def off (x : List (List Int)) : Nat → Nat
  | 0 => 0
  | j + 1 => off x j + (rd_L1 x (j : Int)).length
theorem off_le (x : List (List Int)) {i j : Nat} (h : i ≤ j) : off x i ≤ off x j := by
  induction j with
  | zero => rw [Nat.le_zero.1 h]; exact Nat.le_refl _
  | succ j ih =>
    rcases Nat.lt_or_ge i (j + 1) with q | q
    · exact Nat.le_trans (ih (by omega)) (Nat.le_add_right _ _)
    · rw [show i = j + 1 by omega]
      exact Nat.le_refl _
theorem off_congr {x y : List (List Int)} (h : ∀ i : Nat, (rd_L1 x (i : Int)).length = (rd_L1 y (i : Int)).length) (j : Nat) : off x j = off y j := by
  induction j with
  | zero => rfl
  | succ j ih => rw [off, off, ih, h]
theorem len_le_off (x : List (List Int)) {i n : Nat} (h : i < n) : (rd_L1 x (i : Int)).length ≤ off x n :=
  Nat.le_trans (Nat.le_add_left _ (off x i)) (off_le x (Nat.succ_le_of_lt h))
/-- the rows filled with m, m + 1, .. one after the other -/
def markT (x : List (List Int)) (m : Int) : List (List Int) := tabL x.length fun j => tab (rd_L1 x (j : Int)).length fun i => m + (off x j : Int) + (i : Int)

theorem toIntSS_ev (x : List (List Int)) (hn : x.length ≤ 2000000) (hr : ∀ r ∈ x, r.length ≤ 2000000) : Ev (fun k => laws_toIntSS.f k x) x := by
  unfold laws_toIntSS.f
  rw [ev_pos (by omega), ev_pos (by omega), Int.toNat_natCast]
  have st : ∀ i : Nat, List (List Int) := fun i => tabL x.length fun j => if j < i then rd_L1 x (j : Int) else []
  have g := fun r => (for_iff (fun k (s : List (List Int)) i => laws_toIntSS.l0 k x s i) (fun i _ => tabL x.length fun j => if j < i + 1 then rd_L1 x (j : Int) else []) (fun i s => s = tabL x.length fun j => if j < i then rd_L1 x (j : Int) else []) x.length r (fun i s hi hs => by
    refine ⟨rfl, ?_⟩
    subst hs
    rw [ev_shift]
    simp only [laws_toIntSS.l0]
    rw [ev_pos (by omega), ev_pos (by omega), ev_bind (toIntS_ev _ (hr _ (rdL_mem hi))), ev_pos (by simp; omega), Int.toNat_natCast, w64 (by omega) (by omega)]
    have e := tabL_set (n := x.length) (i := i) (g := fun j => if j < i then rd_L1 x (j : Int) else []) (h := fun j => if j < i + 1 then rd_L1 x (j : Int) else []) hi (fun j _ hne => by
      by_cases q : j < i
      · simp only [if_pos q, if_pos (show j < i + 1 by omega)]
      · simp only [if_neg q, if_neg (show ¬ j < i + 1 by omega)])
    simp only [if_pos (Nat.lt_succ_self i)] at e
    rw [e]) (List.replicate x.length []) (eq_tabL (by simp) fun i hi => by rw [if_neg (by omega), rdL_nat, List.getD_eq_getElem?_getD, List.getElem?_replicate]; simp [hi])).2
  have h1 := (for_iff (fun k (s : List (List Int)) i => laws_toIntSS.l0 k x s i) (fun i _ => tabL x.length fun j => if j < i + 1 then rd_L1 x (j : Int) else []) (fun i s => s = tabL x.length fun j => if j < i then rd_L1 x (j : Int) else []) x.length x (fun i s hi hs => by
    refine ⟨rfl, ?_⟩
    subst hs
    rw [ev_shift]
    simp only [laws_toIntSS.l0]
    rw [ev_pos (by omega), ev_pos (by omega), ev_bind (toIntS_ev _ (hr _ (rdL_mem hi))), ev_pos (by simp; omega), Int.toNat_natCast, w64 (by omega) (by omega)]
    have e := tabL_set (n := x.length) (i := i) (g := fun j => if j < i then rd_L1 x (j : Int) else []) (h := fun j => if j < i + 1 then rd_L1 x (j : Int) else []) hi (fun j _ hne => by
      by_cases q : j < i
      · simp only [if_pos q, if_pos (show j < i + 1 by omega)]
      · simp only [if_neg q, if_neg (show ¬ j < i + 1 by omega)])
    simp only [if_pos (Nat.lt_succ_self i)] at e
    rw [e]) (List.replicate x.length []) (eq_tabL (by simp) fun i hi => by rw [if_neg (by omega), rdL_nat, List.getD_eq_getElem?_getD, List.getElem?_replicate]; simp [hi])).1
  rw [g, h1]
  have h2 : (tabL x.length fun j => if j < x.length then rd_L1 x (j : Int) else []) = x := by
    conv => rhs; rw [← tabL_rd x]
    exact tabL_congr fun i hi => by rw [if_pos hi]
  rw [h2]
  exact Ev.step (fun k => by simp only [laws_toIntSS.l0]; rw [if_neg (by omega)]) (Ev.now _)
theorem eqIntSS_ev (x : List (List Int)) (hn : x.length ≤ 2000000) (hr : ∀ r ∈ x, r.length ≤ 2000000) : Ev (fun k => laws_eqIntSS.f k x x) true := by
  unfold laws_eqIntSS.f
  rw [ev_pos rfl]
  rw [(for_iff (fun k (_ : Unit) i => laws_eqIntSS.l0 k x x i) (fun _ s => s) (fun _ _ => True) x.length true (fun i s hi _ => by
    refine ⟨trivial, ?_⟩
    rw [ev_shift]
    simp only [laws_eqIntSS.l0]
    rw [ev_pos (by omega), ev_pos (by omega), ev_pos (by omega), ev_bind (eqIntS_ev _ _ (hr _ (rdL_mem hi))), ev_pos (by simp), w64 (by omega) (by omega)]) () trivial).2]
  exact Ev.step (fun k => by simp only [laws_eqIntSS.l0]; rw [if_neg (by omega)]) (Ev.now _)
theorem heldIntSS_ev (x : List (List Int)) (m : Int) (hn : x.length ≤ 2000000) (ho : off x x.length ≤ 2000000) (h0 : 0 ≤ m) (h1 : m ≤ 1000000) : Ev (fun k => laws_heldIntSS.f k (markT x m) m) (m + (off x x.length : Int)) := by
  unfold laws_heldIntSS.f
  have hl : (markT x m).length = x.length := by simp [markT]
  have g := for_iff (fun k (c : Int) i => laws_heldIntSS.l0 k (markT x m) c i) (fun i _ => m + (off x (i + 1) : Int)) (fun i c => c = m + (off x i : Int)) x.length (m + (off x x.length : Int)) (fun i c hi hc => by
    refine ⟨rfl, ?_⟩
    subst hc
    have a1 := len_le_off x hi
    have a2 := off_le x (Nat.le_of_lt hi)
    rw [ev_shift]
    simp only [laws_heldIntSS.l0]
    rw [ev_pos (by omega), ev_pos (by omega), show rd_L1 (markT x m) (i : Int) = tab (rd_L1 x (i : Int)).length (fun j => m + (off x i : Int) + (j : Int)) from rdL_tab hi, ev_bind (heldIntS_ev _ _ (by omega) (by omega) (by omega)), ev_neg (by omega), w64 (by omega) (by omega)]
    rw [show m + (off x i : Int) + ((rd_L1 x (i : Int)).length : Int) = m + (off x (i + 1) : Int) by rw [off]; omega]) m (by simp [off])
  rw [g.2, g.1]
  exact Ev.step (fun k => by simp only [laws_heldIntSS.l0]; rw [if_neg (by omega)]) (Ev.now _)
theorem szIntSS_ev (x : List (List Int)) (hn : x.length ≤ maxLen) (hr : ∀ r ∈ x, r.length ≤ maxLen) : ∃ v, Ev (fun k => laws_szIntSS.f k x 1048576) v ∧ (0 ≤ v → x.length + off x x.length ≤ 1048576) := by
  unfold maxLen at hn hr
  unfold laws_szIntSS.f
  rw [w64 (by omega) (by omega)]
  by_cases h : (1048576 : Int) - (x.length : Int) < 0
  · exact ⟨-1, by rw [ev_pos h]; exact Ev.now _, by omega⟩
  · have go : ∀ n j : Nat, j + n = x.length → (x.length + off x j : Int) ≤ 1048576 → ∃ v, Ev (fun k => laws_szIntSS.l0 k x (1048576 - (x.length : Int) - (off x j : Int)) (j : Int)) v ∧ (0 ≤ v → x.length + off x x.length ≤ 1048576) := by
      intro n
      induction n with
      | zero =>
        intro j hj hb
        refine ⟨1048576 - (x.length : Int) - (off x j : Int), ?_, fun _ => by rw [show x.length = j by omega] at hb ⊢; omega⟩
        rw [ev_shift]
        simp only [laws_szIntSS.l0]
        rw [ev_neg (by omega)]
        exact Ev.now _
      | succ n ih =>
        intro j hj hb
        have hlen := hr _ (rdL_mem (x := x) (i := j) (by omega))
        have eoff : off x (j + 1) = off x j + (rd_L1 x (j : Int)).length := rfl
        by_cases q : (1048576 - (x.length : Int) - (off x j : Int)) - ((rd_L1 x (j : Int)).length : Int) < 0
        · refine ⟨-1, ?_, by omega⟩
          rw [ev_shift]
          simp only [laws_szIntSS.l0, laws_szIntS.f]
          rw [ev_pos (by omega), ev_pos (by omega), w64 (by omega) (by omega), if_pos q, ev_sbind, ev_pos (by omega)]
          exact Ev.now _
        · obtain ⟨v, e, hv⟩ := ih (j + 1) (by omega) (by omega)
          refine ⟨v, ?_, hv⟩
          rw [ev_shift]
          simp only [laws_szIntSS.l0, laws_szIntS.f]
          rw [ev_pos (by omega), ev_pos (by omega), w64 (by omega) (by omega), if_neg q, ev_sbind, ev_neg q, w64 (by omega) (by omega)]
          rw [show (1048576 - (x.length : Int) - (off x j : Int)) - ((rd_L1 x (j : Int)).length : Int) = 1048576 - (x.length : Int) - (off x (j + 1) : Int) by omega]
          exact e
    obtain ⟨v, e, hv⟩ := go x.length 0 (by omega) (by simp [off]; omega)
    refine ⟨v, ?_, hv⟩
    rw [ev_neg h]
    simpa [off] using e

theorem l1In_eq (a b c : Int) : spec_l1In.f a b c = some (decide (b ≤ a ∧ a ≤ c)) := by
  unfold spec_l1In.f
  by_cases h : a ≥ b
  · rw [if_pos h]
    congr 1
    rw [decide_eq_decide]
    omega
  · rw [if_neg h]
    congr 1
    symm
    rw [decide_eq_false_iff_not]
    omega

theorem l6Prime_eq (p : Int) : spec_l6Prime.f p = some (decide (IsP p)) := by
  unfold spec_l6Prime.f
  by_cases h1 : p = 998244353
  · rw [if_pos h1, decide_eq_true (.inl h1)]
  · rw [if_neg h1]
    by_cases h2 : p = 167772161
    · rw [if_pos h2, decide_eq_true (.inr (.inl h2))]
    · rw [if_neg h2]
      by_cases h3 : p = 469762049
      · rw [decide_eq_true (.inr (.inr h3))]
        simp [h3]
      · have : ¬ IsP p := fun h => by unfold IsP at h; omega
        rw [decide_eq_false this]
        simp [h3]
theorem specPow0_ev (p : Nat) (hp : GoodP p) : ∀ (f n a r : Nat), n < 2 ^ f → n < 9223372036854775808 → a < p → r < p → Ev (fun k => spec_PowMod.l0 k (a : Int) (n : Int) (p : Int) (r : Int)) ((r * a ^ n % p : Nat) : Int) := by
  have hp0 := hp.gt
  have hp1 := hp.lt
  intro f
  induction f with
  | zero =>
    intro n a r hf _ ha hr
    have : n = 0 := by omega
    subst this
    rw [ev_shift]
    simp only [spec_PowMod.l0]
    rw [ev_neg (by omega), Nat.pow_zero, Nat.mul_one, Nat.mod_eq_of_lt hr]
    exact Ev.now _
  | succ f ih =>
    intro n a r hf hn ha hr
    rw [ev_shift]
    simp only [spec_PowMod.l0]
    by_cases c : n = 0
    · subst c
      rw [ev_neg (by omega), Nat.pow_zero, Nat.mul_one, Nat.mod_eq_of_lt hr]
      exact Ev.now _
    · have hm1 := Nat.mod_lt (a * a) (by omega : 0 < p)
      have hm2 := Nat.mod_lt (r * a) (by omega : 0 < p)
      have e2 : Int.tdiv (n : Int) 2 = ((n / 2 : Nat) : Int) := (Int.ofNat_tdiv n 2).symm
      have e3 : Int.tmod (n : Int) 2 = ((n % 2 : Nat) : Int) := (Int.ofNat_tmod n 2).symm
      have hs := pow_step r a n p
      have hf2 : n / 2 < 2 ^ f := by rw [Nat.pow_succ] at hf; omega
      rw [ev_pos (by omega), e3, mulmod (by omega) (by omega), mulmod (by omega) (by omega), e2, w64 (n := ((n / 2 : Nat) : Int)) (by omega) (by omega)]
      by_cases d : n % 2 = 1
      · rw [if_pos d] at hs
        have g := ih (n / 2) (a * a % p) (r * a % p) hf2 (by omega) hm1 hm2
        rw [hs] at g
        rw [ev_pos (by omega), ev_neg (by omega)]
        exact g
      · rw [if_neg d] at hs
        have g := ih (n / 2) (a * a % p) r hf2 (by omega) hm1 hr
        rw [hs] at g
        rw [ev_neg (by omega), ev_neg (by omega)]
        exact g
theorem specPow_ev (p n a : Nat) (hi : IsP (p : Int)) (hp : GoodP p) (hn : n ≤ 4000000000000000000) (ha : a < p) : Ev (fun k => spec_PowMod.f k (a : Int) (n : Int) (p : Int)) ((a ^ n % p : Nat) : Int) := by
  have hp0 := hp.gt
  have hp1 := hp.lt
  unfold spec_PowMod.f
  rw [l6Prime_eq, decide_eq_true hi, ev_sbind, ev_pos rfl, w64 (by omega) (by omega), l1In_eq, decide_eq_true (by omega), ev_sbind, ev_pos rfl, l1In_eq, decide_eq_true (by omega), ev_sbind, ev_shift]
  simp only [spec_PowMod.j0, Bool.not_true, Bool.false_eq_true, if_false]
  have g := specPow0_ev p hp 63 n a 1 (by omega) (by omega) ha hp.gt
  rw [Nat.one_mul] at g
  exact g

theorem specInv_ev (a p : Nat) (hi : IsP (p : Int)) (hp : GoodP p) (h0 : 0 < a) (h1 : a < p) : Ev (fun k => spec_InvMod.f k (a : Int) (p : Int)) ((invN a p : Nat) : Int) := by
  have hp0 := hp.gt
  have hp1 := hp.lt
  unfold spec_InvMod.f
  rw [l6Prime_eq, decide_eq_true hi, ev_sbind, ev_pos rfl, w64 (n := (p : Int) - 1) (by omega) (by omega), l1In_eq, decide_eq_true (by omega), ev_sbind, ev_pos rfl, w64 (by omega) (by omega)]
  have e : (p : Int) - 2 = ((p - 2 : Nat) : Int) := by omega
  rw [e, ev_bind (specPow_ev p (p - 2) a hi hp (by omega) h1)]
  exact Ev.now _

theorem specWholeN_ev (n : Nat) : Ev (fun k => spec_l6Whole.f k (n : Int)) (decide (Whole n)) := by
  unfold spec_l6Whole.f
  have step : ∀ (w : Int) (b : Bool), 1 ≤ w → w ≤ 256 → (Ev (fun k => spec_l6Whole.l0 k (n : Int) w) b ↔ (if (n : Int) = w then true = b else Ev (fun k => spec_l6Whole.l0 k (n : Int) (2 * w)) b)) := by
    intro w b h0 h1
    rw [ev_shift]
    simp only [spec_l6Whole.l0]
    rw [ev_pos h1, w64 (by omega) (by omega)]
    by_cases c : (n : Int) = w
    · rw [ev_pos c, if_pos c, ev_some_iff]
    · rw [ev_neg c, if_neg c]
  by_cases h : Whole n
  · rw [decide_eq_true h]
    rcases h with h | h | h | h | h | h | h | h | h <;> subst h <;> (repeat (first | (rw [step _ _ (by omega) (by omega)]) | (rw [if_neg (by omega)]) | (rw [if_pos (by omega)])))
  · rw [decide_eq_false h]
    unfold Whole at h
    rw [step 1 _ (by omega) (by omega), if_neg (by omega), step _ _ (by omega) (by omega), if_neg (by omega), step _ _ (by omega) (by omega), if_neg (by omega), step _ _ (by omega) (by omega), if_neg (by omega), step _ _ (by omega) (by omega), if_neg (by omega), step _ _ (by omega) (by omega), if_neg (by omega), step _ _ (by omega) (by omega), if_neg (by omega), step _ _ (by omega) (by omega), if_neg (by omega), step _ _ (by omega) (by omega), if_neg (by omega), ev_shift]
    simp only [spec_l6Whole.l0]
    rw [ev_neg (by omega)]
    exact Ev.now _

theorem specUnit_ev (n p : Nat) (hi : IsP (p : Int)) (hp : GoodP p) (hn : Whole n) : Ev (fun k => spec_Unit.f k (n : Int) (p : Int)) ((unitN n p : Nat) : Int) := by
  have hp0 := hp.gt
  have hp1 := hp.lt
  have hn1 := whole_le hn
  have h3 : 3 < p := by unfold IsP at hi; omega
  unfold spec_Unit.f
  rw [l6Prime_eq, decide_eq_true hi, ev_sbind, ev_pos rfl, ev_bind (specWholeN_ev n), decide_eq_true hn, ev_pos rfl, ev_neg (by omega), w64 (n := (p : Int) - 1) (by omega) (by omega)]
  have e : (p : Int) - 1 = ((p - 1 : Nat) : Int) := by omega
  have e2 : Int.tdiv ((p - 1 : Nat) : Int) (n : Int) = (((p - 1) / n : Nat) : Int) := (Int.ofNat_tdiv (p - 1) n).symm
  have hd : (p - 1) / n ≤ p - 1 := Nat.div_le_self _ _
  unfold unitN
  rw [e, e2]
  generalize (p - 1) / n = D at *
  have g : Ev (fun k => spec_PowMod.f k 3 (D : Int) (p : Int)) ((3 ^ D % p : Nat) : Int) := specPow_ev p D 3 hi hp (by omega) h3
  rw [w64 (by omega) (by omega), ev_bind g]
  exact Ev.now _
theorem specRow_ev (l : List Int) (p : Int) (hl : l.length ≤ 2000000) (hp0 : 0 ≤ p) (hp1 : p ≤ 2000000000) : ∃ b, Ev (fun k => spec_l6Row.f k l p) b ∧ (b = true ↔ l.length ≤ 256 ∧ RowOk p l) := by
  unfold spec_l6Row.f
  refine ⟨(List.range l.length).all (fun i => decide (0 ≤ rd l (i : Int) ∧ rd l (i : Int) ≤ p - 1)) && decide (l.length ≤ 256), ?_, ?_⟩
  · rw [all_iff (fun k i => spec_l6Row.l0 k l p i) (fun i => decide (0 ≤ rd l (i : Int) ∧ rd l (i : Int) ≤ p - 1)) l.length _ false]
    · split
      · rename_i hq
        rw [hq, Bool.true_and, ev_shift]
        simp only [spec_l6Row.l0]
        rw [ev_neg (by omega), ev_some_iff, decide_eq_decide]
        omega
      · rename_i hq
        simp only [Bool.not_eq_true] at hq
        rw [hq, Bool.false_and]
    · intro i hi
      by_cases c : 0 ≤ rd l (i : Int) ∧ rd l (i : Int) ≤ p - 1
      · rw [if_pos (decide_eq_true c), ev_shift]
        simp only [spec_l6Row.l0]
        rw [ev_pos (by omega), ev_pos (by omega), w64 (n := p - 1) (by omega) (by omega), l1In_eq, ev_sbind, ev_pos (decide_eq_true c), w64 (by omega) (by omega)]
      · rw [if_neg (by rw [decide_eq_false c]; decide), ev_shift]
        simp only [spec_l6Row.l0]
        rw [ev_pos (by omega), ev_pos (by omega), w64 (n := p - 1) (by omega) (by omega), l1In_eq, ev_sbind, ev_neg (by rw [decide_eq_false c]; decide), ev_some_iff]
  · rw [Bool.and_eq_true, range_all, decide_eq_true_eq]
    constructor
    · rintro ⟨h1, h2⟩
      exact ⟨h2, fun i hi => by have := of_decide_eq_true (h1 i hi); omega⟩
    · rintro ⟨h1, h2⟩
      exact ⟨fun i hi => decide_eq_true (by have := h2 i hi; omega), h1⟩
theorem specCore_ev (l : List Int) (p w sc : Nat) (hp : GoodP p) (hw : w < p) (hsc : sc < p) (hn0 : 0 < l.length) (hn : l.length ≤ 256) (hr : RowOk (p : Int) l) :
    Ev (fun k => spec_Dft.j1 k l (p : Int) (l.length : Int) (w : Int) (sc : Int)) (dftV l p w sc, true) := by
  have hp0 := hp.gt
  have hp1 := hp.lt
  rw [ev_shift]
  simp only [spec_Dft.j1]
  have g := for_iff (fun q (s : List Int × Int) k => spec_Dft.l0 q l (p : Int) (l.length : Int) (w : Int) (sc : Int) s.1 s.2 k) (fun k s => (s.1 ++ [(dftN l p w sc k : Int)], ((w ^ (k + 1) % p : Nat) : Int))) (fun k s => s = (tab k (fun k => (dftN l p w sc k : Int)), ((w ^ k % p : Nat) : Int))) l.length (dftV l p w sc, true) ?_ ([], 1) (by simp [tab_zero, Nat.mod_eq_of_lt hp0])
  · rw [g.2, g.1, ev_shift]
    simp only [spec_Dft.l0]
    rw [ev_neg (by omega)]
    exact Ev.now _
  · intro k s hk hs
    subst hs
    refine ⟨by simp only [tab_succ], ?_⟩
    rw [ev_shift]
    simp only [spec_Dft.l0]
    rw [ev_pos (by omega)]
    have hwk := Nat.mod_lt (w ^ k) (by omega : 0 < p)
    have q := for_iff (fun q (c : Int × Int) i => spec_Dft.l1 q l (p : Int) (l.length : Int) (w : Int) (sc : Int) (tab k (fun k => (dftN l p w sc k : Int))) ((w ^ k % p : Nat) : Int) (k : Int) c.1 c.2 i) (fun i _ => (((sumN (fun i => (rd l (i : Int)).toNat * w ^ (i * k)) (i + 1) % p : Nat) : Int), ((w ^ ((i + 1) * k) % p : Nat) : Int))) (fun i c => c = (((sumN (fun i => (rd l (i : Int)).toNat * w ^ (i * k)) i % p : Nat) : Int), ((w ^ (i * k) % p : Nat) : Int))) l.length (dftV l p w sc, true) ?_ (0, 1) ?_
    · rw [q.2, q.1, ev_shift]
      simp only [spec_Dft.l1, tab_length]
      have hm := Nat.mod_lt (sumN (fun i => (rd l (i : Int)).toNat * w ^ (i * k)) l.length) (by omega : 0 < p)
      rw [ev_neg (by omega), ev_neg (by omega), ev_pos (by omega), mulmod (by omega) (by omega), mulmod (by omega) (by omega), w64 (by omega) (by omega), Nat.mod_mul_mod, Nat.mod_mul_mod, ← Nat.pow_succ]
      exact Iff.rfl
    · intro i c hi hc
      subst hc
      refine ⟨rfl, ?_⟩
      rw [ev_shift]
      simp only [spec_Dft.l1]
      have hm := Nat.mod_lt (sumN (fun i => (rd l (i : Int)).toNat * w ^ (i * k)) i) (by omega : 0 < p)
      have hm2 := Nat.mod_lt (w ^ (i * k)) (by omega : 0 < p)
      obtain ⟨x0, x1⟩ := hr i hi
      have ex : rd l (i : Int) = ((rd l (i : Int)).toNat : Int) := by omega
      rw [ex, addmulmod (by omega) (by omega) (by omega), mulmod (by omega) (by omega), ev_pos (by omega), ev_pos (by omega), ev_pos (by omega), ev_neg (by omega), w64 (n := (i : Int) + 1) (by omega) (by omega)]
      have key : (sumN (fun i => (rd l (i : Int)).toNat * w ^ (i * k)) i % p + (rd l (i : Int)).toNat * (w ^ (i * k) % p)) % p = sumN (fun i => (rd l (i : Int)).toNat * w ^ (i * k)) (i + 1) % p := by
        rw [sumN_succ, Nat.add_mod, Nat.mod_mod, Nat.mul_mod, Nat.mod_mod, ← Nat.mul_mod, ← Nat.add_mod]
      have key2 : w ^ (i * k) % p * (w ^ k % p) % p = w ^ ((i + 1) * k) % p := by
        rw [← Nat.mul_mod, ← Nat.pow_add, Nat.add_mul, Nat.one_mul]
      rw [key, key2]
    · simp [sumN, Nat.mod_eq_of_lt hp0]
theorem specDft_ev (l : List Int) (p : Int) (back : Bool) (hl : l.length ≤ 2000000) : Ev (fun k => spec_Dft.f k l p back) (dftR l p back) := by
  unfold spec_Dft.f
  have no : ¬ (IsP p ∧ l.length ≤ 256 ∧ RowOk p l ∧ Whole l.length) → Ev (fun k => spec_Dft.j0 k l p back (l.length : Int) true) (dftR l p back) := by
    intro h
    rw [ev_shift, dftR, if_neg h]
    simp only [spec_Dft.j0, if_true]
    exact Ev.now _
  rw [l6Prime_eq, ev_sbind]
  by_cases h1 : IsP p
  · obtain ⟨q, rfl, hq⟩ := good_of h1
    have hp0 := hq.gt
    have hp1 := hq.lt
    obtain ⟨b, hb, hiff⟩ := specRow_ev l (q : Int) hl (by omega) (by omega)
    rw [ev_pos (by simpa using h1), ev_bind hb]
    by_cases h2 : b = true
    · have h2' := hiff.1 h2
      rw [ev_pos h2, ev_bind (specWholeN_ev l.length)]
      by_cases h3 : Whole l.length
      · have hn := whole_le h3
        have hu := unit_one hq h3
        have hul : unitN l.length q < q := Nat.mod_lt _ (by omega)
        have hu0 : 0 < unitN l.length q := by
          apply Nat.pos_of_ne_zero
          intro e
          have hu' : unitN l.length q ^ l.length % q = 1 := hu
          rw [e, Nat.zero_pow (by omega), Nat.zero_mod] at hu'
          omega
        rw [decide_eq_true h3, ev_shift, dftR, if_pos ⟨h1, h2'.1, h2'.2, h3⟩, Int.toNat_natCast]
        simp only [spec_Dft.j0, Bool.not_true, Bool.false_eq_true, if_false]
        rw [ev_bind (specUnit_ev l.length q h1 hq h3)]
        have hlq : l.length < q := by unfold IsP at h1; omega
        cases back with
        | true =>
          rw [ev_pos rfl, ev_bind (specInv_ev (unitN l.length q) q h1 hq hu0 hul), ev_bind (specInv_ev l.length q h1 hq (by omega) hlq)]
          exact specCore_ev l q _ _ hq (Nat.mod_lt _ (by omega)) (Nat.mod_lt _ (by omega)) (by omega) (by omega) h2'.2
        | false =>
          rw [ev_neg (by decide)]
          exact specCore_ev l q _ 1 hq hul (by omega) (by omega) (by omega) h2'.2
      · rw [decide_eq_false h3]
        exact no (fun h => h3 h.2.2.2)
    · rw [ev_neg h2]
      exact no (fun h => h2 (hiff.2 ⟨h.2.1, h.2.2.1⟩))
  · rw [ev_neg (by simpa using h1)]
    exact no (fun h => h1 h.1)


theorem isPrime_eq (p : Int) : impl_isPrime.f p = some (decide (IsP p)) := by
  unfold impl_isPrime.f
  by_cases h1 : p = 998244353
  · rw [if_pos h1, decide_eq_true (.inl h1)]
  · rw [if_neg h1]
    by_cases h2 : p = 167772161
    · rw [if_pos h2, decide_eq_true (.inr (.inl h2))]
    · rw [if_neg h2]
      by_cases h3 : p = 469762049
      · rw [decide_eq_true (.inr (.inr h3))]
        simp [h3]
      · have : ¬ IsP p := fun h => by unfold IsP at h; omega
        rw [decide_eq_false this]
        simp [h3]
theorem residue_eq (a p : Int) : impl_residue.f a p = some (decide (0 ≤ a ∧ a < p)) := by
  unfold impl_residue.f
  by_cases h : a ≥ 0
  · rw [if_pos h]
    congr 1
    rw [decide_eq_decide]
    omega
  · rw [if_neg h]
    congr 1
    symm
    rw [decide_eq_false_iff_not]
    omega
theorem implPow0_ev (p : Nat) (hp : GoodP p) : ∀ (f n a r : Nat), n < 2 ^ f → n < 9223372036854775808 → a < p → r < p → Ev (fun k => impl_power.l0 k (a : Int) (n : Int) (p : Int) (r : Int)) ((r * a ^ n % p : Nat) : Int) := by
  have hp0 := hp.gt
  have hp1 := hp.lt
  intro f
  induction f with
  | zero =>
    intro n a r hf _ ha hr
    have : n = 0 := by omega
    subst this
    rw [ev_shift]
    simp only [impl_power.l0]
    rw [ev_neg (by omega), Nat.pow_zero, Nat.mul_one, Nat.mod_eq_of_lt hr]
    exact Ev.now _
  | succ f ih =>
    intro n a r hf hn ha hr
    rw [ev_shift]
    simp only [impl_power.l0]
    by_cases c : n = 0
    · subst c
      rw [ev_neg (by omega), Nat.pow_zero, Nat.mul_one, Nat.mod_eq_of_lt hr]
      exact Ev.now _
    · have hm1 := Nat.mod_lt (a * a) (by omega : 0 < p)
      have hm2 := Nat.mod_lt (r * a) (by omega : 0 < p)
      have e2 : (n : Int) / 2 = ((n / 2 : Nat) : Int) := by omega
      have hs := pow_step r a n p
      have hf2 : n / 2 < 2 ^ f := by rw [Nat.pow_succ] at hf; omega
      rw [ev_pos (by omega), band_one n hn, mulmod (by omega) (by omega), mulmod (by omega) (by omega), e2]
      by_cases d : n % 2 = 1
      · rw [if_pos d] at hs
        have g := ih (n / 2) (a * a % p) (r * a % p) hf2 (by omega) hm1 hm2
        rw [hs] at g
        rw [ev_pos (by omega), ev_neg (by omega)]
        exact g
      · rw [if_neg d] at hs
        have g := ih (n / 2) (a * a % p) r hf2 (by omega) hm1 hr
        rw [hs] at g
        rw [ev_neg (by omega), ev_neg (by omega)]
        exact g
theorem implPow_ev (p n a : Nat) (hp : GoodP p) (hn : n < 9223372036854775808) (ha : a < p) : Ev (fun k => impl_power.f k (a : Int) (n : Int) (p : Int)) ((a ^ n % p : Nat) : Int) := by
  unfold impl_power.f
  have g := implPow0_ev p hp 63 n a 1 (by omega) hn ha hp.gt
  rw [Nat.one_mul] at g
  exact g

theorem implInv_ev (a p : Nat) (hi : IsP (p : Int)) (hp : GoodP p) (h0 : 0 < a) (h1 : a < p) : Ev (fun k => impl_InvMod.f k (a : Int) (p : Int)) ((invN a p : Nat) : Int) := by
  have hp0 := hp.gt
  have hp1 := hp.lt
  unfold impl_InvMod.f
  rw [isPrime_eq, decide_eq_true hi, ev_sbind, ev_pos rfl, residue_eq, decide_eq_true (by omega), ev_sbind, ev_pos rfl, ev_neg (by omega), w64 (by omega) (by omega)]
  have e : (p : Int) - 2 = ((p - 2 : Nat) : Int) := by omega
  rw [e, ev_bind (implPow_ev p (p - 2) a hp (by omega) h1)]
  exact Ev.now _


theorem band_whole : ∀ n : Fin 257, 1 ≤ n.val → ((n.val &&& (n.val - 1)) == 0) = decide (Whole n.val) := by decide +kernel
theorem implWhole_eq (n : Nat) : impl_whole.f (n : Int) = some (decide (Whole n)) := by
  unfold impl_whole.f
  by_cases h0 : (n : Int) ≥ 1
  · rw [if_pos h0]
    by_cases h1 : (n : Int) ≤ 256
    · rw [if_pos h1, w64 (by omega) (by omega)]
      have e : (n : Int) - 1 = ((n - 1 : Nat) : Int) := by omega
      rw [e, band_nat n (n - 1) (by omega) (by omega)]
      have := band_whole ⟨n, by omega⟩ (by show 1 ≤ n; omega)
      simp only at this
      rw [← this]
      congr 1
      rw [Bool.eq_iff_iff, beq_iff_eq, beq_iff_eq]
      omega
    · rw [if_neg h1, decide_eq_false (fun h => by have := whole_le h; omega)]
  · rw [if_neg h0, decide_eq_false (fun h => by have := whole_le h; omega)]

theorem implUnit_ev (n p : Nat) (hi : IsP (p : Int)) (hp : GoodP p) (hn : Whole n) : Ev (fun k => impl_Unit.f k (n : Int) (p : Int)) ((unitN n p : Nat) : Int) := by
  have hp0 := hp.gt
  have hp1 := hp.lt
  have hn1 := whole_le hn
  have h3 : 3 < p := by unfold IsP at hi; omega
  unfold impl_Unit.f
  rw [isPrime_eq, decide_eq_true hi, ev_sbind, ev_pos rfl, implWhole_eq, decide_eq_true hn, ev_sbind, ev_pos rfl, ev_neg (by omega), w64 (n := (p : Int) - 1) (by omega) (by omega)]
  have e : (p : Int) - 1 = ((p - 1 : Nat) : Int) := by omega
  have e2 : Int.tdiv ((p - 1 : Nat) : Int) (n : Int) = (((p - 1) / n : Nat) : Int) := (Int.ofNat_tdiv (p - 1) n).symm
  have hd : (p - 1) / n ≤ p - 1 := Nat.div_le_self _ _
  unfold unitN
  rw [e, e2]
  generalize (p - 1) / n = D at *
  have g : Ev (fun k => impl_power.f k 3 (D : Int) (p : Int)) ((3 ^ D % p : Nat) : Int) := implPow_ev p D 3 hp (by omega) h3
  rw [w64 (by omega) (by omega), ev_bind g]
  exact Ev.now _

theorem implRow_ev (l : List Int) (p : Int) (hl : l.length ≤ 2000000) (hp0 : 0 ≤ p) (hp1 : p ≤ 2000000000) : ∃ b, Ev (fun k => impl_row.f k l p) b ∧ (b = true ↔ l.length ≤ 256 ∧ RowOk p l) := by
  unfold impl_row.f
  refine ⟨(List.range l.length).all (fun i => decide (0 ≤ rd l (i : Int) ∧ rd l (i : Int) < p)) && decide (l.length ≤ 256), ?_, ?_⟩
  · rw [all_iff (fun k i => impl_row.l0 k l p l (l.length : Int) i) (fun i => decide (0 ≤ rd l (i : Int) ∧ rd l (i : Int) < p)) l.length _ false]
    · split
      · rename_i hq
        rw [hq, Bool.true_and, ev_shift]
        simp only [impl_row.l0]
        rw [ev_neg (by omega), ev_some_iff, decide_eq_decide]
        omega
      · rename_i hq
        simp only [Bool.not_eq_true] at hq
        rw [hq, Bool.false_and]
    · intro i hi
      by_cases c : 0 ≤ rd l (i : Int) ∧ rd l (i : Int) < p
      · rw [if_pos (by simpa using c), ev_shift]
        simp only [impl_row.l0]
        rw [ev_pos (by omega), ev_pos (by omega), ev_pos (by omega), residue_eq, ev_sbind, ev_pos (by simpa using c), w64 (by omega) (by omega)]
      · rw [if_neg (by simpa using c), ev_shift]
        simp only [impl_row.l0]
        rw [ev_pos (by omega), ev_pos (by omega), ev_pos (by omega), residue_eq, ev_sbind, ev_neg (by simpa using c), ev_some_iff]
  · rw [Bool.and_eq_true, range_all, decide_eq_true_eq]
    constructor
    · rintro ⟨h1, h2⟩
      exact ⟨h2, fun i hi => by simpa using h1 i hi⟩
    · rintro ⟨h1, h2⟩
      exact ⟨fun i hi => by simpa using h2 i hi, h1⟩
theorem implTurns_ev (l : List Int) (p w sc : Nat) (r : List Int × Bool) (hp : GoodP p) (hw : w < p) (hn0 : 0 < l.length) (hn : l.length ≤ 256)
    (h : Ev (fun k => impl_Dft.l0 k l (p : Int) (l.length : Int) (w : Int) (sc : Int) (tab l.length fun j => ((w ^ j % p : Nat) : Int)) (l.length : Int)) r) :
    Ev (fun k => impl_Dft.l0 k l (p : Int) (l.length : Int) (w : Int) (sc : Int) ((List.replicate l.length 0).set 0 1) 1) r := by
  have hp0 := hp.gt
  have hp1 := hp.lt
  have g := for_at (fun k s i => impl_Dft.l0 k l (p : Int) (l.length : Int) (w : Int) (sc : Int) s i) (fun i _ => tab l.length fun j => if j < i + 2 then ((w ^ j % p : Nat) : Int) else 0) (fun i s => s = tab l.length fun j => if j < i + 1 then ((w ^ j % p : Nat) : Int) else 0) 1 (l.length - 1) r ?_ ((List.replicate l.length 0).set 0 1) ?_
  · rw [g.2, g.1]
    have e : (1 : Int) + ((l.length - 1 : Nat) : Int) = (l.length : Int) := by omega
    rw [e]
    have e2 : (tab l.length fun j => if j < l.length - 1 + 1 then ((w ^ j % p : Nat) : Int) else 0) = tab l.length fun j => ((w ^ j % p : Nat) : Int) := tab_congr fun j hj => by rw [if_pos (by omega)]
    rw [e2]
    exact h
  · intro i s hi hs
    subst hs
    refine ⟨rfl, ?_⟩
    rw [ev_shift]
    simp only [impl_Dft.l0, tab_length]
    have e1 : (1 : Int) + (i : Int) - 1 = (i : Int) := by omega
    have hm := Nat.mod_lt (w ^ i) (by omega : 0 < p)
    rw [ev_pos (by omega), e1, w64 (n := (i : Int)) (by omega) (by omega), rd_tab' (by omega), if_pos (by omega), mulmod (by omega) (by omega), ev_pos (by omega), ev_pos (by omega), ev_neg (by omega), ev_pos (by omega), ev_pos (by omega), w64 (n := (1 : Int) + (i : Int) + 1) (by omega) (by omega)]
    have e2 : ((1 : Int) + (i : Int)).toNat = i + 1 := by omega
    rw [e2, set_tab _ _ (by omega)]
    have e3 : (tab l.length fun m => if m = i + 1 then ((w ^ i % p * w % p : Nat) : Int) else if m < i + 1 then ((w ^ m % p : Nat) : Int) else 0) = tab l.length fun j => if j < i + 2 then ((w ^ j % p : Nat) : Int) else 0 := by
      refine tab_congr fun j _ => ?_
      by_cases c : j = i + 1
      · subst c
        rw [if_pos rfl, if_pos (by omega), Nat.pow_succ, Nat.mod_mul_mod]
      · rw [if_neg c]
        by_cases d : j < i + 1
        · rw [if_pos d, if_pos (by omega)]
        · rw [if_neg d, if_neg (by omega)]
    rw [e3]
  · refine eq_tab (by simp) fun j hj => ?_
    have h := rd_set (l := List.replicate l.length (0 : Int)) (i := (j : Int)) (j := 0) (v := 1) (by omega) (by simp; omega) (by omega)
    have e0 : (0 : Int).toNat = 0 := rfl
    rw [e0] at h
    rw [h]
    by_cases c : j = 0
    · subst c
      simp [Nat.mod_eq_of_lt hp0]
    · rw [if_neg (by omega), if_neg (by omega), rd_replicate]
theorem implCore_ev (l : List Int) (p w sc : Nat) (hp : GoodP p) (hw : w < p) (hsc : sc < p) (hn0 : 0 < l.length) (hn : l.length ≤ 256) (hr : RowOk (p : Int) l) (hper : w ^ l.length % p = 1) :
    Ev (fun k => impl_Dft.j1 k l (p : Int) (l.length : Int) (w : Int) (sc : Int)) (dftV l p w sc, true) := by
  have hp0 := hp.gt
  have hp1 := hp.lt
  rw [ev_shift]
  simp only [impl_Dft.j1]
  have hrep : (List.replicate l.length (0 : Int)).length = l.length := by simp
  have e0 : (0 : Int).toNat = 0 := rfl
  rw [ev_pos (by omega), Int.toNat_natCast, ev_pos (by omega), ev_sbind, ev_pos (by omega), e0]
  refine implTurns_ev l p w sc _ hp hw hn0 hn ?_
  rw [ev_shift]
  simp only [impl_Dft.l0]
  rw [ev_neg (by omega), ev_pos (by omega), Int.toNat_natCast, ev_pos (by omega), ev_sbind, hrep]
  have hmap := map_loop (fun k s i => impl_Dft.l1 k l (p : Int) (l.length : Int) (sc : Int) (tab l.length fun j => ((w ^ j % p : Nat) : Int)) s (l.length : Int) i) (List.replicate l.length 0) (fun k => (dftN l p w sc k : Int)) (dftV l p w sc, true) ?_
  · rw [hmap, hrep, ev_shift]
    simp only [impl_Dft.l1]
    rw [ev_neg (by omega)]
    exact Ev.now _
  · intro k s hk hs _
    rw [hrep] at hk hs
    rw [ev_shift]
    simp only [impl_Dft.l1]
    rw [ev_pos (by omega)]
    have g := for_iff (fun q c i => impl_Dft.l2 q l (p : Int) (l.length : Int) (sc : Int) (tab l.length fun j => ((w ^ j % p : Nat) : Int)) s (k : Int) c (l.length : Int) (k : Int) l (l.length : Int) i) (fun i _ => ((sumN (fun i => (rd l (i : Int)).toNat * w ^ (i * k)) (i + 1) % p : Nat) : Int)) (fun i c => c = ((sumN (fun i => (rd l (i : Int)).toNat * w ^ (i * k)) i % p : Nat) : Int)) l.length (dftV l p w sc, true) ?_ 0 ?_
    · rw [g.2, g.1, ev_shift]
      simp only [impl_Dft.l2]
      have hm := Nat.mod_lt (sumN (fun i => (rd l (i : Int)).toNat * w ^ (i * k)) l.length) (by omega : 0 < p)
      rw [ev_neg (by omega), ev_neg (by omega), ev_pos (by omega), ev_pos (by omega), mulmod (by omega) (by omega), w64 (by omega) (by omega), Int.toNat_natCast, Nat.mod_mul_mod]
      exact Iff.rfl
    · intro i c hi hc
      subst hc
      refine ⟨rfl, ?_⟩
      rw [ev_shift]
      simp only [impl_Dft.l2, tab_length]
      have h256 : i * k ≤ 256 * 256 := Nat.mul_le_mul (by omega) (by omega)
      have e1 : (i : Int) * (k : Int) = ((i * k : Nat) : Int) := by simp
      have hmn := Nat.mod_lt (i * k) hn0
      have hm := Nat.mod_lt (sumN (fun i => (rd l (i : Int)).toNat * w ^ (i * k)) i) (by omega : 0 < p)
      have hm2 := Nat.mod_lt (w ^ (i * k % l.length)) (by omega : 0 < p)
      obtain ⟨x0, x1⟩ := hr i hi
      have ex : rd l (i : Int) = ((rd l (i : Int)).toNat : Int) := by omega
      rw [e1, w64 (n := ((i * k : Nat) : Int)) (by omega) (by omega), tmod_nat, rd_tab' hmn, ex, addmulmod (by omega) (by omega) (by omega), ev_pos (by omega), ev_pos (by omega), ev_pos (by omega), ev_neg (by omega), ev_pos (by omega), ev_pos (by omega), ev_neg (by omega), w64 (n := (i : Int) + 1) (by omega) (by omega)]
      have key : (sumN (fun i => (rd l (i : Int)).toNat * w ^ (i * k)) i % p + (rd l (i : Int)).toNat * (w ^ (i * k % l.length) % p)) % p = sumN (fun i => (rd l (i : Int)).toNat * w ^ (i * k)) (i + 1) % p := by
        have hq : w ^ l.length % p = 1 % p := by rw [hper, Nat.mod_eq_of_lt hp0]
        rw [← pow_period hq, sumN_succ, Nat.add_mod, Nat.mod_mod, Nat.mul_mod, Nat.mod_mod, ← Nat.mul_mod, ← Nat.add_mod]
      rw [key]
    · rfl
theorem implDft_ev (l : List Int) (p : Int) (back : Bool) (hl : l.length ≤ 2000000) : Ev (fun k => impl_Dft.f k l p back) (dftR l p back) := by
  unfold impl_Dft.f
  have no : ¬ (IsP p ∧ l.length ≤ 256 ∧ RowOk p l ∧ Whole l.length) → Ev (fun k => impl_Dft.j0 k l p back (l.length : Int) true) (dftR l p back) := by
    intro h
    rw [ev_shift, dftR, if_neg h]
    simp only [impl_Dft.j0, if_true]
    exact Ev.now _
  rw [isPrime_eq, ev_sbind]
  by_cases h1 : IsP p
  · obtain ⟨q, rfl, hq⟩ := good_of h1
    have hp0 := hq.gt
    have hp1 := hq.lt
    obtain ⟨b, hb, hiff⟩ := implRow_ev l (q : Int) hl (by omega) (by omega)
    rw [ev_pos (by simpa using h1), ev_bind hb]
    by_cases h2 : b = true
    · have h2' := hiff.1 h2
      rw [ev_pos h2, implWhole_eq, ev_sbind]
      by_cases h3 : Whole l.length
      · have hn := whole_le h3
        have hu := unit_one hq h3
        have hul : unitN l.length q < q := Nat.mod_lt _ (by omega)
        have hu0 : 0 < unitN l.length q := by
          apply Nat.pos_of_ne_zero
          intro e
          have hu' : unitN l.length q ^ l.length % q = 1 := hu
          rw [e, Nat.zero_pow (by omega), Nat.zero_mod] at hu'
          omega
        rw [decide_eq_true h3, ev_shift, dftR, if_pos ⟨h1, h2'.1, h2'.2, h3⟩, Int.toNat_natCast]
        simp only [impl_Dft.j0, Bool.not_true, Bool.false_eq_true, if_false]
        rw [ev_bind (implUnit_ev l.length q h1 hq h3)]
        have hlq : l.length < q := by unfold IsP at h1; omega
        cases back with
        | true =>
          rw [ev_pos rfl, ev_bind (implInv_ev (unitN l.length q) q h1 hq hu0 hul), ev_bind (implInv_ev l.length q h1 hq (by omega) hlq)]
          have h4 := inv_one (p := q) (n := l.length) (w := unitN l.length q) hu
          rw [Nat.mod_eq_of_lt hp0] at h4
          exact implCore_ev l q _ _ hq (Nat.mod_lt _ (by omega)) (Nat.mod_lt _ (by omega)) (by omega) (by omega) h2'.2 h4
        | false =>
          rw [ev_neg (by decide)]
          exact implCore_ev l q _ 1 hq hul (by omega) (by omega) (by omega) h2'.2 hu
      · rw [decide_eq_false h3]
        exact no (fun h => h3 h.2.2.2)
    · rw [ev_neg h2]
      exact no (fun h => h2 (hiff.2 ⟨h.2.1, h.2.2.1⟩))
  · rw [ev_neg (by simpa using h1)]
    exact no (fun h => h1 h.1)

theorem dftR_iff (l : List Int) (p : Int) (back : Bool) : (dftR l p back).2 = true ↔ IsP p ∧ l.length ≤ 256 ∧ RowOk p l ∧ Whole l.length := by
  unfold dftR
  split
  · rename_i h; simp [h]
  · rename_i h; simp [h]
theorem dftR_of {l : List Int} {p : Int} {back : Bool} (h : (dftR l p back).2 = true) : dftR l p back = ((dftR l p back).1, true) := by rw [← h]
theorem dftR_no {l : List Int} {p : Int} {back : Bool} (h : ¬ (dftR l p back).2 = true) : dftR l p back = ([], false) := by
  unfold dftR
  rw [if_neg (fun q => h ((dftR_iff l p back).2 q))]
theorem dftR_len {l : List Int} {p : Int} {back : Bool} (h : (dftR l p back).2 = true) : (dftR l p back).1.length = l.length := by
  have q := (dftR_iff l p back).1 h
  unfold dftR
  rw [if_pos q]
  exact dftFull_length _ _ _
theorem dftN_lt {l : List Int} {p w sc k : Nat} (hp : 0 < p) : dftN l p w sc k < p := Nat.mod_lt _ hp
theorem dftR_row {l : List Int} {p : Int} {back : Bool} (h : (dftR l p back).2 = true) : RowOk p (dftR l p back).1 := by
  have q := (dftR_iff l p back).1 h
  obtain ⟨P, rfl, hq⟩ := good_of q.1
  unfold dftR
  rw [if_pos q]
  show RowOk (P : Int) (dftFull l P back)
  have v : ∀ w sc, RowOk (P : Int) (dftV l P w sc) := by
    intro w sc i hi
    unfold dftV at hi ⊢
    rw [tab_length] at hi
    rw [rd_tab' hi]
    have := dftN_lt (l := l) (p := P) (w := w) (sc := sc) (k := i) (by have := hq.gt; omega)
    omega
  unfold dftFull
  split
  · exact v _ _
  · exact v _ _
/-- the rows' transforms -/
noncomputable def mid (x : List (List Int)) (p : Int) (back : Bool) (i : Nat) : List Int := (dftR (rd_L1 x (i : Int)) p back).1
noncomputable def colIn (x : List (List Int)) (p : Int) (back : Bool) (c : Nat) : List Int := tab x.length fun i => rd (mid x p back i) (c : Int)
noncomputable def colOut (x : List (List Int)) (p : Int) (back : Bool) (c : Nat) : List Int := (dftR (colIn x p back c) p back).1
def GoodR (x : List (List Int)) (p : Int) (back : Bool) (i : Nat) : Prop := (dftR (rd_L1 x (i : Int)) p back).2 = true ∧ (rd_L1 x (i : Int)).length = (rd_L1 x 0).length
def D2ok (x : List (List Int)) (p : Int) (back : Bool) : Prop := Whole x.length ∧ ∀ i, i < x.length → GoodR x p back i
noncomputable def d2V (x : List (List Int)) (p : Int) (back : Bool) : List (List Int) := tabL x.length fun i => tab (rd_L1 x 0).length fun c => rd (colOut x p back c) (i : Int)
open Classical in
noncomputable def d2R (x : List (List Int)) (p : Int) (back : Bool) : List (List Int) × Bool := if D2ok x p back then (d2V x p back, true) else ([], false)
theorem whole_pos {n : Nat} (h : Whole n) : 0 < n := by unfold Whole at h; omega
theorem whole_le' {n : Nat} (h : Whole n) : n ≤ 256 := by unfold Whole at h; omega
theorem mid_len {x : List (List Int)} {p : Int} {back : Bool} {i : Nat} (h : GoodR x p back i) : (mid x p back i).length = (rd_L1 x 0).length := by
  unfold mid
  rw [dftR_len h.1]
  exact h.2
theorem col_ok {x : List (List Int)} {p : Int} {back : Bool} (h : D2ok x p back) {c : Nat} (hc : c < (rd_L1 x 0).length) : (dftR (colIn x p back c) p back).2 = true := by
  have h0 := (h.2 0 (whole_pos h.1))
  refine (dftR_iff _ _ _).2 ⟨((dftR_iff _ _ _).1 h0.1).1, by unfold colIn; rw [tab_length]; exact whole_le' h.1, fun i hi => ?_, by unfold colIn; rw [tab_length]; exact h.1⟩
  unfold colIn at hi ⊢
  rw [tab_length] at hi
  rw [rd_tab' hi]
  exact dftR_row (h.2 i hi).1 c (by rw [dftR_len (h.2 i hi).1, (h.2 i hi).2]; exact hc)
theorem colOut_len {x : List (List Int)} {p : Int} {back : Bool} (h : D2ok x p back) {c : Nat} (hc : c < (rd_L1 x 0).length) : (colOut x p back c).length = x.length := by
  unfold colOut
  rw [dftR_len (col_ok h hc)]
  unfold colIn
  rw [tab_length]
/-- out's rows when the columns ahead of c are done, and of column c the rows ahead of j -/
noncomputable def cell2 (x : List (List Int)) (p : Int) (back : Bool) (c j i d : Nat) : Int := if d < c ∨ (d = c ∧ i < j) then rd (colOut x p back d) (i : Int) else rd (mid x p back i) (d : Int)
noncomputable def st2 (x : List (List Int)) (p : Int) (back : Bool) (c j : Nat) : List (List Int) := tabL x.length fun i => tab (rd_L1 x 0).length fun d => cell2 x p back c j i d
theorem implDft2_ev (x : List (List Int)) (p : Int) (back : Bool) (hn : x.length ≤ 2000000) (hr : ∀ r ∈ x, r.length ≤ 2000000) : Ev (fun k => impl_Dft2.f k x p back) (d2R x p back) := by
  unfold impl_Dft2.f
  rw [implWhole_eq, ev_sbind]
  by_cases hw : Whole x.length
  · rw [ev_pos (by simpa using hw)]
    have hpos := whole_pos hw
    have hb0 := hr _ (rdL_mem (x := x) (i := 0) hpos)
    have hb0' : (rd_L1 x 0).length ≤ 2000000 := hb0
    have cols : D2ok x p back → Ev (fun k => impl_Dft2.l1 k p back (tabL x.length (mid x p back)) ((rd_L1 x 0).length : Int) 0) (d2R x p back) := by
      intro hd
      rw [show tabL x.length (mid x p back) = st2 x p back 0 0 from tabL_congr fun i hi => by
        refine eq_tab (mid_len (hd.2 i hi)) fun d _ => ?_
        unfold cell2
        rw [if_neg (by omega)]]
      have step : ∀ c : Nat, c < (rd_L1 x 0).length → ∀ r, Ev (fun k => impl_Dft2.l1 k p back (st2 x p back c 0) ((rd_L1 x 0).length : Int) (c : Int)) r ↔ Ev (fun k => impl_Dft2.l1 k p back (st2 x p back (c + 1) 0) ((rd_L1 x 0).length : Int) ((c : Int) + 1)) r := by
        intro c hc r
        have slen : ∀ a b, (st2 x p back a b).length = x.length := fun a b => by simp [st2]
        have srow : ∀ a b (i : Nat), i < x.length → rd_L1 (st2 x p back a b) (i : Int) = tab (rd_L1 x 0).length fun d => cell2 x p back a b i d := fun a b i hi => rdL_tab hi
        rw [ev_shift]
        simp only [impl_Dft2.l1]
        rw [ev_pos (by omega)]
        have g := fun r => for_iff (fun k (s : List Int) i => impl_Dft2.l2 k p back (st2 x p back c 0) (c : Int) s ((rd_L1 x 0).length : Int) (c : Int) (st2 x p back c 0) ((st2 x p back c 0).length : Int) i)
          (fun i _ => tab (i + 1) fun i => rd (mid x p back i) (c : Int)) (fun i s => s = tab i fun i => rd (mid x p back i) (c : Int)) x.length r (fun i s hi hs => by
            refine ⟨rfl, ?_⟩
            subst hs
            rw [ev_shift]
            simp only [impl_Dft2.l2]
            rw [ev_pos (by rw [slen]; omega), ev_pos (by omega), ev_pos (by rw [slen]; omega), ev_pos (by omega), ev_pos (by rw [srow _ _ _ hi]; simp; omega), ev_pos (by simp; omega), w64 (by omega) (by omega), srow _ _ _ hi, rd_tab' hc]
            have : cell2 x p back c 0 i c = rd (mid x p back i) (c : Int) := by unfold cell2; rw [if_neg (by omega)]
            rw [this, tab_succ]) [] rfl
        rw [(g r).2, (g r).1, ev_shift]
        simp only [impl_Dft2.l2]
        rw [ev_neg (by rw [slen]; omega)]
        have hcol : Ev (fun k => impl_Dft.f k (tab x.length fun i => rd (mid x p back i) (c : Int)) p back) (colOut x p back c, true) := by
          have := implDft_ev (colIn x p back c) p back (by unfold colIn; simp; omega)
          rw [dftR_of (col_ok hd hc)] at this
          exact this
        rw [ev_bind hcol]
        dsimp only
        have g2 := for_iff (fun k (s : List (List Int)) i => impl_Dft2.l3 k p back s (c : Int) (colOut x p back c) ((rd_L1 x 0).length : Int) (c : Int) (x.length : Int) i)
          (fun i _ => st2 x p back c (i + 1)) (fun i s => s = st2 x p back c i) x.length r (fun i s hi hs => by
            refine ⟨rfl, ?_⟩
            subst hs
            rw [ev_shift]
            simp only [impl_Dft2.l3]
            rw [ev_pos (by omega), ev_pos (by omega), ev_pos (by rw [slen]; omega), ev_pos (by rw [colOut_len hd hc]; omega), ev_pos (by omega), ev_pos (by rw [srow _ _ _ hi]; simp; omega), w64 (by omega) (by omega), Int.toNat_natCast, Int.toNat_natCast, srow _ _ _ hi]
            have e1 := tab_set (n := (rd_L1 x 0).length) (i := c) (g := fun d => cell2 x p back c i i d) (h := fun d => cell2 x p back c (i + 1) i d) hc (fun d _ hne => by
              unfold cell2
              by_cases q : d < c
              · rw [if_pos (Or.inl q), if_pos (Or.inl q)]
              · rw [if_neg (by omega), if_neg (by omega)])
            have e2 : cell2 x p back c (i + 1) i c = rd (colOut x p back c) (i : Int) := by unfold cell2; rw [if_pos (by omega)]
            rw [← e2, e1]
            have e3 := tabL_set (n := x.length) (i := i) (g := fun i' => tab (rd_L1 x 0).length fun d => cell2 x p back c i i' d) (h := fun i' => tab (rd_L1 x 0).length fun d => cell2 x p back c (i + 1) i' d) hi (fun i' _ hne => tab_congr fun d _ => by
              unfold cell2
              by_cases q : d < c ∨ (d = c ∧ i' < i)
              · rw [if_pos q, if_pos (by omega)]
              · rw [if_neg q, if_neg (by omega)])
            exact Iff.of_eq (by rw [show st2 x p back c i = tabL x.length fun i' => tab (rd_L1 x 0).length fun d => cell2 x p back c i i' d from rfl, e3]; rfl)) (st2 x p back c 0) rfl
        rw [show ((st2 x p back c 0).length : Int) = (x.length : Int) by rw [slen], g2.2, g2.1, ev_shift]
        simp only [impl_Dft2.l3]
        rw [ev_neg (by omega), w64 (by omega) (by omega)]
        have e4 : st2 x p back c x.length = st2 x p back (c + 1) 0 := tabL_congr fun i hi => tab_congr fun d _ => by
          unfold cell2
          by_cases q : d < c ∨ (d = c ∧ i < x.length)
          · rw [if_pos q, if_pos (by omega)]
          · rw [if_neg q, if_neg (by omega)]
        rw [e4]
      have g := for_iff (fun k (s : List (List Int)) i => impl_Dft2.l1 k p back s ((rd_L1 x 0).length : Int) i) (fun i _ => st2 x p back (i + 1) 0) (fun i s => s = st2 x p back i 0) (rd_L1 x 0).length (d2R x p back) (fun i s hi hs => by
        refine ⟨rfl, ?_⟩
        subst hs
        exact step i hi _) (st2 x p back 0 0) rfl
      rw [g.2, g.1, ev_shift]
      simp only [impl_Dft2.l1]
      rw [ev_neg (by omega), ev_some_iff]
      unfold d2R
      rw [if_pos hd]
      refine Prod.ext (tabL_congr fun i hi => tab_congr fun d h => ?_) rfl
      unfold cell2
      rw [if_pos (Or.inl h)]
    have go : ∀ n j : Nat, j + n = x.length → (∀ i, i < j → GoodR x p back i) → Ev (fun k => impl_Dft2.l0 k x p back (tabL j (mid x p back)) x (x.length : Int) (j : Int)) (d2R x p back) := by
      intro n
      induction n with
      | zero =>
        intro j hj hg
        rw [ev_shift]
        simp only [impl_Dft2.l0]
        rw [ev_neg (by omega), ev_pos (by omega), show j = x.length by omega]
        exact cols ⟨hw, fun i hi => hg i (by omega)⟩
      | succ n ih =>
        intro j hj hg
        rw [ev_shift]
        simp only [impl_Dft2.l0]
        rw [ev_pos (by omega), ev_pos (by omega), ev_pos (by omega), ev_bind (implDft_ev _ p back (hr _ (rdL_mem (by omega))))]
        by_cases q : (dftR (rd_L1 x (j : Int)) p back).2 = true
        · rw [ev_pos q, ev_pos (by omega)]
          by_cases q2 : (rd_L1 x (j : Int)).length = (rd_L1 x 0).length
          · rw [ev_pos (by omega), ev_pos (by simp; omega), w64 (by omega) (by omega)]
            have := ih (j + 1) (by omega) (fun i hi => by
              by_cases e : i = j
              · subst e; exact ⟨q, q2⟩
              · exact hg i (by omega))
            rw [tabL_succ] at this
            exact this
          · rw [ev_neg (by omega), ev_some_iff]
            unfold d2R
            rw [if_neg (fun h => q2 (h.2 j (by omega)).2)]
        · rw [ev_neg q, ev_some_iff]
          unfold d2R
          rw [if_neg (fun h => q (h.2 j (by omega)).1)]
    exact go x.length 0 (by omega) (fun i hi => by omega)
  · rw [ev_neg (by simpa using hw), ev_some_iff]
    unfold d2R
    rw [if_neg (fun h => hw h.1)]

end Go.Proofs.Ytofegdgcafameaa.Dft2P
