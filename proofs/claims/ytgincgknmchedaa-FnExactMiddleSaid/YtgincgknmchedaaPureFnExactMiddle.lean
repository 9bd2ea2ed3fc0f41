/- The pure part of FnExactMiddle: the program's Middle and the reference's Middle answer alike. No conditions. -/
import Derived.Test.YtgincgknmchedaaQFnExactMiddlex5
import Derived.Test.YtgincgknmchedaaBase
namespace Go.Proofs.Ytgincgknmchedaa.Pure
open Go.RowKit Go.Proofs.Ytgincgknmchedaa.QFnExactMiddle Go.Proofs.YtgincgknmchedaaW.PrintWords Go.Proofs.YtgincgknmchedaaW.PrintLast
open Go.Proofs.Ytgincgknmchedaa.Base
set_option linter.unusedVariables false
set_option linter.unusedSimpArgs false
/-! ### toIntS, eqIntS, markIntS, heldIntS -/
theorem toIntS_ev (l : List Int) (h : l.length ≤ 2000000) : Ev (fun k => laws_toIntS.f k l) l := by
  unfold laws_toIntS.f
  simp only [Int.toNat_natCast]
  rw [ev_pos (by omega), ev_pos (by omega)]
  rw [(for_iff (fun k s i => laws_toIntS.l0 k l s i) (fun i s => s.set i (rd l (i : Int))) (fun _ s => s.length = l.length) l.length l ?_ _ (by simp)).2]
  · rw [iter_store_all _ _ _ (by simp), tab_rd]
    exact Ev.step (fun k => by simp only [laws_toIntS.l0]; rw [if_neg (by omega)]) (Ev.now _)
  · intro i s hi hs
    refine ⟨by simpa using hs, ?_⟩
    rw [ev_shift]
    simp only [laws_toIntS.l0]
    rw [ev_pos (by omega), ev_pos (by omega), ev_pos (by omega), w64 (by omega) (by omega), Int.toNat_natCast]

theorem eqIntS_ev (a b : List Int) (h : a.length ≤ 2000000) : Ev (fun k => laws_eqIntS.f k a b) (decide (a = b)) := by
  unfold laws_eqIntS.f
  by_cases e : a.length = b.length
  · rw [ev_pos (by omega)]
    rw [all_iff (fun k i => laws_eqIntS.l0 k a b i) (fun i => decide (rd a (i : Int) = rd b (i : Int))) a.length _ false]
    · split
      · rename_i hp
        have : a = b := list_ext_rd e fun i hi => by simpa using range_all.1 hp i hi
        rw [decide_eq_true this]
        exact Ev.step (fun k => by simp only [laws_eqIntS.l0]; rw [if_neg (by omega)]) (Ev.now _)
      · rename_i hp
        have : ¬ a = b := fun h => hp (by subst h; rw [range_all]; simp)
        simp [this]
    · intro i hi
      by_cases p : rd a (i : Int) = rd b (i : Int)
      · rw [if_pos (by simpa using p)]
        rw [ev_shift]
        simp only [laws_eqIntS.l0]
        rw [ev_pos (by omega), ev_pos (by omega), ev_pos (by omega), ev_pos p, w64 (by omega) (by omega)]
      · rw [if_neg (by simpa using p)]
        rw [ev_shift]
        simp only [laws_eqIntS.l0]
        rw [ev_pos (by omega), ev_pos (by omega), ev_pos (by omega), ev_neg p, ev_some_iff]
  · rw [ev_neg (by omega)]
    have : ¬ a = b := fun h => e (by rw [h])
    simp only [this, decide_false]
    exact Ev.now _

theorem markIntS_ev (l : List Int) (m : Int) (h : l.length ≤ 2000000) (h0 : 0 ≤ m) (h1 : m ≤ 1000000000) :
    Ev (fun k => laws_markIntS.f k l m) (m + (l.length : Int), tab l.length (fun i => m + (i : Int))) := by
  unfold laws_markIntS.f
  rw [(for_iff (fun k (s : List Int × Int) i => laws_markIntS.l0 k s.1 s.2 i) (fun i s => (s.1.set i (m + (i : Int)), m + ((i : Int) + 1))) (fun i s => s.1.length = l.length ∧ s.2 = m + (i : Int)) l.length _ ?_ (l, m) ⟨rfl, by simp⟩).2]
  · have hI : ∀ n, n ≤ l.length → iter (fun (i : Nat) (s : List Int × Int) => (s.1.set i (m + (i : Int)), m + ((i : Int) + 1))) n (l, m) = (iter (fun i s => s.set i (m + (i : Int))) n l, m + (n : Int)) := by
      intro n
      induction n with
      | zero => intro _; simp [iter]
      | succ n ih => intro hn; rw [iter_succ, ih (by omega), iter_succ]; simp
    rw [hI _ (Nat.le_refl _), iter_store_all _ _ _ rfl]
    exact Ev.step (fun k => by simp only [laws_markIntS.l0]; rw [if_neg (by simp)]) (Ev.now _)
  · rintro i ⟨s, c⟩ hi ⟨hs, hc⟩
    simp only at hs hc
    subst hc
    refine ⟨⟨by simpa using hs, by simp⟩, ?_⟩
    rw [ev_shift]
    simp only [laws_markIntS.l0]
    rw [ev_pos (by omega), ev_pos (by omega), w64 (by omega) (by omega), w64 (by omega) (by omega), Int.toNat_natCast, Int.add_assoc]

theorem heldIntS_ev (n : Nat) (m : Int) (h : n ≤ 2000000) (h0 : 0 ≤ m) (h1 : m ≤ 1000000000) :
    Ev (fun k => laws_heldIntS.f k (tab n (fun i => m + (i : Int))) m) (m + (n : Int)) := by
  unfold laws_heldIntS.f
  rw [(for_iff (fun k (c : Int) i => laws_heldIntS.l0 k (tab n (fun i => m + (i : Int))) c i) (fun i c => m + ((i : Int) + 1)) (fun i c => c = m + (i : Int)) n _ ?_ m (by simp)).2]
  · have hI : iter (fun (i : Nat) (c : Int) => m + ((i : Int) + 1)) n m = m + (n : Int) := by
      cases n with
      | zero => simp [iter]
      | succ n => rw [iter_succ]; simp
    rw [hI]
    exact Ev.step (fun k => by simp only [laws_heldIntS.l0]; rw [if_neg (by simp)]) (Ev.now _)
  · intro i c hi hc
    refine ⟨by simp, ?_⟩
    rw [ev_shift]
    simp only [laws_heldIntS.l0, tab_length]
    rw [ev_pos (by omega), ev_pos (by omega), rd_tab' hi, ev_pos hc.symm, hc, w64 (by omega) (by omega), w64 (by omega) (by omega), Int.add_assoc]

theorem l1In_eq (a b c : Int) : spec_l1In.f a b c = some (decide (b ≤ a ∧ a ≤ c)) := by
  unfold spec_l1In.f
  by_cases h : a ≥ b
  · rw [if_pos h]
    congr 1
    rw [decide_eq_decide]
    omega
  · rw [if_neg h]
    congr 1
    symm
    rw [decide_eq_false_iff_not]
    omega

theorem within_ev (l : List Int) (m : Int) (hl : l.length ≤ 2000000) (h0 : 0 ≤ m) (h1 : m ≤ 1000000000000) : Ev (fun k => impl_within.f k l m) (inB m l) := by
  unfold impl_within.f
  rw [inB_range]
  rw [all_iff (fun k i => impl_within.l0 k m l (l.length : Int) i) (fun i => decide (-m ≤ rd l (i : Int)) && decide (rd l (i : Int) ≤ m)) l.length _ false]
  · split
    · rename_i hp
      rw [hp]
      exact Ev.step (fun k => by simp only [impl_within.l0]; rw [if_neg (by omega)]) (Ev.now _)
    · rename_i hp
      simpa using hp
  · intro i hi
    by_cases p : -m ≤ rd l (i : Int) ∧ rd l (i : Int) ≤ m
    · rw [if_pos (by simpa using p)]
      rw [ev_shift]
      simp only [impl_within.l0]
      rw [ev_pos (by omega), ev_pos (by omega), ev_pos (by omega), w64 (n := -m) (by omega) (by omega), ev_neg (by omega), ev_neg (by omega), w64 (by omega) (by omega)]
    · rw [if_neg (by simpa using p)]
      rw [ev_shift]
      simp only [impl_within.l0]
      rw [ev_pos (by omega), ev_pos (by omega), ev_pos (by omega), w64 (n := -m) (by omega) (by omega)]
      by_cases q : rd l (i : Int) < -m
      · rw [ev_pos q, ev_some_iff]
      · rw [ev_neg q, ev_pos (by omega), ev_some_iff]

theorem implSig_ev (l : List Int) (hl : l.length ≤ 2000000) : Ev (fun k => impl_SignalOk.f k l) (sigB l) := by
  unfold impl_SignalOk.f
  by_cases h : (l.length : Int) ≤ 512
  · rw [ev_pos h]
    rw [ev_bind (within_ev l 1000000000 hl (by omega) (by omega)), ev_some_iff, sigB, decide_eq_true (by omega : l.length ≤ 512), Bool.true_and]
  · rw [ev_neg h]
    rw [ev_some_iff, sigB, decide_eq_false (by omega : ¬ l.length ≤ 512), Bool.false_and]


theorem l5Sample_eq (a : Int) : spec_l5Sample.f a = some (decide (-1000000000 ≤ a ∧ a ≤ 1000000000)) := by
  unfold spec_l5Sample.f
  rw [l1In_eq]
  rfl
theorem specSig_ev (l : List Int) (hl : l.length ≤ 2000000) : Ev (fun k => spec_SignalOk.f k l) (sigB l) := by
  unfold spec_SignalOk.f
  rw [sigB, inB_range]
  rw [all_iff (fun k i => spec_SignalOk.l0 k l i) (fun i => decide (-1000000000 ≤ rd l (i : Int)) && decide (rd l (i : Int) ≤ 1000000000)) l.length _ false]
  · split
    · rename_i hp
      rw [hp, Bool.and_true]
      exact Ev.step (f := fun _ => some (decide (l.length ≤ 512))) (fun k => by simp only [spec_SignalOk.l0]; rw [if_neg (by omega)]; congr 1; rw [decide_eq_decide]; omega) (Ev.now _)
    · rename_i hp
      simp only [Bool.not_eq_true] at hp
      rw [hp, Bool.and_false]
  · intro i hi
    by_cases p : -1000000000 ≤ rd l (i : Int) ∧ rd l (i : Int) ≤ 1000000000
    · rw [if_pos (by simpa using p)]
      rw [ev_shift]
      simp only [spec_SignalOk.l0]
      rw [ev_pos (by omega), ev_pos (by omega), l5Sample_eq]
      simp only [Option.bind_some]
      rw [ev_pos (by simpa using p), w64 (by omega) (by omega)]
    · rw [if_neg (by simpa using p)]
      rw [ev_shift]
      simp only [spec_SignalOk.l0]
      rw [ev_pos (by omega), ev_pos (by omega), l5Sample_eq]
      simp only [Option.bind_some]
      rw [ev_neg (by simpa using p), ev_some_iff]

/-! ### sorting -/
def srt (l : List Int) : List Int := l.mergeSort fun x y => decide (x ≤ y)
theorem srt_perm (l : List Int) : (srt l).Perm l := List.mergeSort_perm l _
theorem srt_length (l : List Int) : (srt l).length = l.length := List.length_mergeSort _
theorem srt_pair (l : List Int) : (srt l).Pairwise (fun a b => a ≤ b) := by
  have h := List.pairwise_mergeSort (le := fun x y : Int => decide (x ≤ y)) (fun a b c h k => by simp only [decide_eq_true_eq] at *; omega) (fun a b => by simp only [Bool.or_eq_true, decide_eq_true_eq]; omega) l
  exact h.imp fun h => by simpa using h
theorem srt_uniq {l s : List Int} (hp : s.Perm l) (hs : s.Pairwise (fun a b => a ≤ b)) : s = srt l :=
  List.Perm.eq_of_pairwise (fun a b _ _ h k => by omega) hs (srt_pair l) (hp.trans (srt_perm l).symm)
theorem rd_get {l : List Int} {i : Nat} (h : i < l.length) : rd l (i : Int) = l[i] := by
  rw [rd_nat, List.getD_eq_getElem?_getD, List.getElem?_eq_getElem h]
  rfl
theorem pair_rd {s : List Int} (h : ∀ a b : Nat, a < b → b < s.length → rd s (a : Int) ≤ rd s (b : Int)) : s.Pairwise (fun a b => a ≤ b) := by
  rw [List.pairwise_iff_getElem]
  intro i j hi hj hij
  have := h i j hij hj
  rwa [rd_get hi, rd_get hj] at this
theorem rd_pair {s : List Int} (h : s.Pairwise (fun a b => a ≤ b)) {a b : Nat} (hab : a ≤ b) (hb : b < s.length) : rd s (a : Int) ≤ rd s (b : Int) := by
  rw [List.pairwise_iff_getElem] at h
  rcases Nat.lt_or_ge a b with c | c
  · rw [rd_get (by omega), rd_get hb]
    exact h a b (by omega) hb c
  · have : a = b := by omega
    subst this
    omega
def swp (s : List Int) (i j : Nat) : List Int := (s.set i (rd s (j : Int))).set j (rd s (i : Int))
theorem swp_length (s : List Int) (i j : Nat) : (swp s i j).length = s.length := by simp [swp]
theorem swp_perm {s : List Int} {i j : Nat} (hi : i < s.length) (hj : j < s.length) : (swp s i j).Perm s := by
  unfold swp
  rw [rd_get hi, rd_get hj]
  exact List.set_set_perm hi hj
theorem swp_rd {s : List Int} {i j : Nat} (hi : i < s.length) (hj : j < s.length) (m : Nat) : rd (swp s i j) (m : Int) = if m = j then rd s (i : Int) else if m = i then rd s (j : Int) else rd s (m : Int) := by
  unfold swp
  have e1 := rd_set (l := s.set i (rd s (j : Int))) (i := (m : Int)) (j := (j : Int)) (v := rd s (i : Int)) (by omega) (by simp; omega) (by omega)
  have e2 := rd_set (l := s) (i := (m : Int)) (j := (i : Int)) (v := rd s (j : Int)) (by omega) (by omega) (by omega)
  rw [Int.toNat_natCast] at e1 e2
  rw [e1, e2]
  by_cases a : m = j
  · rw [if_pos (by omega), if_pos a]
  · rw [if_neg (by omega), if_neg a]
    by_cases b : m = i
    · rw [if_pos (by omega), if_pos b]
    · rw [if_neg (by omega), if_neg b]
/-- Sorted up to i, but for the element at k. -/
def insOk (s : List Int) (i k : Nat) : Prop := ∀ a b : Nat, a < b → b ≤ i → b ≠ k → rd s (a : Int) ≤ rd s (b : Int)
theorem sortInner (l0 : List Int) (r : List Int) (i : Nat) (hil : i < 2000)
    (next : ∀ s : List Int, s.Perm l0 → (∀ a b : Nat, a < b → b ≤ i → rd s (a : Int) ≤ rd s (b : Int)) → Ev (fun q => spec_l10Sorted.l0 q s ((i : Int) + 1)) r) :
    ∀ (k : Nat) (s : List Int), s.Perm l0 → k ≤ i → i < s.length → insOk s i k → Ev (fun q => spec_l10Sorted.l1 q s (i : Int) (k : Int)) r := by
  intro k
  induction k with
  | zero =>
    intro s hp hk hi ho
    rw [ev_shift]
    simp only [spec_l10Sorted.l1]
    rw [ev_neg (by omega), w64 (by omega) (by omega)]
    exact next s hp fun a b h0 h1 => ho a b h0 h1 (by omega)
  | succ k ih =>
    intro s hp hk hi ho
    have e : ((k + 1 : Nat) : Int) - 1 = (k : Int) := by omega
    rw [ev_shift]
    simp only [spec_l10Sorted.l1]
    rw [ev_pos (by omega), w64 (n := ((k + 1 : Nat) : Int) - 1) (by omega) (by omega), e, ev_pos (by omega), ev_pos (by omega), ev_pos (by omega), ev_pos (by omega)]
    by_cases c : rd s (k : Int) > rd s ((k + 1 : Nat) : Int)
    · rw [ev_pos c, Int.toNat_natCast, Int.toNat_natCast]
      have es : (s.set (k + 1) (rd s (k : Int))).set k (rd s ((k + 1 : Nat) : Int)) = swp s (k + 1) k := rfl
      rw [es]
      refine ih (swp s (k + 1) k) ((swp_perm (by omega) (by omega)).trans hp) (by omega) (by rw [swp_length]; omega) ?_
      intro a b h0 h1 h2
      have ea := swp_rd (s := s) (i := k + 1) (j := k) (by omega) (by omega) a
      rw [swp_rd (s := s) (i := k + 1) (j := k) (by omega) (by omega) b]
      by_cases b1 : b = k + 1
      · rw [if_neg (by omega), if_pos b1, ea]
        by_cases a1 : a = k
        · rw [if_pos a1]
          omega
        · rw [if_neg a1, if_neg (by omega)]
          exact ho a k (by omega) (by omega) (by omega)
      · rw [if_neg h2, if_neg b1, ea]
        by_cases a1 : a = k
        · rw [if_pos a1]
          exact ho (k + 1) b (by omega) h1 b1
        · rw [if_neg a1]
          by_cases a2 : a = k + 1
          · rw [if_pos a2]
            exact ho k b (by omega) h1 b1
          · rw [if_neg a2]
            exact ho a b h0 h1 b1
    · rw [ev_neg c, w64 (by omega) (by omega)]
      refine next s hp fun a b h0 h1 => ?_
      by_cases b1 : b = k + 1
      · subst b1
        by_cases a1 : a = k
        · subst a1; omega
        · have := ho a k (by omega) (by omega) (by omega)
          omega
      · exact ho a b h0 h1 b1
theorem sortOuter (l0 : List Int) (hl : l0.length ≤ 1000) : ∀ (d i : Nat) (s : List Int), s.Perm l0 → l0.length - i ≤ d → i ≤ 1001 → (∀ a b : Nat, a < b → b < i → b < l0.length → rd s (a : Int) ≤ rd s (b : Int)) → Ev (fun q => spec_l10Sorted.l0 q s (i : Int)) (srt l0) := by
  intro d
  have fin : ∀ (i : Nat) (s : List Int), s.Perm l0 → l0.length ≤ i → (∀ a b : Nat, a < b → b < i → b < l0.length → rd s (a : Int) ≤ rd s (b : Int)) → Ev (fun q => spec_l10Sorted.l0 q s (i : Int)) (srt l0) := by
    intro i s hp hi ho
    have hsl := hp.length_eq
    rw [ev_shift]
    simp only [spec_l10Sorted.l0]
    rw [ev_neg (by omega), ev_some_iff]
    exact srt_uniq hp (pair_rd fun a b h0 h1 => ho a b h0 (by omega) (by omega))
  induction d with
  | zero => intro i s hp hd _ ho; exact fin i s hp (by omega) ho
  | succ d ih =>
    intro i s hp hd h1 ho
    have hsl := hp.length_eq
    by_cases c : i < l0.length
    · rw [ev_shift]
      simp only [spec_l10Sorted.l0]
      rw [ev_pos (by omega)]
      refine sortInner l0 (srt l0) i (by omega) ?_ i s hp (Nat.le_refl _) (by omega) ?_
      · intro s' hp' ho'
        exact ih (i + 1) s' hp' (by omega) (by omega) fun a b h0 h1 _ => ho' a b h0 (by omega)
      · intro a b h0 h1 h2
        exact ho a b h0 (by omega) (by omega)
    · exact fin i s hp (by omega) ho
theorem specSorted_ev (l : List Int) (hl : l.length ≤ 1000) : Ev (fun k => spec_l10Sorted.f k l) (srt l) := by
  unfold spec_l10Sorted.f
  rw [ev_sbind, ev_pos (by simp; omega)]
  exact sortOuter l hl l.length 1 l (List.Perm.refl l) (by omega) (by omega) fun a b h0 h1 _ => by omega
theorem implSorted_ev (l : List Int) (hl : l.length ≤ 1000) : Ev (fun k => slices_Sort_int_int.f k l) (srt l) := by
  unfold slices_Sort_int_int.f
  rw [ev_pos (by omega)]
  exact Ev.now _
/-! ### Middle -/
def cl (n : Nat) (x : Int) : Int := if x < 0 then 0 else if x ≥ (n : Int) then (n : Int) - 1 else x
theorem cl_range {n : Nat} (x : Int) (h : 0 < n) : 0 ≤ cl n x ∧ cl n x < (n : Int) := by
  unfold cl
  split
  · omega
  · split <;> omega
theorem l9At_eq (l : List Int) (x : Int) (h : 0 < l.length) (hl : l.length ≤ 2000) : spec_l9At.f l x = some (rd l (cl l.length x)) := by
  unfold spec_l9At.f cl
  by_cases a : x < 0
  · rw [if_pos a, if_pos a, if_neg (by omega), if_pos (by omega)]
  · rw [if_neg a, if_neg a]
    by_cases b : x ≥ (l.length : Int)
    · rw [if_pos b, if_pos b, w64 (by omega) (by omega), if_pos (by omega), if_pos (by omega)]
    · rw [if_neg b, if_neg b, if_pos (by omega), if_pos (by omega)]
theorem implAt_eq (l : List Int) (x : Int) (h : 0 < l.length) (hl : l.length ≤ 2000) : impl_at.f l x = some (rd l (cl l.length x)) := by
  have e : impl_nearer.f x 0 (wrap64 ((l.length : Int) - 1)) = some (cl l.length x) := by
    unfold impl_nearer.f cl mn mx
    rw [w64 (by omega) (by omega)]
    congr 1
    by_cases a : x < 0
    · rw [if_pos a, if_neg (by omega), if_pos a]
    · rw [if_neg a, if_neg a]
      by_cases b : x ≥ (l.length : Int)
      · rw [if_pos (by omega), if_pos b]
      · rw [if_neg (by omega), if_neg b]
  have r := cl_range x h
  unfold impl_at.f
  rw [e, Option.bind_some, if_pos r.1, if_pos r.2]
def near (l : List Int) (h i : Nat) : List Int := tab (2 * h + 1) fun j => rd l (cl l.length ((i : Int) - (h : Int) + (j : Int)))
def midV (l : List Int) (h : Nat) : List Int := tab l.length fun i => rd (srt (near l h i)) (h : Int)
theorem near_length (l : List Int) (h i : Nat) : (near l h i).length = 2 * h + 1 := by simp [near]
theorem specMid_ev (l : List Int) (h : Nat) (hh : h ≤ 15) (hl : l.length ≤ 512) : Ev (fun k => spec_Middle.l0 k l ((2 * h + 1 : Nat) : Int) [] 0) (midV l h, true) := by
  have e2 : Int.tdiv ((2 * h + 1 : Nat) : Int) 2 = (h : Int) := by
    have := (Int.ofNat_tdiv (2 * h + 1) 2).symm
    rw [show (2 * h + 1) / 2 = h by omega] at this
    exact this
  have g := push_loop (fun k s i => spec_Middle.l0 k l ((2 * h + 1 : Nat) : Int) s i) l.length (fun i => rd (srt (near l h i)) (h : Int)) (midV l h, true) ?_
  · rw [g, ev_shift]
    simp only [spec_Middle.l0]
    rw [ev_neg (by omega)]
    exact Ev.now _
  · intro i s hi hs
    rw [ev_shift]
    simp only [spec_Middle.l0, e2]
    rw [ev_pos (by omega), w64 (n := (h : Int)) (by omega) (by omega), w64 (by omega) (by omega)]
    have m := for_at (fun k t q => spec_Middle.l1 k l ((2 * h + 1 : Nat) : Int) s (i : Int) t q) (fun j _ => tab (j + 1) fun j => rd l (cl l.length ((i : Int) - (h : Int) + (j : Int)))) (fun j t => t = tab j fun j => rd l (cl l.length ((i : Int) - (h : Int) + (j : Int)))) ((i : Int) - (h : Int)) (2 * h + 1) (midV l h, true) ?_ [] rfl
    · rw [m.2, m.1, ev_shift]
      have en : (tab (2 * h + 1) fun j => rd l (cl l.length ((i : Int) - (h : Int) + (j : Int)))) = near l h i := rfl
      simp only [spec_Middle.l1, e2]
      rw [en, w64 (n := (h : Int)) (by omega) (by omega), w64 (n := (i : Int) + (h : Int)) (by omega) (by omega), ev_neg (by omega), ev_bind (specSorted_ev (near l h i) (by rw [near_length]; omega)), srt_length, near_length, ev_pos (by omega), ev_pos (by omega), ev_pos (by omega), w64 (by omega) (by omega)]
    · intro j t hj ht
      subst ht
      refine ⟨rfl, ?_⟩
      rw [ev_shift]
      simp only [spec_Middle.l1, e2, tab_length]
      rw [w64 (n := (h : Int)) (by omega) (by omega), w64 (n := (i : Int) + (h : Int)) (by omega) (by omega), ev_pos (by omega), l9At_eq l _ (by omega) (by omega), ev_sbind, ev_pos (by omega), tab_succ, w64 (by omega) (by omega)]
theorem implMid_ev (l : List Int) (h : Nat) (hh : h ≤ 15) (hl : l.length ≤ 512) : Ev (fun k => impl_Middle.l0 k l ((2 * h + 1 : Nat) : Int) [] (l.length : Int) 0) (midV l h, true) := by
  have e2 : Int.tdiv ((2 * h + 1 : Nat) : Int) 2 = (h : Int) := by
    have := (Int.ofNat_tdiv (2 * h + 1) 2).symm
    rw [show (2 * h + 1) / 2 = h by omega] at this
    exact this
  have g := push_loop (fun k s i => impl_Middle.l0 k l ((2 * h + 1 : Nat) : Int) s (l.length : Int) i) l.length (fun i => rd (srt (near l h i)) (h : Int)) (midV l h, true) ?_
  · rw [g, ev_shift]
    simp only [impl_Middle.l0]
    rw [ev_neg (by omega)]
    exact Ev.now _
  · intro i s hi hs
    rw [ev_shift]
    simp only [impl_Middle.l0, e2]
    rw [ev_pos (by omega), w64 (n := (h : Int)) (by omega) (by omega), w64 (by omega) (by omega)]
    have m := for_at (fun k t q => impl_Middle.l1 k l ((2 * h + 1 : Nat) : Int) s (i : Int) t q (l.length : Int) (i : Int)) (fun j _ => tab (j + 1) fun j => rd l (cl l.length ((i : Int) - (h : Int) + (j : Int)))) (fun j t => t = tab j fun j => rd l (cl l.length ((i : Int) - (h : Int) + (j : Int)))) ((i : Int) - (h : Int)) (2 * h + 1) (midV l h, true) ?_ [] rfl
    · rw [m.2, m.1, ev_shift]
      have en : (tab (2 * h + 1) fun j => rd l (cl l.length ((i : Int) - (h : Int) + (j : Int)))) = near l h i := rfl
      simp only [impl_Middle.l1, e2]
      rw [en, w64 (n := (h : Int)) (by omega) (by omega), w64 (n := (i : Int) + (h : Int)) (by omega) (by omega), ev_neg (by omega), ev_bind (implSorted_ev (near l h i) (by rw [near_length]; omega)), near_length, ev_pos (by omega), ev_pos (by omega), ev_pos (by omega), w64 (by omega) (by omega)]
    · intro j t hj ht
      subst ht
      refine ⟨rfl, ?_⟩
      rw [ev_shift]
      simp only [impl_Middle.l1, e2, tab_length]
      rw [w64 (n := (h : Int)) (by omega) (by omega), w64 (n := (i : Int) + (h : Int)) (by omega) (by omega), ev_pos (by omega), implAt_eq l _ (by omega) (by omega), ev_sbind, ev_pos (by omega), tab_succ, w64 (by omega) (by omega)]
def MidOk (l : List Int) (n : Int) : Prop := sigB l = true ∧ 1 ≤ n ∧ n ≤ 31 ∧ Int.tmod n 2 ≠ 0
open Classical in
noncomputable def midR (l : List Int) (n : Int) : List Int × Bool := if MidOk l n then (midV l (n.toNat / 2), true) else ([], false)
theorem midR_length (l : List Int) (n : Int) (hl : l.length ≤ 2000000) : (midR l n).1.length ≤ 2000000 := by
  unfold midR
  split
  · show (midV l (n.toNat / 2)).length ≤ 2000000
    unfold midV
    rw [tab_length]
    exact hl
  · simp
theorem odd_half {n : Int} (h0 : 1 ≤ n) (h : Int.tmod n 2 ≠ 0) : n = ((2 * (n.toNat / 2) + 1 : Nat) : Int) := by
  rw [Int.tmod_eq_emod_of_nonneg (by omega)] at h
  omega
theorem specMiddle_ev (l : List Int) (n : Int) (hl : l.length ≤ 2000000) : Ev (fun k => spec_Middle.f k l n) (midR l n) := by
  have no : ¬ MidOk l n → Ev (fun k => spec_Middle.j0 k l n [] true) (midR l n) := by
    intro h
    unfold midR
    rw [if_neg h, ev_shift]
    simp only [spec_Middle.j0, if_true]
    exact Ev.now _
  unfold spec_Middle.f
  rw [ev_sbind, ev_bind (specSig_ev l hl)]
  by_cases h1 : sigB l = true
  · rw [ev_pos h1, l1In_eq, ev_sbind]
    by_cases h2 : 1 ≤ n ∧ n ≤ 31
    · rw [decide_eq_true h2, ev_pos rfl]
      by_cases h3 : Int.tmod n 2 = 0
      · have e : (Int.tmod n 2 == 0) = true := by simpa using h3
        rw [e]
        exact no fun h => h.2.2.2 h3
      · have e : (Int.tmod n 2 == 0) = false := by simpa using h3
        rw [e, ev_shift]
        simp only [spec_Middle.j0, Bool.false_eq_true, if_false]
        unfold midR
        rw [if_pos ⟨h1, h2.1, h2.2, h3⟩]
        have g := specMid_ev l (n.toNat / 2) (by omega) (sigB_iff.1 h1).1
        rw [← odd_half h2.1 h3] at g
        exact g
    · rw [decide_eq_false h2, ev_neg (by simp)]
      exact no fun h => h2 ⟨h.2.1, h.2.2.1⟩
  · rw [ev_neg h1]
    exact no fun h => h1 h.1
theorem implMiddle_ev (l : List Int) (n : Int) (hl : l.length ≤ 2000000) : Ev (fun k => impl_Middle.f k l n) (midR l n) := by
  have no : ¬ MidOk l n → Ev (fun k => impl_Middle.j0 k l n true) (midR l n) := by
    intro h
    unfold midR
    rw [if_neg h, ev_shift]
    simp only [impl_Middle.j0, if_true]
    exact Ev.now _
  unfold impl_Middle.f
  rw [ev_bind (implSig_ev l hl)]
  by_cases h1 : sigB l = true
  · rw [ev_pos h1]
    by_cases h2 : n < 1
    · rw [ev_pos h2]
      exact no fun h => by have := h.2.1; omega
    · rw [ev_neg h2]
      by_cases h4 : n > 31
      · rw [ev_pos h4]
        exact no fun h => by have := h.2.2.1; omega
      · rw [ev_neg h4]
        by_cases h3 : Int.tmod n 2 = 0
        · have e : (Int.tmod n 2 == 0) = true := by simpa using h3
          rw [e]
          exact no fun h => h.2.2.2 h3
        · have e : (Int.tmod n 2 == 0) = false := by simpa using h3
          rw [e, ev_shift]
          simp only [impl_Middle.j0, Bool.false_eq_true, if_false]
          unfold midR
          rw [if_pos ⟨h1, by omega, by omega, h3⟩]
          have g := implMid_ev l (n.toNat / 2) (by omega) (sigB_iff.1 h1).1
          rw [← odd_half (by omega) h3] at g
          exact g
  · rw [ev_neg h1]
    exact no fun h => h1 h.1

theorem FnExactMiddle : laws_FnExactMiddle.Pure := by
  intro l0 a1 _ _ _ _
  refine Ev.rounds (g := fun k => laws_FnExactMiddle.f k l0 a1) ?_
  by_cases hl0 : (l0.length : Int) > 1048576
  · simp only [laws_FnExactMiddle.f, if_pos hl0]
    exact Ev.now _
  have hS := specMiddle_ev l0 a1 (by omega)
  have hI := implMiddle_ev l0 a1 (by omega)
  have := midR_length l0 a1 (by omega)
  generalize midR l0 a1 = R at *
  simp only [laws_FnExactMiddle.f, if_neg hl0]
  have t_l0 := toIntS_ev l0 (by omega)
  have e_l0 := eqIntS_ev l0 l0 (by omega)
  have v_0 := eqIntS_ev (R.1) (R.1) (by omega)
  have m_l0 := markIntS_ev l0 (1) (by omega) (by omega) (by omega)
  have n_0 := markIntS_ev (R.1) (1) (by omega) (by omega) (by omega)
  have h_0 := heldIntS_ev (R.1).length (1) (by omega) (by omega) (by omega)
  simp only [decide_true] at e_l0 v_0
  repeat (first
    | exact Ev.now _
    | (rw [ev_bind t_l0])
    | (rw [ev_bind e_l0])
    | (rw [ev_bind v_0])
    | (rw [ev_bind m_l0])
    | (rw [ev_bind n_0])
    | (rw [ev_bind h_0])
    | (rw [ev_bind hS])
    | (rw [ev_bind hI])
    | (simp only [if_true, if_false, bne_self_eq_false, Bool.false_eq_true]; done)
    | (rw [ev_neg (by omega)])
    | (rw [ev_pos rfl])
    | (simp only [if_true, if_false, bne_self_eq_false, Bool.false_eq_true])
    | (rw [ev_shift]; simp only [laws_FnExactMiddle.j0])
    | (rw [ev_shift]; simp only [laws_FnExactMiddle.j1])
    | (rw [ev_shift]; simp only [laws_FnExactMiddle.j2])
    | (rw [ev_shift]; simp only [laws_FnExactMiddle.j3]))

end Go.Proofs.Ytgincgknmchedaa.Pure
