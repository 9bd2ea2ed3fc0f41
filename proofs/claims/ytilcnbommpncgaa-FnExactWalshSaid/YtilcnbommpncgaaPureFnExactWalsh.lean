/- The pure part of FnExactWalsh: the program's Walsh and the reference's Walsh answer alike. No conditions. -/
import Derived.Test.YtilcnbommpncgaaQFnExactWalshx4
import Derived.Test.YtilcnbommpncgaaBase
import Derived.Test.YtilcnbommpncgaaWal
import Derived.Test.YtilcnbommpncgaaMod
namespace Go.Proofs.Ytilcnbommpncgaa.Pure
open Go.RowKit Go.Proofs.Ytilcnbommpncgaa.QFnExactWalsh Go.Proofs.YtilcnbommpncgaaW.PrintWords Go.Proofs.YtilcnbommpncgaaW.PrintLast
open Go.Proofs.Ytilcnbommpncgaa.Base Go.Proofs.Ytilcnbommpncgaa.Wal Go.Proofs.Ytilcnbommpncgaa.Mod
set_option linter.unusedVariables false
set_option linter.unusedSimpArgs false
/-! ### toIntS, eqIntS, markIntS, heldIntS -/
theorem toIntS_ev (l : List Int) (h : l.length ≤ 2000000) : Ev (fun k => laws_toIntS.f k l) l := by
  unfold laws_toIntS.f
  simp only [Int.toNat_natCast]
  rw [ev_pos (by omega), ev_pos (by omega)]
  rw [(for_iff (fun k s i => laws_toIntS.l0 k l s i) (fun i s => s.set i (rd l (i : Int))) (fun _ s => s.length = l.length) l.length l ?_ _ (by simp)).2]
  · rw [iter_store_all _ _ _ (by simp), tab_rd]
    exact Ev.step (fun k => by simp only [laws_toIntS.l0]; rw [if_neg (by omega)]) (Ev.now _)
  · intro i s hi hs
    refine ⟨by simpa using hs, ?_⟩
    rw [ev_shift]
    simp only [laws_toIntS.l0]
    rw [ev_pos (by omega), ev_pos (by omega), ev_pos (by omega), w64 (by omega) (by omega), Int.toNat_natCast]

theorem eqIntS_ev (a b : List Int) (h : a.length ≤ 2000000) : Ev (fun k => laws_eqIntS.f k a b) (decide (a = b)) := by
  unfold laws_eqIntS.f
  by_cases e : a.length = b.length
  · rw [ev_pos (by omega)]
    rw [all_iff (fun k i => laws_eqIntS.l0 k a b i) (fun i => decide (rd a (i : Int) = rd b (i : Int))) a.length _ false]
    · split
      · rename_i hp
        have : a = b := list_ext_rd e fun i hi => by simpa using range_all.1 hp i hi
        rw [decide_eq_true this]
        exact Ev.step (fun k => by simp only [laws_eqIntS.l0]; rw [if_neg (by omega)]) (Ev.now _)
      · rename_i hp
        have : ¬ a = b := fun h => hp (by subst h; rw [range_all]; simp)
        simp [this]
    · intro i hi
      by_cases p : rd a (i : Int) = rd b (i : Int)
      · rw [if_pos (by simpa using p)]
        rw [ev_shift]
        simp only [laws_eqIntS.l0]
        rw [ev_pos (by omega), ev_pos (by omega), ev_pos (by omega), ev_pos p, w64 (by omega) (by omega)]
      · rw [if_neg (by simpa using p)]
        rw [ev_shift]
        simp only [laws_eqIntS.l0]
        rw [ev_pos (by omega), ev_pos (by omega), ev_pos (by omega), ev_neg p, ev_some_iff]
  · rw [ev_neg (by omega)]
    have : ¬ a = b := fun h => e (by rw [h])
    simp only [this, decide_false]
    exact Ev.now _

theorem markIntS_ev (l : List Int) (m : Int) (h : l.length ≤ 2000000) (h0 : 0 ≤ m) (h1 : m ≤ 1000000000) :
    Ev (fun k => laws_markIntS.f k l m) (m + (l.length : Int), tab l.length (fun i => m + (i : Int))) := by
  unfold laws_markIntS.f
  rw [(for_iff (fun k (s : List Int × Int) i => laws_markIntS.l0 k s.1 s.2 i) (fun i s => (s.1.set i (m + (i : Int)), m + ((i : Int) + 1))) (fun i s => s.1.length = l.length ∧ s.2 = m + (i : Int)) l.length _ ?_ (l, m) ⟨rfl, by simp⟩).2]
  · have hI : ∀ n, n ≤ l.length → iter (fun (i : Nat) (s : List Int × Int) => (s.1.set i (m + (i : Int)), m + ((i : Int) + 1))) n (l, m) = (iter (fun i s => s.set i (m + (i : Int))) n l, m + (n : Int)) := by
      intro n
      induction n with
      | zero => intro _; simp [iter]
      | succ n ih => intro hn; rw [iter_succ, ih (by omega), iter_succ]; simp
    rw [hI _ (Nat.le_refl _), iter_store_all _ _ _ rfl]
    exact Ev.step (fun k => by simp only [laws_markIntS.l0]; rw [if_neg (by simp)]) (Ev.now _)
  · rintro i ⟨s, c⟩ hi ⟨hs, hc⟩
    simp only at hs hc
    subst hc
    refine ⟨⟨by simpa using hs, by simp⟩, ?_⟩
    rw [ev_shift]
    simp only [laws_markIntS.l0]
    rw [ev_pos (by omega), ev_pos (by omega), w64 (by omega) (by omega), w64 (by omega) (by omega), Int.toNat_natCast, Int.add_assoc]

theorem heldIntS_ev (n : Nat) (m : Int) (h : n ≤ 2000000) (h0 : 0 ≤ m) (h1 : m ≤ 1000000000) :
    Ev (fun k => laws_heldIntS.f k (tab n (fun i => m + (i : Int))) m) (m + (n : Int)) := by
  unfold laws_heldIntS.f
  rw [(for_iff (fun k (c : Int) i => laws_heldIntS.l0 k (tab n (fun i => m + (i : Int))) c i) (fun i c => m + ((i : Int) + 1)) (fun i c => c = m + (i : Int)) n _ ?_ m (by simp)).2]
  · have hI : iter (fun (i : Nat) (c : Int) => m + ((i : Int) + 1)) n m = m + (n : Int) := by
      cases n with
      | zero => simp [iter]
      | succ n => rw [iter_succ]; simp
    rw [hI]
    exact Ev.step (fun k => by simp only [laws_heldIntS.l0]; rw [if_neg (by simp)]) (Ev.now _)
  · intro i c hi hc
    refine ⟨by simp, ?_⟩
    rw [ev_shift]
    simp only [laws_heldIntS.l0, tab_length]
    rw [ev_pos (by omega), ev_pos (by omega), rd_tab' hi, ev_pos hc.symm, hc, w64 (by omega) (by omega), w64 (by omega) (by omega), Int.add_assoc]

theorem within_ev (l : List Int) (m : Int) (hl : l.length ≤ 2000000) (h0 : 0 ≤ m) (h1 : m ≤ 1000000000000) : Ev (fun k => impl_within.f k l m) (inB m l) := by
  unfold impl_within.f
  rw [inB_range]
  rw [all_iff (fun k i => impl_within.l0 k m l (l.length : Int) i) (fun i => decide (-m ≤ rd l (i : Int)) && decide (rd l (i : Int) ≤ m)) l.length _ false]
  · split
    · rename_i hp
      rw [hp]
      exact Ev.step (fun k => by simp only [impl_within.l0]; rw [if_neg (by omega)]) (Ev.now _)
    · rename_i hp
      simpa using hp
  · intro i hi
    by_cases p : -m ≤ rd l (i : Int) ∧ rd l (i : Int) ≤ m
    · rw [if_pos (by simpa using p)]
      rw [ev_shift]
      simp only [impl_within.l0]
      rw [ev_pos (by omega), ev_pos (by omega), ev_pos (by omega), w64 (n := -m) (by omega) (by omega), ev_neg (by omega), ev_neg (by omega), w64 (by omega) (by omega)]
    · rw [if_neg (by simpa using p)]
      rw [ev_shift]
      simp only [impl_within.l0]
      rw [ev_pos (by omega), ev_pos (by omega), ev_pos (by omega), w64 (n := -m) (by omega) (by omega)]
      by_cases q : rd l (i : Int) < -m
      · rw [ev_pos q, ev_some_iff]
      · rw [ev_neg q, ev_pos (by omega), ev_some_iff]

theorem implSig_ev (l : List Int) (hl : l.length ≤ 2000000) : Ev (fun k => impl_SignalOk.f k l) (sigB l) := by
  unfold impl_SignalOk.f
  by_cases h : (l.length : Int) ≤ 512
  · rw [ev_pos h]
    rw [ev_bind (within_ev l 1000000000 hl (by omega) (by omega)), ev_some_iff, sigB, decide_eq_true (by omega : l.length ≤ 512), Bool.true_and]
  · rw [ev_neg h]
    rw [ev_some_iff, sigB, decide_eq_false (by omega : ¬ l.length ≤ 512), Bool.false_and]

theorem band_whole : ∀ n : Fin 257, 1 ≤ n.val → ((n.val &&& (n.val - 1)) == 0) = decide (Whole n.val) := by decide +kernel
theorem implWhole_eq (n : Nat) : impl_whole.f (n : Int) = some (decide (Whole n)) := by
  unfold impl_whole.f
  by_cases h0 : (n : Int) ≥ 1
  · rw [if_pos h0]
    by_cases h1 : (n : Int) ≤ 256
    · rw [if_pos h1, w64 (by omega) (by omega)]
      have e : (n : Int) - 1 = ((n - 1 : Nat) : Int) := by omega
      rw [e, band_nat n (n - 1) (by omega) (by omega)]
      have := band_whole ⟨n, by omega⟩ (by show 1 ≤ n; omega)
      simp only at this
      rw [← this]
      congr 1
      rw [Bool.eq_iff_iff, beq_iff_eq, beq_iff_eq]
      omega
    · rw [if_neg h1, decide_eq_false (fun h => by have := whole_le h; omega)]
  · rw [if_neg h0, decide_eq_false (fun h => by have := whole_le h; omega)]

theorem u64_small {n : Int} (h0 : 0 ≤ n) (h1 : n < 18446744073709551616) : IntKind.u64.wrap n = n := by
  have hs : IntKind.wrap .u64 n = (if (false && decide (n % (2 ^ 64 : Int) ≥ (2 ^ 63 : Int))) = true then n % (2 ^ 64 : Int) - (2 ^ 64 : Int) else n % (2 ^ 64 : Int)) := rfl
  have h4 : n % (2 ^ 64 : Int) = n := Int.emod_eq_of_lt h0 (by omega)
  rw [hs, h4]
  simp

theorem ones_all : ∀ n : Fin 256, (bits_OnesCount64.f ((n.val : Nat) : Int)).map (fun t => Int.tmod t 2) = some ((par 9 n.val : Nat) : Int) := by decide +kernel
theorem ones_ev (n : Nat) (h : n < 256) : ∃ t, bits_OnesCount.f (n : Int) = some t ∧ Int.tmod t 2 = ((par 9 n : Nat) : Int) := by
  have := ones_all ⟨n, h⟩
  dsimp only at this
  unfold bits_OnesCount.f
  cases e : bits_OnesCount64.f (n : Int) with
  | none => rw [e] at this; exact absurd this (by simp)
  | some t => rw [e] at this; exact ⟨t, rfl, by simpa using this⟩
def walPart (l : List Int) (k m : Nat) : List Int := tab l.length fun j => if j < k then walN l j else if j = k then sumI (fun i => sgn (i &&& k) * rd l (i : Int)) m else 0
theorem walPart_zero (l : List Int) (k : Nat) : (tab l.length fun j => if j < k then walN l j else 0) = walPart l k 0 := by
  refine tab_congr fun j _ => ?_
  by_cases c : j < k
  · rw [if_pos c, if_pos c]
  · rw [if_neg c, if_neg c]
    split <;> rfl
theorem walPart_all (l : List Int) (k : Nat) : walPart l k l.length = tab l.length fun j => if j < k + 1 then walN l j else 0 := by
  refine tab_congr fun j _ => ?_
  by_cases c : j < k
  · rw [if_pos c, if_pos (by omega)]
  · rw [if_neg c]
    by_cases d : j = k
    · rw [if_pos d, if_pos (by omega), d]; rfl
    · rw [if_neg d, if_neg (by omega)]
theorem walPart_set (l : List Int) (k m : Nat) (hk : k < l.length) (v : Int) (hv : v = sumI (fun i => sgn (i &&& k) * rd l (i : Int)) (m + 1)) : (walPart l k m).set k v = walPart l k (m + 1) := by
  unfold walPart
  rw [set_tab _ _ hk]
  refine tab_congr fun j _ => ?_
  by_cases d : j = k
  · subst d
    rw [if_pos rfl, if_neg (by omega), if_pos rfl, hv]
  · rw [if_neg d]
    by_cases c : j < k
    · rw [if_pos c, if_pos c]
    · rw [if_neg c, if_neg c, if_neg d, if_neg d]
theorem walInner (l : List Int) (k : Nat) (hs : sigB l = true) (hl : l.length ≤ 256) (hk : k < l.length) (r : List Int × Bool) :
    Ev (fun f => impl_Walsh.l1 f l (walPart l k 0) (k : Int) (l.length : Int) (k : Int) l (l.length : Int) 0) r ↔
    Ev (fun f => impl_Walsh.l0 f l (walPart l k l.length) (l.length : Int) ((k : Int) + 1)) r := by
  have g := for_iff (fun f s i => impl_Walsh.l1 f l s (k : Int) (l.length : Int) (k : Int) l (l.length : Int) i) (fun i _ => walPart l k (i + 1)) (fun i s => s = walPart l k i) l.length r ?_ (walPart l k 0) rfl
  · rw [g.2, g.1, ev_shift]
    simp only [impl_Walsh.l1]
    rw [ev_neg (by omega), w64 (by omega) (by omega)]
  · intro i s hi he
    subst he
    refine ⟨rfl, ?_⟩
    have hand : i &&& k < 256 := Nat.lt_of_le_of_lt Nat.and_le_left (by omega)
    obtain ⟨t, et, e2⟩ := ones_ev (i &&& k) hand
    have pb := part_bound l hs k i (by omega)
    have sb := step_bound l hs k i
    have rb : rd (walPart l k i) (k : Int) = sumI (fun i => sgn (i &&& k) * rd l (i : Int)) i := by
      unfold walPart
      rw [rd_tab' hk, if_neg (by omega), if_pos rfl]
    have hx := inB_rd (sigB_iff.1 hs).2 (by omega) (i : Int)
    have hlen : (walPart l k i).length = l.length := by simp [walPart]
    rw [ev_shift]
    simp only [impl_Walsh.l1]
    rw [ev_pos (by omega), ev_pos (by omega), ev_pos (by omega), band_nat i k (by omega) (by omega), u64_small (by omega) (by omega), et, ev_sbind, e2, rb, hlen, Int.toNat_natCast, w64 (n := (i : Int) + 1) (by omega) (by omega)]
    by_cases c : par 9 (i &&& k) = 1
    · have sg : sgn (i &&& k) * rd l (i : Int) = - rd l (i : Int) := by unfold sgn; rw [if_pos c]; omega
      rw [sg] at sb
      rw [ev_pos (by omega), ev_pos (by omega), ev_pos (by omega), w64 (n := - rd l (i : Int)) (by omega) (by omega), w64 (by omega) (by omega), walPart_set l k i hk _ (by rw [sumI_succ, sg])]
    · have sg : sgn (i &&& k) * rd l (i : Int) = rd l (i : Int) := by unfold sgn; rw [if_neg c]; omega
      rw [ev_neg (by omega), ev_pos (by omega), ev_pos (by omega), w64 (by omega) (by omega), walPart_set l k i hk _ (by rw [sumI_succ, sg])]
theorem implWalsh_ev (l : List Int) (hl : l.length ≤ 2000000) : Ev (fun k => impl_Walsh.f k l) (walR l (Whole l.length)) := by
  unfold impl_Walsh.f walR
  rw [ev_bind (implSig_ev l hl)]
  by_cases hs : sigB l = true
  · rw [ev_pos hs, implWhole_eq, ev_sbind]
    by_cases hw : Whole l.length
    · have hle := (whole_le hw).2
      rw [if_pos ⟨hs, hw⟩, decide_eq_true hw, ev_shift]
      simp only [impl_Walsh.j0, Bool.not_true, Bool.false_eq_true, if_false]
      rw [ev_pos (by omega), Int.toNat_natCast, ev_pos (by omega), ev_sbind]
      have g := for_iff (fun f s i => impl_Walsh.l0 f l s (l.length : Int) i) (fun i _ => tab l.length fun j => if j < i + 1 then walN l j else 0) (fun i s => s = tab l.length fun j => if j < i then walN l j else 0) l.length (walV l, true) ?_ (List.replicate l.length 0) ?_
      · rw [List.length_replicate, g.2, g.1, ev_shift]
        simp only [impl_Walsh.l0]
        rw [ev_neg (by omega)]
        refine ev_some ?_
        congr 1
        exact tab_congr fun j hj => if_pos hj
      · intro i s hi he
        subst he
        refine ⟨rfl, ?_⟩
        rw [ev_shift]
        simp only [impl_Walsh.l0]
        rw [ev_pos (by omega), walPart_zero, walInner l i hs hle hi, walPart_all]
      · refine eq_tab (by simp) fun i hi => ?_
        rw [rd_replicate, if_neg (by omega)]
    · rw [if_neg (fun h => hw h.2), decide_eq_false hw, ev_shift]
      simp only [impl_Walsh.j0, Bool.not_false, if_true]
      exact Ev.now _
  · rw [ev_neg hs, if_neg (fun h => hs h.1), ev_shift]
    simp only [impl_Walsh.j0, if_true]
    exact Ev.now _

theorem l1In_eq (a b c : Int) : spec_l1In.f a b c = some (decide (b ≤ a ∧ a ≤ c)) := by
  unfold spec_l1In.f
  by_cases h : a ≥ b
  · rw [if_pos h]
    congr 1
    rw [decide_eq_decide]
    omega
  · rw [if_neg h]
    congr 1
    symm
    rw [decide_eq_false_iff_not]
    omega

theorem l5Sample_eq (a : Int) : spec_l5Sample.f a = some (decide (-1000000000 ≤ a ∧ a ≤ 1000000000)) := by
  unfold spec_l5Sample.f
  rw [l1In_eq]
  rfl
theorem specSig_ev (l : List Int) (hl : l.length ≤ 2000000) : Ev (fun k => spec_SignalOk.f k l) (sigB l) := by
  unfold spec_SignalOk.f
  rw [sigB, inB_range]
  rw [all_iff (fun k i => spec_SignalOk.l0 k l i) (fun i => decide (-1000000000 ≤ rd l (i : Int)) && decide (rd l (i : Int) ≤ 1000000000)) l.length _ false]
  · split
    · rename_i hp
      rw [hp, Bool.and_true]
      exact Ev.step (f := fun _ => some (decide (l.length ≤ 512))) (fun k => by simp only [spec_SignalOk.l0]; rw [if_neg (by omega)]; congr 1; rw [decide_eq_decide]; omega) (Ev.now _)
    · rename_i hp
      simp only [Bool.not_eq_true] at hp
      rw [hp, Bool.and_false]
  · intro i hi
    by_cases p : -1000000000 ≤ rd l (i : Int) ∧ rd l (i : Int) ≤ 1000000000
    · rw [if_pos (by simpa using p)]
      rw [ev_shift]
      simp only [spec_SignalOk.l0]
      rw [ev_pos (by omega), ev_pos (by omega), l5Sample_eq]
      simp only [Option.bind_some]
      rw [ev_pos (by simpa using p), w64 (by omega) (by omega)]
    · rw [if_neg (by simpa using p)]
      rw [ev_shift]
      simp only [spec_SignalOk.l0]
      rw [ev_pos (by omega), ev_pos (by omega), l5Sample_eq]
      simp only [Option.bind_some]
      rw [ev_neg (by simpa using p), ev_some_iff]

theorem specWholeN_ev (n : Nat) : Ev (fun k => spec_l6Whole.f k (n : Int)) (decide (Whole n)) := by
  unfold spec_l6Whole.f
  have step : ∀ (w : Int) (b : Bool), 1 ≤ w → w ≤ 256 → (Ev (fun k => spec_l6Whole.l0 k (n : Int) w) b ↔ (if (n : Int) = w then true = b else Ev (fun k => spec_l6Whole.l0 k (n : Int) (2 * w)) b)) := by
    intro w b h0 h1
    rw [ev_shift]
    simp only [spec_l6Whole.l0]
    rw [ev_pos h1, w64 (by omega) (by omega)]
    by_cases c : (n : Int) = w
    · rw [ev_pos c, if_pos c, ev_some_iff]
    · rw [ev_neg c, if_neg c]
  by_cases h : Whole n
  · rw [decide_eq_true h]
    rcases h with h | h | h | h | h | h | h | h | h <;> subst h <;> (repeat (first | (rw [step _ _ (by omega) (by omega)]) | (rw [if_neg (by omega)]) | (rw [if_pos (by omega)])))
  · rw [decide_eq_false h]
    unfold Whole at h
    rw [step 1 _ (by omega) (by omega), if_neg (by omega), step _ _ (by omega) (by omega), if_neg (by omega), step _ _ (by omega) (by omega), if_neg (by omega), step _ _ (by omega) (by omega), if_neg (by omega), step _ _ (by omega) (by omega), if_neg (by omega), step _ _ (by omega) (by omega), if_neg (by omega), step _ _ (by omega) (by omega), if_neg (by omega), step _ _ (by omega) (by omega), if_neg (by omega), step _ _ (by omega) (by omega), if_neg (by omega), ev_shift]
    simp only [spec_l6Whole.l0]
    rw [ev_neg (by omega)]
    exact Ev.now _

theorem specParity (l s : List Int) (k i : Nat) (sum : Int) (r : List Int × Bool) : ∀ (f m : Nat) (b : Bool), m < 2 ^ f → m < 1000 →
    (Ev (fun q => spec_Walsh.l2 q l s (k : Int) sum (i : Int) b (m : Int)) r ↔ Ev (fun q => spec_Walsh.l2 q l s (k : Int) sum (i : Int) (b != (par f m == 1)) 0) r) := by
  intro f
  induction f with
  | zero =>
    intro m b h _
    have : m = 0 := by omega
    subst this
    have e : (b != (par 0 0 == 1)) = b := by cases b <;> rfl
    rw [e]
    exact Iff.rfl
  | succ f ih =>
    intro m b h hm
    rw [Nat.pow_succ] at h
    by_cases c : m = 0
    · subst c
      have z : par (f + 1) 0 = 0 := by
        have : ∀ f, par f 0 = 0 := by
          intro f
          induction f with
          | zero => rfl
          | succ f ih => simp [par, ih]
        exact this _
      rw [z]
      have e : (b != ((0 : Nat) == 1)) = b := by cases b <;> rfl
      rw [e]
      exact Iff.rfl
    · have e2 : Int.tdiv (m : Int) 2 = ((m / 2 : Nat) : Int) := (Int.ofNat_tdiv m 2).symm
      have e3 : Int.tmod (m : Int) 2 = ((m % 2 : Nat) : Int) := (Int.ofNat_tmod m 2).symm
      rw [ev_shift]
      simp only [spec_Walsh.l2]
      rw [ev_pos (by omega), e2, e3, w64 (by omega) (by omega), ih (m / 2) _ (by omega) (by omega)]
      have key : ((b != (((m % 2 : Nat) : Int) == 1)) != (par f (m / 2) == 1)) = (b != (par (f + 1) m == 1)) := by
        simp only [par]
        rcases par_two f (m / 2) with x | x <;> rcases Nat.mod_two_eq_zero_or_one m with y | y <;> rw [x, y] <;> cases b <;> rfl
      rw [key]
theorem specInner (l s : List Int) (k : Nat) (hs : sigB l = true) (hl : l.length ≤ 256) (hk : k < l.length) (hsl : s.length ≤ 1000) (r : List Int × Bool) :
    Ev (fun q => spec_Walsh.l1 q l s (k : Int) 0 0) r ↔ Ev (fun q => spec_Walsh.l0 q l (s ++ [walN l k]) ((k : Int) + 1)) r := by
  have g := for_iff (fun q c i => spec_Walsh.l1 q l s (k : Int) c i) (fun i _ => sumI (fun i => sgn (i &&& k) * rd l (i : Int)) (i + 1)) (fun i c => c = sumI (fun i => sgn (i &&& k) * rd l (i : Int)) i) l.length r ?_ 0 rfl
  · rw [g.2, g.1, ev_shift]
    simp only [spec_Walsh.l1]
    rw [ev_neg (by omega), ev_pos (by omega), w64 (by omega) (by omega)]
    exact Iff.rfl
  · intro i c hi he
    subst he
    refine ⟨rfl, ?_⟩
    have hand : i &&& k < 256 := Nat.lt_of_le_of_lt Nat.and_le_left (by omega)
    have pb := part_bound l hs k i (by omega)
    have sb := step_bound l hs k i
    rw [ev_shift]
    simp only [spec_Walsh.l1]
    rw [ev_pos (by omega), band_nat i k (by omega) (by omega), specParity l s k i _ r 9 (i &&& k) false (by omega) (by omega), ev_shift]
    simp only [spec_Walsh.l2]
    rw [ev_neg (by omega), sumI_succ, w64 (n := (i : Int) + 1) (by omega) (by omega)]
    by_cases c : par 9 (i &&& k) = 1
    · have sg : sgn (i &&& k) * rd l (i : Int) = - rd l (i : Int) := by unfold sgn; rw [if_pos c]; omega
      rw [sg] at sb
      rw [ev_pos (by rw [c]; rfl), ev_pos (by omega), ev_pos (by omega), sg, w64 (by omega) (by omega), Int.sub_eq_add_neg]
    · have sg : sgn (i &&& k) * rd l (i : Int) = rd l (i : Int) := by unfold sgn; rw [if_neg c]; omega
      rw [sg] at sb
      have z : par 9 (i &&& k) = 0 := by rcases par_two 9 (i &&& k) with h | h <;> omega
      rw [ev_neg (by rw [z]; decide), ev_pos (by omega), ev_pos (by omega), sg, w64 (by omega) (by omega)]
theorem specWalsh_ev (l : List Int) (hl : l.length ≤ 2000000) : Ev (fun k => spec_Walsh.f k l) (walR l (Whole l.length)) := by
  unfold spec_Walsh.f walR
  rw [ev_bind (specSig_ev l hl)]
  by_cases hs : sigB l = true
  · rw [ev_pos hs, ev_bind (specWholeN_ev l.length)]
    by_cases hw : Whole l.length
    · have hle := (whole_le hw).2
      rw [if_pos ⟨hs, hw⟩, decide_eq_true hw, ev_shift]
      simp only [spec_Walsh.j0, Bool.not_true, Bool.false_eq_true, if_false]
      have g := for_iff (fun q s i => spec_Walsh.l0 q l s i) (fun i _ => tab (i + 1) fun j => walN l j) (fun i s => s = tab i fun j => walN l j) l.length (walV l, true) ?_ [] rfl
      · rw [g.2, g.1, ev_shift]
        simp only [spec_Walsh.l0]
        rw [ev_neg (by omega)]
        exact Ev.now _
      · intro i s hi he
        subst he
        refine ⟨rfl, ?_⟩
        rw [ev_shift]
        simp only [spec_Walsh.l0]
        rw [ev_pos (by omega), specInner l _ i hs hle hi (by simp; omega), tab_succ]
    · rw [if_neg (fun h => hw h.2), decide_eq_false hw, ev_shift]
      simp only [spec_Walsh.j0, Bool.not_false, if_true]
      exact Ev.now _
  · rw [ev_neg hs, if_neg (fun h => hs h.1), ev_shift]
    simp only [spec_Walsh.j0, if_true]
    exact Ev.now _

theorem FnExactWalsh : laws_FnExactWalsh.Pure := by
  intro l0 _ _ wl0
  refine Ev.rounds (g := fun k => laws_FnExactWalsh.f k l0) ?_
  by_cases hl0 : (l0.length : Int) > 1048576
  · simp only [laws_FnExactWalsh.f, if_pos hl0]
    exact Ev.now _
  have hS := specWalsh_ev l0 (by omega)
  have hI := implWalsh_ev l0 (by omega)
  have := walR_length l0 (Whole l0.length) (by omega)
  generalize walR l0 (Whole l0.length) = R at *
  simp only [laws_FnExactWalsh.f, if_neg hl0]
  have t_l0 := toIntS_ev l0 (by omega)
  have e_l0 := eqIntS_ev l0 l0 (by omega)
  have v_0 := eqIntS_ev (R.1) (R.1) (by omega)
  have m_l0 := markIntS_ev l0 (1) (by omega) (by omega) (by omega)
  have n_0 := markIntS_ev (R.1) (1) (by omega) (by omega) (by omega)
  have h_0 := heldIntS_ev (R.1).length (1) (by omega) (by omega) (by omega)
  simp only [decide_true] at e_l0 v_0
  repeat (first
    | exact Ev.now _
    | (rw [ev_bind t_l0])
    | (rw [ev_bind e_l0])
    | (rw [ev_bind v_0])
    | (rw [ev_bind m_l0])
    | (rw [ev_bind n_0])
    | (rw [ev_bind h_0])
    | (rw [ev_bind hS])
    | (rw [ev_bind hI])
    | (simp only [if_true, if_false, bne_self_eq_false, Bool.false_eq_true]; done)
    | (rw [ev_neg (by omega)])
    | (rw [ev_pos rfl])
    | (simp only [if_true, if_false, bne_self_eq_false, Bool.false_eq_true])
    | (rw [ev_shift]; simp only [laws_FnExactWalsh.j0])
    | (rw [ev_shift]; simp only [laws_FnExactWalsh.j1])
    | (rw [ev_shift]; simp only [laws_FnExactWalsh.j2])
    | (rw [ev_shift]; simp only [laws_FnExactWalsh.j3]))

end Go.Proofs.Ytilcnbommpncgaa.Pure
