/- The pure part of FnExactAdapt: the program's Adapt and the reference's Adapt answer alike. No conditions. -/
import Derived.Test.YtgincgknmchedaaQFnExactAdaptx6
import Derived.Test.YtgincgknmchedaaBase
namespace Go.Proofs.Ytgincgknmchedaa.Pure
open Go.RowKit Go.Proofs.Ytgincgknmchedaa.QFnExactAdapt Go.Proofs.YtgincgknmchedaaW.PrintWords Go.Proofs.YtgincgknmchedaaW.PrintLast
open Go.Proofs.Ytgincgknmchedaa.Base
set_option linter.unusedVariables false
set_option linter.unusedSimpArgs false
/-! ### toIntS, eqIntS, markIntS, heldIntS -/
theorem toIntS_ev (l : List Int) (h : l.length ≤ 2000000) : Ev (fun k => laws_toIntS.f k l) l := by
  unfold laws_toIntS.f
  simp only [Int.toNat_natCast]
  rw [ev_pos (by omega), ev_pos (by omega)]
  rw [(for_iff (fun k s i => laws_toIntS.l0 k l s i) (fun i s => s.set i (rd l (i : Int))) (fun _ s => s.length = l.length) l.length l ?_ _ (by simp)).2]
  · rw [iter_store_all _ _ _ (by simp), tab_rd]
    exact Ev.step (fun k => by simp only [laws_toIntS.l0]; rw [if_neg (by omega)]) (Ev.now _)
  · intro i s hi hs
    refine ⟨by simpa using hs, ?_⟩
    rw [ev_shift]
    simp only [laws_toIntS.l0]
    rw [ev_pos (by omega), ev_pos (by omega), ev_pos (by omega), w64 (by omega) (by omega), Int.toNat_natCast]

theorem eqIntS_ev (a b : List Int) (h : a.length ≤ 2000000) : Ev (fun k => laws_eqIntS.f k a b) (decide (a = b)) := by
  unfold laws_eqIntS.f
  by_cases e : a.length = b.length
  · rw [ev_pos (by omega)]
    rw [all_iff (fun k i => laws_eqIntS.l0 k a b i) (fun i => decide (rd a (i : Int) = rd b (i : Int))) a.length _ false]
    · split
      · rename_i hp
        have : a = b := list_ext_rd e fun i hi => by simpa using range_all.1 hp i hi
        rw [decide_eq_true this]
        exact Ev.step (fun k => by simp only [laws_eqIntS.l0]; rw [if_neg (by omega)]) (Ev.now _)
      · rename_i hp
        have : ¬ a = b := fun h => hp (by subst h; rw [range_all]; simp)
        simp [this]
    · intro i hi
      by_cases p : rd a (i : Int) = rd b (i : Int)
      · rw [if_pos (by simpa using p)]
        rw [ev_shift]
        simp only [laws_eqIntS.l0]
        rw [ev_pos (by omega), ev_pos (by omega), ev_pos (by omega), ev_pos p, w64 (by omega) (by omega)]
      · rw [if_neg (by simpa using p)]
        rw [ev_shift]
        simp only [laws_eqIntS.l0]
        rw [ev_pos (by omega), ev_pos (by omega), ev_pos (by omega), ev_neg p, ev_some_iff]
  · rw [ev_neg (by omega)]
    have : ¬ a = b := fun h => e (by rw [h])
    simp only [this, decide_false]
    exact Ev.now _

theorem markIntS_ev (l : List Int) (m : Int) (h : l.length ≤ 2000000) (h0 : 0 ≤ m) (h1 : m ≤ 1000000000) :
    Ev (fun k => laws_markIntS.f k l m) (m + (l.length : Int), tab l.length (fun i => m + (i : Int))) := by
  unfold laws_markIntS.f
  rw [(for_iff (fun k (s : List Int × Int) i => laws_markIntS.l0 k s.1 s.2 i) (fun i s => (s.1.set i (m + (i : Int)), m + ((i : Int) + 1))) (fun i s => s.1.length = l.length ∧ s.2 = m + (i : Int)) l.length _ ?_ (l, m) ⟨rfl, by simp⟩).2]
  · have hI : ∀ n, n ≤ l.length → iter (fun (i : Nat) (s : List Int × Int) => (s.1.set i (m + (i : Int)), m + ((i : Int) + 1))) n (l, m) = (iter (fun i s => s.set i (m + (i : Int))) n l, m + (n : Int)) := by
      intro n
      induction n with
      | zero => intro _; simp [iter]
      | succ n ih => intro hn; rw [iter_succ, ih (by omega), iter_succ]; simp
    rw [hI _ (Nat.le_refl _), iter_store_all _ _ _ rfl]
    exact Ev.step (fun k => by simp only [laws_markIntS.l0]; rw [if_neg (by simp)]) (Ev.now _)
  · rintro i ⟨s, c⟩ hi ⟨hs, hc⟩
    simp only at hs hc
    subst hc
    refine ⟨⟨by simpa using hs, by simp⟩, ?_⟩
    rw [ev_shift]
    simp only [laws_markIntS.l0]
    rw [ev_pos (by omega), ev_pos (by omega), w64 (by omega) (by omega), w64 (by omega) (by omega), Int.toNat_natCast, Int.add_assoc]

theorem heldIntS_ev (n : Nat) (m : Int) (h : n ≤ 2000000) (h0 : 0 ≤ m) (h1 : m ≤ 1000000000) :
    Ev (fun k => laws_heldIntS.f k (tab n (fun i => m + (i : Int))) m) (m + (n : Int)) := by
  unfold laws_heldIntS.f
  rw [(for_iff (fun k (c : Int) i => laws_heldIntS.l0 k (tab n (fun i => m + (i : Int))) c i) (fun i c => m + ((i : Int) + 1)) (fun i c => c = m + (i : Int)) n _ ?_ m (by simp)).2]
  · have hI : iter (fun (i : Nat) (c : Int) => m + ((i : Int) + 1)) n m = m + (n : Int) := by
      cases n with
      | zero => simp [iter]
      | succ n => rw [iter_succ]; simp
    rw [hI]
    exact Ev.step (fun k => by simp only [laws_heldIntS.l0]; rw [if_neg (by simp)]) (Ev.now _)
  · intro i c hi hc
    refine ⟨by simp, ?_⟩
    rw [ev_shift]
    simp only [laws_heldIntS.l0, tab_length]
    rw [ev_pos (by omega), ev_pos (by omega), rd_tab' hi, ev_pos hc.symm, hc, w64 (by omega) (by omega), w64 (by omega) (by omega), Int.add_assoc]

theorem l1In_eq (a b c : Int) : spec_l1In.f a b c = some (decide (b ≤ a ∧ a ≤ c)) := by
  unfold spec_l1In.f
  by_cases h : a ≥ b
  · rw [if_pos h]
    congr 1
    rw [decide_eq_decide]
    omega
  · rw [if_neg h]
    congr 1
    symm
    rw [decide_eq_false_iff_not]
    omega

theorem within_ev (l : List Int) (m : Int) (hl : l.length ≤ 2000000) (h0 : 0 ≤ m) (h1 : m ≤ 1000000000000) : Ev (fun k => impl_within.f k l m) (inB m l) := by
  unfold impl_within.f
  rw [inB_range]
  rw [all_iff (fun k i => impl_within.l0 k m l (l.length : Int) i) (fun i => decide (-m ≤ rd l (i : Int)) && decide (rd l (i : Int) ≤ m)) l.length _ false]
  · split
    · rename_i hp
      rw [hp]
      exact Ev.step (fun k => by simp only [impl_within.l0]; rw [if_neg (by omega)]) (Ev.now _)
    · rename_i hp
      simpa using hp
  · intro i hi
    by_cases p : -m ≤ rd l (i : Int) ∧ rd l (i : Int) ≤ m
    · rw [if_pos (by simpa using p)]
      rw [ev_shift]
      simp only [impl_within.l0]
      rw [ev_pos (by omega), ev_pos (by omega), ev_pos (by omega), w64 (n := -m) (by omega) (by omega), ev_neg (by omega), ev_neg (by omega), w64 (by omega) (by omega)]
    · rw [if_neg (by simpa using p)]
      rw [ev_shift]
      simp only [impl_within.l0]
      rw [ev_pos (by omega), ev_pos (by omega), ev_pos (by omega), w64 (n := -m) (by omega) (by omega)]
      by_cases q : rd l (i : Int) < -m
      · rw [ev_pos q, ev_some_iff]
      · rw [ev_neg q, ev_pos (by omega), ev_some_iff]


theorem implSig_ev (l : List Int) (hl : l.length ≤ 2000000) : Ev (fun k => impl_SignalOk.f k l) (sigB l) := by
  unfold impl_SignalOk.f
  by_cases h : (l.length : Int) ≤ 512
  · rw [ev_pos h]
    rw [ev_bind (within_ev l 1000000000 hl (by omega) (by omega)), ev_some_iff, sigB, decide_eq_true (by omega : l.length ≤ 512), Bool.true_and]
  · rw [ev_neg h]
    rw [ev_some_iff, sigB, decide_eq_false (by omega : ¬ l.length ≤ 512), Bool.false_and]


theorem l9Wide_ev (l : List Int) (m : Int) (hl : l.length ≤ 2000000) (h0 : 0 ≤ m) (h1 : m ≤ 1000000000000) : Ev (fun k => spec_l9Wide.f k l m) (inB m l) := by
  unfold spec_l9Wide.f
  rw [inB_range]
  rw [all_iff (fun k i => spec_l9Wide.l0 k l m i) (fun i => decide (-m ≤ rd l (i : Int)) && decide (rd l (i : Int) ≤ m)) l.length _ false]
  · split
    · rename_i hp
      rw [hp]
      exact Ev.step (fun k => by simp only [spec_l9Wide.l0]; rw [if_neg (by omega)]) (Ev.now _)
    · rename_i hp
      simpa using hp
  · intro i hi
    by_cases p : -m ≤ rd l (i : Int) ∧ rd l (i : Int) ≤ m
    · rw [if_pos (by simpa using p)]
      rw [ev_shift]
      simp only [spec_l9Wide.l0]
      rw [ev_pos (by omega), ev_pos (by omega), w64 (n := -m) (by omega) (by omega), l1In_eq]
      simp only [Option.bind_some]
      rw [ev_pos (by simpa using p), w64 (by omega) (by omega)]
    · rw [if_neg (by simpa using p)]
      rw [ev_shift]
      simp only [spec_l9Wide.l0]
      rw [ev_pos (by omega), ev_pos (by omega), w64 (n := -m) (by omega) (by omega), l1In_eq]
      simp only [Option.bind_some]
      rw [ev_neg (by simpa using p), ev_some_iff]

theorem floor_eq (a b : Int) (hb : 0 < b) (h0 : -4611686018427387904 ≤ a / b) (h1 : a / b ≤ 4611686018427387904) : spec_l5Floor.f a b = some (a / b) := by
  unfold spec_l5Floor.f
  rw [if_neg (by omega)]
  have e1 := Int.tdiv_eq_ediv (a := a) (b := b)
  have e2 := Int.tmod_eq_emod (a := a) (b := b)
  have h2 := Int.emod_nonneg a (by omega : b ≠ 0)
  have h3 := Int.emod_lt_of_pos a hb
  by_cases c : 0 ≤ a ∨ b ∣ a
  · rw [if_pos c] at e1 e2
    rw [e1, e2, if_neg (by omega), w64 (by omega) (by omega), Int.add_zero]
  · rw [if_neg c] at e1 e2
    have s : b.sign = 1 := Int.sign_eq_one_of_pos hb
    have n : (b.natAbs : Int) = b := by omega
    rw [e1, e2, if_pos (by omega), s, w64 (n := a / b + 1) (by omega) (by omega), w64 (by omega) (by omega), Int.add_sub_cancel]

theorem u64_small {n : Int} (h0 : 0 ≤ n) (h1 : n < 18446744073709551616) : IntKind.u64.wrap n = n := by
  have hs : IntKind.wrap .u64 n = (if (false && decide (n % (2 ^ 64 : Int) ≥ (2 ^ 63 : Int))) = true then n % (2 ^ 64 : Int) - (2 ^ 64 : Int) else n % (2 ^ 64 : Int)) := rfl
  have h4 : n % (2 ^ 64 : Int) = n := Int.emod_eq_of_lt h0 (by omega)
  rw [hs, h4]
  simp

/-! ### Adapt -/
def shV (x b : Int) : Int := if -4000000000000000000 ≤ x ∧ x ≤ 4000000000000000000 then x / 2 ^ b.toNat else 0
theorem shl_one : ∀ n : Fin 61, shl .i64 1 ((n.val : Nat) : Int) = 2 ^ n.val := by decide +kernel
theorem shl_two {b : Int} (h0 : 0 ≤ b) (h1 : b ≤ 60) : shl .i64 1 b = 2 ^ b.toNat := by
  have := shl_one ⟨b.toNat, by omega⟩
  dsimp only at this
  rw [Int.toNat_of_nonneg h0] at this
  exact this
theorem shr_two {x b : Int} (h0 : 0 ≤ b) (h1 : b ≤ 60) : shr .i64 x b = x / 2 ^ b.toNat := by
  have e : shr .i64 x b = x / 2 ^ min b.toNat 64 := rfl
  rw [e, Nat.min_eq_left (by omega)]
theorem big18_eq (a : Int) : impl_big18.f a = some (decide (-4000000000000000000 ≤ a ∧ a ≤ 4000000000000000000)) := by
  unfold impl_big18.f
  by_cases h : a ≥ -4000000000000000000
  · rw [if_pos h]
    congr 1
    rw [decide_eq_decide]
    omega
  · rw [if_neg h]
    congr 1
    symm
    rw [decide_eq_false_iff_not]
    omega
theorem implShift_ev (x b : Int) (h0 : 0 ≤ b) (h1 : b ≤ 60) : Ev (fun k => impl_Shift.f k x b 1) (shV x b) := by
  have hc : impl_isCut.f 1 = some true := rfl
  unfold impl_Shift.f shV
  rw [big18_eq, ev_sbind]
  by_cases h : -4000000000000000000 ≤ x ∧ x ≤ 4000000000000000000
  · rw [decide_eq_true h, if_pos h, ev_pos rfl, ev_neg (by omega), ev_neg (by omega), hc, ev_sbind, ev_shift]
    simp only [impl_Shift.j0, Bool.not_true, Bool.false_eq_true, if_false]
    rw [ev_pos h0]
    by_cases c : b = 0
    · subst c
      rw [ev_pos rfl]
      exact ev_some (by simp)
    · rw [ev_neg c, w64 (by omega) (by omega), ev_pos (by omega), ev_neg (by omega), ev_neg (by omega), ev_neg (by omega), shr_two h0 h1]
      exact Ev.now _
  · rw [decide_eq_false h, if_neg h, ev_neg (by simp), ev_shift]
    simp only [impl_Shift.j0, if_true]
    exact Ev.now _
theorem specShift_ev (x b : Int) (h0 : 0 ≤ b) (h1 : b ≤ 60) : Ev (fun k => spec_Shift.f k x b 1) (shV x b) := by
  have hc : spec_l5Cut.f 1 = some true := rfl
  unfold spec_Shift.f shV
  rw [l1In_eq, ev_sbind]
  by_cases h : -4000000000000000000 ≤ x ∧ x ≤ 4000000000000000000
  · have hd : (0 : Int) < 2 ^ b.toNat := Int.pow_pos (by omega)
    have e1 : -4000000000000000000 ≤ x / 2 ^ b.toNat := (Int.le_ediv_iff_mul_le hd).2 (by omega)
    have e2 : x / 2 ^ b.toNat < 4000000000000000001 := (Int.ediv_lt_iff_lt_mul hd).2 (by omega)
    rw [decide_eq_true h, if_pos h, ev_pos rfl, l1In_eq, ev_sbind, decide_eq_true ⟨h0, h1⟩, ev_pos rfl, hc, ev_sbind, ev_shift]
    simp only [spec_Shift.j0, Bool.not_true, Bool.false_eq_true, if_false]
    rw [u64_small h0 (by omega), ev_pos h0, shl_two h0 h1, floor_eq _ _ hd (by omega) (by omega), ev_sbind, ev_neg (by omega), ev_neg (by omega), ev_neg (by omega)]
    exact Ev.now _
  · rw [decide_eq_false h, if_neg h, ev_neg (by simp), ev_shift]
    simp only [spec_Shift.j0, if_true]
    exact Ev.now _
def clampV (x : Int) : Int := if x > 1000000 then 1000000 else if x < -1000000 then -1000000 else x
theorem clamp_le (x : Int) : -1000000 ≤ clampV x ∧ clampV x ≤ 1000000 := by unfold clampV; split <;> (try split) <;> omega
theorem specEnd_eq (x : Int) : spec_l10End.f x = some (clampV x) := by
  unfold spec_l10End.f clampV
  split
  · rfl
  · split <;> rfl
theorem implEnd_eq (x : Int) : impl_nearer.f x (-1000000) 1000000 = some (clampV x) := by
  unfold impl_nearer.f clampV mn mx
  congr 1
  repeat (first | omega | split)
def dotW (w z : List Int) : Nat → Int
  | 0 => 0
  | n + 1 => wrap64 (dotW w z n + wrap64 (rd w (n : Int) * rd z (n : Int)))
def adZ (list : List Int) (t i : Nat) (z : List Int) : List Int := (rd list (i : Int) :: z).take t
def adE (want w z : List Int) (t i : Nat) : Int := wrap64 (rd want (i : Int) - shV (dotW w z t) 14)
def adW (w z : List Int) (t : Nat) (b e : Int) : List Int := tab t fun k => clampV (wrap64 (rd w (k : Int) + shV (wrap64 (e * rd z (k : Int))) b))
def adStep (list want : List Int) (t : Nat) (b : Int) (i : Nat) (s : List Int × List Int × List Int) : List Int × List Int × List Int :=
  (adW s.1 (adZ list t i s.2.1) t b (adE want s.1 (adZ list t i s.2.1) t i), adZ list t i s.2.1, s.2.2 ++ [adE want s.1 (adZ list t i s.2.1) t i])
def adAll (list want : List Int) (t : Nat) (b : Int) (n : Nat) : List Int × List Int × List Int := iter (adStep list want t b) n (List.replicate t 0, List.replicate t 0, [])
def adOk (t i : Nat) (s : List Int × List Int × List Int) : Prop := s.1.length = t ∧ s.2.1.length = t ∧ s.2.2.length = i
theorem adStep_ok (list want : List Int) (t : Nat) (b : Int) (i : Nat) (s : List Int × List Int × List Int) (h : adOk t i s) : adOk t (i + 1) (adStep list want t b i s) := by
  obtain ⟨h1, h2, h3⟩ := h
  refine ⟨by simp [adStep, adW], by simp [adStep, adZ]; omega, by simp [adStep, h3]⟩
theorem adAll_ok (list want : List Int) (t : Nat) (b : Int) (n : Nat) : adOk t n (adAll list want t b n) :=
  iter_inv (fun i s => adOk t i s) n _ ⟨by simp, by simp, rfl⟩ fun i s _ h => adStep_ok list want t b i s h
theorem specAdapt0_ev (list want : List Int) (t : Nat) (b : Int) (ht0 : 1 ≤ t) (ht1 : t ≤ 64) (hb0 : 0 ≤ b) (hb1 : b ≤ 40) (hl : list.length ≤ 512) (hw : list.length = want.length) :
    Ev (fun k => spec_Adapt.l0 k (t : Int) b list want (List.replicate t 0) (List.replicate t 0) [] 0) ((adAll list want t b list.length).2.2, (adAll list want t b list.length).1, true) := by
  have g := for_iff (fun k (s : List Int × List Int × List Int) i => spec_Adapt.l0 k (t : Int) b list want s.1 s.2.1 s.2.2 i) (adStep list want t b) (fun i s => adOk t i s) list.length ((adAll list want t b list.length).2.2, (adAll list want t b list.length).1, true) ?_ (List.replicate t 0, List.replicate t 0, []) ⟨by simp, by simp, rfl⟩
  · refine g.2.2 ?_
    rw [ev_shift]
    simp only [spec_Adapt.l0]
    rw [ev_neg (by omega)]
    exact Ev.now _
  · intro i s hi hs
    refine ⟨adStep_ok list want t b i s hs, ?_⟩
    obtain ⟨w, z, o⟩ := s
    obtain ⟨h1, h2, h3⟩ := hs
    dsimp only at h1 h2 h3 ⊢
    rw [ev_shift]
    simp only [spec_Adapt.l0]
    rw [ev_pos (by omega), ev_pos (by omega), ev_sbind, w64 (n := (t : Int) - 1) (by omega) (by omega), ev_pos (by omega), ev_pos (by omega), ev_sbind, ev_pos (by simp; omega)]
    have ez : [rd list (i : Int)] ++ z.take ((t : Int) - 1).toNat = adZ list t i z := by
      obtain ⟨u, rfl⟩ : ∃ u, t = u + 1 := ⟨t - 1, by omega⟩
      have : (((u + 1 : Nat) : Int) - 1).toNat = u := by omega
      rw [this]
      rfl
    have hz : (adZ list t i z).length = t := by simp [adZ]; omega
    rw [ez]
    have eS : adStep list want t b i (w, z, o) = (adW w (adZ list t i z) t b (adE want w (adZ list t i z) t i), adZ list t i z, o ++ [adE want w (adZ list t i z) t i]) := rfl
    rw [eS]
    dsimp only
    generalize adZ list t i z = y at *
    have d := for_iff (fun k s q => spec_Adapt.l1 k (t : Int) b list want w y o (i : Int) s q) (fun q _ => dotW w y (q + 1)) (fun q s => s = dotW w y q) t ((adAll list want t b list.length).2.2, (adAll list want t b list.length).1, true) ?_ 0 rfl
    · rw [d.2, d.1, ev_shift]
      simp only [spec_Adapt.l1]
      rw [ev_neg (by omega), ev_pos (by omega), ev_pos (by omega), ev_bind (specShift_ev _ 14 (by omega) (by omega))]
      have eE : wrap64 (rd want (i : Int) - shV (dotW w y t) 14) = adE want w y t i := rfl
      rw [eE]
      generalize adE want w y t i = e
      have m := map_loop (fun k s q => spec_Adapt.l2 k (t : Int) b list want s y o (i : Int) e q) w (fun k => clampV (wrap64 (rd w (k : Int) + shV (wrap64 (e * rd y (k : Int))) b))) ((adAll list want t b list.length).2.2, (adAll list want t b list.length).1, true) ?_
      · rw [m, h1, ev_shift]
        simp only [spec_Adapt.l2]
        rw [ev_neg (by omega), ev_pos (by omega), w64 (by omega) (by omega)]
        exact Iff.rfl
      · intro q s hq hs hr
        rw [ev_shift]
        simp only [spec_Adapt.l2]
        rw [ev_pos (by omega), ev_pos (by omega), ev_pos (by omega), ev_pos (by omega), ev_bind (specShift_ev _ b hb0 (by omega)), specEnd_eq, ev_sbind, hr, Int.toNat_natCast, w64 (n := (q : Int) + 1) (by omega) (by omega)]
    · intro q s hq hs
      subst hs
      refine ⟨rfl, ?_⟩
      rw [ev_shift]
      simp only [spec_Adapt.l1]
      rw [ev_pos (by omega), ev_pos (by omega), ev_pos (by omega), ev_pos (by omega), w64 (n := (q : Int) + 1) (by omega) (by omega)]
      exact Iff.rfl
theorem implAdapt0_ev (list want : List Int) (t : Nat) (b : Int) (ht0 : 1 ≤ t) (ht1 : t ≤ 64) (hb0 : 0 ≤ b) (hb1 : b ≤ 40) (hl : list.length ≤ 512) (hw : list.length = want.length) :
    Ev (fun k => impl_Adapt.l0 k (t : Int) b want (List.replicate t 0) (List.replicate t 0) [] list (list.length : Int) 0) ((adAll list want t b list.length).2.2, (adAll list want t b list.length).1, true) := by
  have g := for_iff (fun k (s : List Int × List Int × List Int) i => impl_Adapt.l0 k (t : Int) b want s.1 s.2.1 s.2.2 list (list.length : Int) i) (adStep list want t b) (fun i s => adOk t i s) list.length ((adAll list want t b list.length).2.2, (adAll list want t b list.length).1, true) ?_ (List.replicate t 0, List.replicate t 0, []) ⟨by simp, by simp, rfl⟩
  · refine g.2.2 ?_
    rw [ev_shift]
    simp only [impl_Adapt.l0]
    rw [ev_neg (by omega)]
    exact Ev.now _
  · intro i s hi hs
    refine ⟨adStep_ok list want t b i s hs, ?_⟩
    obtain ⟨w, z, o⟩ := s
    obtain ⟨h1, h2, h3⟩ := hs
    dsimp only at h1 h2 h3 ⊢
    rw [ev_shift]
    simp only [impl_Adapt.l0]
    rw [ev_pos (by omega), ev_pos (by omega), ev_pos (by omega), ev_sbind, ev_pos (by simp; omega), ev_sbind, ev_pos (by omega), ev_pos (by simp; omega), ev_sbind]
    have ez : ([rd list (i : Int)] ++ z).take ((t : Int)).toNat = adZ list t i z := by rw [Int.toNat_natCast]; rfl
    have hz : (adZ list t i z).length = t := by simp [adZ]; omega
    rw [ez]
    have eS : adStep list want t b i (w, z, o) = (adW w (adZ list t i z) t b (adE want w (adZ list t i z) t i), adZ list t i z, o ++ [adE want w (adZ list t i z) t i]) := rfl
    rw [eS]
    dsimp only
    generalize adZ list t i z = y at *
    have d := for_iff (fun k s q => impl_Adapt.l1 k (t : Int) b want w y o (i : Int) s list (list.length : Int) (i : Int) y (y.length : Int) q) (fun q _ => dotW w y (q + 1)) (fun q s => s = dotW w y q) t ((adAll list want t b list.length).2.2, (adAll list want t b list.length).1, true) ?_ 0 rfl
    · rw [d.2, d.1, ev_shift]
      simp only [impl_Adapt.l1]
      rw [ev_neg (by omega), ev_pos (by omega), ev_pos (by omega), ev_bind (implShift_ev _ 14 (by omega) (by omega))]
      have eE : wrap64 (rd want (i : Int) - shV (dotW w y t) 14) = adE want w y t i := rfl
      rw [eE]
      generalize adE want w y t i = e
      have m := map_loop (fun k s q => impl_Adapt.l2 k (t : Int) b want s y o e list (list.length : Int) (i : Int) y (y.length : Int) q) w (fun k => clampV (wrap64 (rd w (k : Int) + shV (wrap64 (e * rd y (k : Int))) b))) ((adAll list want t b list.length).2.2, (adAll list want t b list.length).1, true) ?_
      · rw [m, h1, ev_shift]
        simp only [impl_Adapt.l2]
        rw [ev_neg (by omega), ev_pos (by omega), w64 (by omega) (by omega)]
        exact Iff.rfl
      · intro q s hq hs hr
        rw [ev_shift]
        simp only [impl_Adapt.l2]
        rw [ev_pos (by omega), ev_pos (by omega), ev_pos (by omega), ev_pos (by omega), ev_bind (implShift_ev _ b hb0 (by omega)), implEnd_eq, ev_sbind, hr, Int.toNat_natCast, w64 (n := (q : Int) + 1) (by omega) (by omega)]
    · intro q s hq hs
      subst hs
      refine ⟨rfl, ?_⟩
      rw [ev_shift]
      simp only [impl_Adapt.l1]
      rw [ev_pos (by omega), ev_pos (by omega), ev_pos (by omega), ev_pos (by omega), w64 (n := (q : Int) + 1) (by omega) (by omega)]
      exact Iff.rfl
def AdOk (a b : Int) (list want : List Int) : Prop := 1 ≤ a ∧ a ≤ 64 ∧ 0 ≤ b ∧ b ≤ 40 ∧ list.length ≤ 512 ∧ list.length = want.length ∧ inB 32767 list = true ∧ inB 32767 want = true
open Classical in
noncomputable def adR (a b : Int) (list want : List Int) : List Int × List Int × Bool :=
  if AdOk a b list want then ((adAll list want a.toNat b list.length).2.2, (adAll list want a.toNat b list.length).1, true) else ([], [], false)
theorem adR_length (a b : Int) (list want : List Int) : (adR a b list want).1.length ≤ 2000000 ∧ (adR a b list want).2.1.length ≤ 2000000 := by
  unfold adR
  split
  · rename_i h
    obtain ⟨h1, h2, h3, h4, h5, _⟩ := h
    have := adAll_ok list want a.toNat b list.length
    obtain ⟨g1, g2, g3⟩ := this
    dsimp only
    omega
  · simp
theorem specAdapt_ev (a b : Int) (list want : List Int) (hl : list.length ≤ 2000000) (hw : want.length ≤ 2000000) : Ev (fun k => spec_Adapt.f k a b list want) (adR a b list want) := by
  have no : ¬ AdOk a b list want → Ev (fun k => spec_Adapt.j0 k a b list want true) (adR a b list want) := by
    intro h
    unfold adR
    rw [if_neg h, ev_shift]
    simp only [spec_Adapt.j0, if_true]
    exact Ev.now _
  unfold spec_Adapt.f
  rw [l1In_eq, ev_sbind]
  by_cases h1 : 1 ≤ a ∧ a ≤ 64
  · rw [decide_eq_true h1, ev_pos rfl, l1In_eq, ev_sbind]
    by_cases h2 : 0 ≤ b ∧ b ≤ 40
    · rw [decide_eq_true h2, ev_pos rfl]
      by_cases h3 : (list.length : Int) > 512
      · rw [ev_pos h3]
        exact no fun h => by obtain ⟨_, _, _, _, q, _⟩ := h; omega
      · rw [ev_neg h3]
        by_cases h4 : (list.length : Int) = (want.length : Int)
        · rw [ev_pos h4, ev_bind (l9Wide_ev list 32767 hl (by omega) (by omega))]
          by_cases h5 : inB 32767 list = true
          · rw [ev_pos h5, ev_bind (l9Wide_ev want 32767 hw (by omega) (by omega))]
            by_cases h6 : inB 32767 want = true
            · obtain ⟨t, rfl⟩ : ∃ t : Nat, a = (t : Int) := ⟨a.toNat, by omega⟩
              rw [h6, ev_shift]
              simp only [spec_Adapt.j0, Bool.not_true, Bool.false_eq_true, if_false]
              rw [ev_pos (by omega), Int.toNat_natCast, ev_pos (by omega)]
              unfold adR
              rw [if_pos ⟨h1.1, h1.2, h2.1, h2.2, by omega, by omega, h5, h6⟩, Int.toNat_natCast]
              exact specAdapt0_ev list want t b (by omega) (by omega) h2.1 h2.2 (by omega) (by omega)
            · have : inB 32767 want = false := by simpa using h6
              rw [this]
              exact no fun h => h6 h.2.2.2.2.2.2.2
          · rw [ev_neg h5]
            exact no fun h => h5 h.2.2.2.2.2.2.1
        · rw [ev_neg h4]
          exact no fun h => h4 (by have := h.2.2.2.2.2.1; omega)
    · rw [decide_eq_false h2, ev_neg (by simp)]
      exact no fun h => h2 ⟨h.2.2.1, h.2.2.2.1⟩
  · rw [decide_eq_false h1, ev_neg (by simp)]
    exact no fun h => h1 ⟨h.1, h.2.1⟩
theorem sig_of {l : List Int} (h : l.length ≤ 512) (k : inB 32767 l = true) : sigB l = true := by
  refine sigB_iff.2 ⟨h, inB_iff.2 fun x hx => ?_⟩
  have := inB_iff.1 k x hx
  omega
theorem implAdapt_ev (a b : Int) (list want : List Int) (hl : list.length ≤ 2000000) (hw : want.length ≤ 2000000) : Ev (fun k => impl_Adapt.f k a b list want) (adR a b list want) := by
  have no : ¬ AdOk a b list want → Ev (fun k => impl_Adapt.j0 k a b list want true) (adR a b list want) := by
    intro h
    unfold adR
    rw [if_neg h, ev_shift]
    simp only [impl_Adapt.j0, if_true]
    exact Ev.now _
  unfold impl_Adapt.f
  by_cases h1 : a < 1
  · rw [ev_pos h1]
    exact no fun h => by have := h.1; omega
  rw [ev_neg h1]
  by_cases h2 : a > 64
  · rw [ev_pos h2]
    exact no fun h => by have := h.2.1; omega
  rw [ev_neg h2]
  by_cases h3 : b < 0
  · rw [ev_pos h3]
    exact no fun h => by have := h.2.2.1; omega
  rw [ev_neg h3]
  by_cases h4 : b > 40
  · rw [ev_pos h4]
    exact no fun h => by have := h.2.2.2.1; omega
  rw [ev_neg h4, ev_bind (implSig_ev list hl)]
  by_cases h5 : sigB list = true
  · rw [ev_pos h5, ev_bind (implSig_ev want hw)]
    by_cases h6 : sigB want = true
    · rw [ev_pos h6]
      by_cases h7 : (list.length : Int) = (want.length : Int)
      · rw [ev_pos h7, ev_bind (within_ev list 32767 hl (by omega) (by omega))]
        by_cases h8 : inB 32767 list = true
        · rw [ev_pos h8, ev_bind (within_ev want 32767 hw (by omega) (by omega))]
          have h5' := (sigB_iff.1 h5).1
          by_cases h9 : inB 32767 want = true
          · obtain ⟨t, rfl⟩ : ∃ t : Nat, a = (t : Int) := ⟨a.toNat, by omega⟩
            rw [h9, ev_shift]
            simp only [impl_Adapt.j0, Bool.not_true, Bool.false_eq_true, if_false]
            rw [ev_pos (by omega), Int.toNat_natCast, ev_pos (by omega)]
            unfold adR
            rw [if_pos ⟨by omega, by omega, by omega, by omega, by omega, by omega, h8, h9⟩, Int.toNat_natCast]
            exact implAdapt0_ev list want t b (by omega) (by omega) (by omega) (by omega) (by omega) (by omega)
          · have : inB 32767 want = false := by simpa using h9
            rw [this]
            exact no fun h => h9 h.2.2.2.2.2.2.2
        · rw [ev_neg h8]
          exact no fun h => h8 h.2.2.2.2.2.2.1
      · rw [ev_neg h7]
        exact no fun h => h7 (by have := h.2.2.2.2.2.1; omega)
    · rw [ev_neg h6]
      exact no fun h => h6 (sig_of (by have := h.2.2.2.2.1; have := h.2.2.2.2.2.1; omega) h.2.2.2.2.2.2.2)
  · rw [ev_neg h5]
    exact no fun h => h5 (sig_of h.2.2.2.2.1 h.2.2.2.2.2.2.1)

theorem FnExactAdapt : laws_FnExactAdapt.Pure := by
  intro a0 a1 l2 l3 _ _ _ _ _ _ _ _
  refine Ev.rounds (g := fun k => laws_FnExactAdapt.f k a0 a1 l2 l3) ?_
  by_cases hl2 : (l2.length : Int) > 1048576
  · simp only [laws_FnExactAdapt.f, if_pos hl2]
    exact Ev.now _
  by_cases hl3 : (l3.length : Int) > 1048576
  · simp only [laws_FnExactAdapt.f, if_neg hl2, if_pos hl3]
    exact Ev.now _
  have hS := specAdapt_ev a0 a1 l2 l3 (by omega) (by omega)
  have hI := implAdapt_ev a0 a1 l2 l3 (by omega) (by omega)
  obtain ⟨hv1, hv2⟩ := adR_length a0 a1 l2 l3
  generalize adR a0 a1 l2 l3 = R at *
  obtain ⟨R1, R2, R3⟩ := R
  dsimp only at hv1 hv2
  simp only [laws_FnExactAdapt.f, if_neg hl2, if_neg hl3]
  have t_l2 := toIntS_ev l2 (by omega)
  have e_l2 := eqIntS_ev l2 l2 (by omega)
  have t_l3 := toIntS_ev l3 (by omega)
  have e_l3 := eqIntS_ev l3 l3 (by omega)
  have v_0 := eqIntS_ev (R1) (R1) (by omega)
  have v_1 := eqIntS_ev (R2) (R2) (by omega)
  have m_l2 := markIntS_ev l2 (1) (by omega) (by omega) (by omega)
  have m_l3 := markIntS_ev l3 (1 + (l2.length : Int)) (by omega) (by omega) (by omega)
  have n_0 := markIntS_ev (R1) (1) (by omega) (by omega) (by omega)
  have h_0 := heldIntS_ev (R1).length (1) (by omega) (by omega) (by omega)
  have n_1 := markIntS_ev (R2) (1 + ((R1).length : Int)) (by omega) (by omega) (by omega)
  have h_1 := heldIntS_ev (R2).length (1 + ((R1).length : Int)) (by omega) (by omega) (by omega)
  simp only [decide_true] at e_l2 e_l3 v_0 v_1
  repeat (first
    | exact Ev.now _
    | (rw [ev_bind t_l2])
    | (rw [ev_bind t_l3])
    | (rw [ev_bind e_l2])
    | (rw [ev_bind e_l3])
    | (rw [ev_bind v_0])
    | (rw [ev_bind v_1])
    | (rw [ev_bind m_l2])
    | (rw [ev_bind m_l3])
    | (rw [ev_bind n_0])
    | (rw [ev_bind n_1])
    | (rw [ev_bind h_0])
    | (rw [ev_bind h_1])
    | (rw [ev_bind hS])
    | (rw [ev_bind hI])
    | (simp only [if_true, if_false, bne_self_eq_false, Bool.false_eq_true]; done)
    | (rw [ev_neg (by omega)])
    | (rw [ev_pos rfl])
    | (simp only [if_true, if_false, bne_self_eq_false, Bool.false_eq_true])
    | (rw [ev_shift]; simp only [laws_FnExactAdapt.j0])
    | (rw [ev_shift]; simp only [laws_FnExactAdapt.j1])
    | (rw [ev_shift]; simp only [laws_FnExactAdapt.j2])
    | (rw [ev_shift]; simp only [laws_FnExactAdapt.j3]))

end Go.Proofs.Ytgincgknmchedaa.Pure
