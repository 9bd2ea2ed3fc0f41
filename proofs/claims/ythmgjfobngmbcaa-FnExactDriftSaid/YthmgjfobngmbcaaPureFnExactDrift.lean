/- The pure part of FnExactDrift: the program's Drift and the reference's Drift answer alike. No conditions. -/
import Derived.Test.YthmgjfobngmbcaaQFnExactDriftx4
import Derived.Test.YthmgjfobngmbcaaBase
namespace Go.Proofs.Ythmgjfobngmbcaa.Pure
open Go.RowKit Go.Proofs.Ythmgjfobngmbcaa.QFnExactDrift Go.Proofs.YthmgjfobngmbcaaW.PrintWords Go.Proofs.YthmgjfobngmbcaaW.PrintLast
open Go.Proofs.Ythmgjfobngmbcaa.Base
set_option linter.unusedVariables false
set_option linter.unusedSimpArgs false
/-! ### toIntS, eqIntS, markIntS, heldIntS -/
theorem toIntS_ev (l : List Int) (h : l.length ≤ 2000000) : Ev (fun k => laws_toIntS.f k l) l := by
  unfold laws_toIntS.f
  simp only [Int.toNat_natCast]
  rw [ev_pos (by omega), ev_pos (by omega)]
  rw [(for_iff (fun k s i => laws_toIntS.l0 k l s i) (fun i s => s.set i (rd l (i : Int))) (fun _ s => s.length = l.length) l.length l ?_ _ (by simp)).2]
  · rw [iter_store_all _ _ _ (by simp), tab_rd]
    exact Ev.step (fun k => by simp only [laws_toIntS.l0]; rw [if_neg (by omega)]) (Ev.now _)
  · intro i s hi hs
    refine ⟨by simpa using hs, ?_⟩
    rw [ev_shift]
    simp only [laws_toIntS.l0]
    rw [ev_pos (by omega), ev_pos (by omega), ev_pos (by omega), w64 (by omega) (by omega), Int.toNat_natCast]

theorem eqIntS_ev (a b : List Int) (h : a.length ≤ 2000000) : Ev (fun k => laws_eqIntS.f k a b) (decide (a = b)) := by
  unfold laws_eqIntS.f
  by_cases e : a.length = b.length
  · rw [ev_pos (by omega)]
    rw [all_iff (fun k i => laws_eqIntS.l0 k a b i) (fun i => decide (rd a (i : Int) = rd b (i : Int))) a.length _ false]
    · split
      · rename_i hp
        have : a = b := list_ext_rd e fun i hi => by simpa using range_all.1 hp i hi
        rw [decide_eq_true this]
        exact Ev.step (fun k => by simp only [laws_eqIntS.l0]; rw [if_neg (by omega)]) (Ev.now _)
      · rename_i hp
        have : ¬ a = b := fun h => hp (by subst h; rw [range_all]; simp)
        simp [this]
    · intro i hi
      by_cases p : rd a (i : Int) = rd b (i : Int)
      · rw [if_pos (by simpa using p)]
        rw [ev_shift]
        simp only [laws_eqIntS.l0]
        rw [ev_pos (by omega), ev_pos (by omega), ev_pos (by omega), ev_pos p, w64 (by omega) (by omega)]
      · rw [if_neg (by simpa using p)]
        rw [ev_shift]
        simp only [laws_eqIntS.l0]
        rw [ev_pos (by omega), ev_pos (by omega), ev_pos (by omega), ev_neg p, ev_some_iff]
  · rw [ev_neg (by omega)]
    have : ¬ a = b := fun h => e (by rw [h])
    simp only [this, decide_false]
    exact Ev.now _

theorem markIntS_ev (l : List Int) (m : Int) (h : l.length ≤ 2000000) (h0 : 0 ≤ m) (h1 : m ≤ 1000000000) :
    Ev (fun k => laws_markIntS.f k l m) (m + (l.length : Int), tab l.length (fun i => m + (i : Int))) := by
  unfold laws_markIntS.f
  rw [(for_iff (fun k (s : List Int × Int) i => laws_markIntS.l0 k s.1 s.2 i) (fun i s => (s.1.set i (m + (i : Int)), m + ((i : Int) + 1))) (fun i s => s.1.length = l.length ∧ s.2 = m + (i : Int)) l.length _ ?_ (l, m) ⟨rfl, by simp⟩).2]
  · have hI : ∀ n, n ≤ l.length → iter (fun (i : Nat) (s : List Int × Int) => (s.1.set i (m + (i : Int)), m + ((i : Int) + 1))) n (l, m) = (iter (fun i s => s.set i (m + (i : Int))) n l, m + (n : Int)) := by
      intro n
      induction n with
      | zero => intro _; simp [iter]
      | succ n ih => intro hn; rw [iter_succ, ih (by omega), iter_succ]; simp
    rw [hI _ (Nat.le_refl _), iter_store_all _ _ _ rfl]
    exact Ev.step (fun k => by simp only [laws_markIntS.l0]; rw [if_neg (by simp)]) (Ev.now _)
  · rintro i ⟨s, c⟩ hi ⟨hs, hc⟩
    simp only at hs hc
    subst hc
    refine ⟨⟨by simpa using hs, by simp⟩, ?_⟩
    rw [ev_shift]
    simp only [laws_markIntS.l0]
    rw [ev_pos (by omega), ev_pos (by omega), w64 (by omega) (by omega), w64 (by omega) (by omega), Int.toNat_natCast, Int.add_assoc]

theorem heldIntS_ev (n : Nat) (m : Int) (h : n ≤ 2000000) (h0 : 0 ≤ m) (h1 : m ≤ 1000000000) :
    Ev (fun k => laws_heldIntS.f k (tab n (fun i => m + (i : Int))) m) (m + (n : Int)) := by
  unfold laws_heldIntS.f
  rw [(for_iff (fun k (c : Int) i => laws_heldIntS.l0 k (tab n (fun i => m + (i : Int))) c i) (fun i c => m + ((i : Int) + 1)) (fun i c => c = m + (i : Int)) n _ ?_ m (by simp)).2]
  · have hI : iter (fun (i : Nat) (c : Int) => m + ((i : Int) + 1)) n m = m + (n : Int) := by
      cases n with
      | zero => simp [iter]
      | succ n => rw [iter_succ]; simp
    rw [hI]
    exact Ev.step (fun k => by simp only [laws_heldIntS.l0]; rw [if_neg (by simp)]) (Ev.now _)
  · intro i c hi hc
    refine ⟨by simp, ?_⟩
    rw [ev_shift]
    simp only [laws_heldIntS.l0, tab_length]
    rw [ev_pos (by omega), ev_pos (by omega), rd_tab' hi, ev_pos hc.symm, hc, w64 (by omega) (by omega), w64 (by omega) (by omega), Int.add_assoc]

theorem within_ev (l : List Int) (m : Int) (hl : l.length ≤ 2000000) (h0 : 0 ≤ m) (h1 : m ≤ 1000000000000) : Ev (fun k => impl_within.f k l m) (inB m l) := by
  unfold impl_within.f
  rw [inB_range]
  rw [all_iff (fun k i => impl_within.l0 k m l (l.length : Int) i) (fun i => decide (-m ≤ rd l (i : Int)) && decide (rd l (i : Int) ≤ m)) l.length _ false]
  · split
    · rename_i hp
      rw [hp]
      exact Ev.step (fun k => by simp only [impl_within.l0]; rw [if_neg (by omega)]) (Ev.now _)
    · rename_i hp
      simpa using hp
  · intro i hi
    by_cases p : -m ≤ rd l (i : Int) ∧ rd l (i : Int) ≤ m
    · rw [if_pos (by simpa using p)]
      rw [ev_shift]
      simp only [impl_within.l0]
      rw [ev_pos (by omega), ev_pos (by omega), ev_pos (by omega), w64 (n := -m) (by omega) (by omega), ev_neg (by omega), ev_neg (by omega), w64 (by omega) (by omega)]
    · rw [if_neg (by simpa using p)]
      rw [ev_shift]
      simp only [impl_within.l0]
      rw [ev_pos (by omega), ev_pos (by omega), ev_pos (by omega), w64 (n := -m) (by omega) (by omega)]
      by_cases q : rd l (i : Int) < -m
      · rw [ev_pos q, ev_some_iff]
      · rw [ev_neg q, ev_pos (by omega), ev_some_iff]

theorem implSig_ev (l : List Int) (hl : l.length ≤ 2000000) : Ev (fun k => impl_SignalOk.f k l) (sigB l) := by
  unfold impl_SignalOk.f
  by_cases h : (l.length : Int) ≤ 512
  · rw [ev_pos h]
    rw [ev_bind (within_ev l 1000000000 hl (by omega) (by omega)), ev_some_iff, sigB, decide_eq_true (by omega : l.length ≤ 512), Bool.true_and]
  · rw [ev_neg h]
    rw [ev_some_iff, sigB, decide_eq_false (by omega : ¬ l.length ≤ 512), Bool.false_and]

theorem l1In_eq (a b c : Int) : spec_l1In.f a b c = some (decide (b ≤ a ∧ a ≤ c)) := by
  unfold spec_l1In.f
  by_cases h : a ≥ b
  · rw [if_pos h]
    congr 1
    rw [decide_eq_decide]
    omega
  · rw [if_neg h]
    congr 1
    symm
    rw [decide_eq_false_iff_not]
    omega

theorem l5Sample_eq (a : Int) : spec_l5Sample.f a = some (decide (-1000000000 ≤ a ∧ a ≤ 1000000000)) := by
  unfold spec_l5Sample.f
  rw [l1In_eq]
  rfl
theorem specSig_ev (l : List Int) (hl : l.length ≤ 2000000) : Ev (fun k => spec_SignalOk.f k l) (sigB l) := by
  unfold spec_SignalOk.f
  rw [sigB, inB_range]
  rw [all_iff (fun k i => spec_SignalOk.l0 k l i) (fun i => decide (-1000000000 ≤ rd l (i : Int)) && decide (rd l (i : Int) ≤ 1000000000)) l.length _ false]
  · split
    · rename_i hp
      rw [hp, Bool.and_true]
      exact Ev.step (f := fun _ => some (decide (l.length ≤ 512))) (fun k => by simp only [spec_SignalOk.l0]; rw [if_neg (by omega)]; congr 1; rw [decide_eq_decide]; omega) (Ev.now _)
    · rename_i hp
      simp only [Bool.not_eq_true] at hp
      rw [hp, Bool.and_false]
  · intro i hi
    by_cases p : -1000000000 ≤ rd l (i : Int) ∧ rd l (i : Int) ≤ 1000000000
    · rw [if_pos (by simpa using p)]
      rw [ev_shift]
      simp only [spec_SignalOk.l0]
      rw [ev_pos (by omega), ev_pos (by omega), l5Sample_eq]
      simp only [Option.bind_some]
      rw [ev_pos (by simpa using p), w64 (by omega) (by omega)]
    · rw [if_neg (by simpa using p)]
      rw [ev_shift]
      simp only [spec_SignalOk.l0]
      rw [ev_pos (by omega), ev_pos (by omega), l5Sample_eq]
      simp only [Option.bind_some]
      rw [ev_neg (by simpa using p), ev_some_iff]


theorem floor_eq (a b : Int) (hb : 0 < b) (h0 : -4611686018427387904 ≤ a / b) (h1 : a / b ≤ 4611686018427387904) : spec_l5Floor.f a b = some (a / b) := by
  unfold spec_l5Floor.f
  rw [if_neg (by omega)]
  have e1 := Int.tdiv_eq_ediv (a := a) (b := b)
  have e2 := Int.tmod_eq_emod (a := a) (b := b)
  have h2 := Int.emod_nonneg a (by omega : b ≠ 0)
  have h3 := Int.emod_lt_of_pos a hb
  by_cases c : 0 ≤ a ∨ b ∣ a
  · rw [if_pos c] at e1 e2
    rw [e1, e2, if_neg (by omega), w64 (by omega) (by omega), Int.add_zero]
  · rw [if_neg c] at e1 e2
    have s : b.sign = 1 := Int.sign_eq_one_of_pos hb
    have n : (b.natAbs : Int) = b := by omega
    rw [e1, e2, if_pos (by omega), s, w64 (n := a / b + 1) (by omega) (by omega), w64 (by omega) (by omega), Int.add_sub_cancel]

theorem mul_abs {x y M N : Int} (hx : -M ≤ x ∧ x ≤ M) (hy : -N ≤ y ∧ y ≤ N) : -(M * N) ≤ x * y ∧ x * y ≤ M * N := by
  have a : x.natAbs ≤ M.toNat := by omega
  have b : y.natAbs ≤ N.toNat := by omega
  have c := Nat.mul_le_mul a b
  rw [← Int.natAbs_mul] at c
  have d : ((M.toNat * N.toNat : Nat) : Int) = M * N := by rw [Int.natCast_mul, Int.toNat_of_nonneg (by omega), Int.toNat_of_nonneg (by omega)]
  omega
theorem div_bounds {a d : Int} (hd : 0 < d) (h0 : -4000000000000000000 ≤ a) (h1 : a ≤ 4000000000000000000) : -4000000000000000000 ≤ a / d ∧ a / d ≤ 4000000000000000000 := by
  have e1 : -4000000000000000000 ≤ a / d := (Int.le_ediv_iff_mul_le hd).2 (by omega)
  have e2 : a / d < 4000000000000000001 := (Int.ediv_lt_iff_lt_mul hd).2 (by omega)
  omega
theorem down_eq (a d : Int) (hd : 0 < d) (hd1 : d ≤ 4000000000000000000) (h0 : -4000000000000000000 ≤ a) (h1 : a ≤ 4000000000000000000) : impl_down.f a d = some (a / d, a % d) := by
  unfold impl_down.f
  rw [if_neg (by omega)]
  have b := div_bounds hd h0 h1
  have e1 := Int.tdiv_eq_ediv (a := a) (b := d)
  have e2 := Int.tmod_eq_emod (a := a) (b := d)
  have h2 := Int.emod_nonneg a (by omega : d ≠ 0)
  have h3 := Int.emod_lt_of_pos a hd
  by_cases c : 0 ≤ a ∨ d ∣ a
  · rw [if_pos c] at e1 e2
    have e3 : a.tmod d = a % d := by omega
    have e4 : a.tdiv d = a / d := by omega
    rw [e3, e4, if_neg (by omega), w64 (by omega) (by omega)]
  · rw [if_neg c] at e1 e2
    have s : d.sign = 1 := Int.sign_eq_one_of_pos hd
    have n : (d.natAbs : Int) = d := by omega
    rw [e1, e2, if_pos (by omega), s, n, w64 (n := a / d + 1) (by omega) (by omega), w64 (by omega) (by omega), Int.add_sub_cancel, Int.sub_add_cancel, w64 (by omega) (by omega)]
def rdv (x d : Int) : Int := if x % d ≥ d - x % d then x / d + 1 else x / d
theorem big18_eq (a : Int) : impl_big18.f a = some (decide (-4000000000000000000 ≤ a ∧ a ≤ 4000000000000000000)) := by
  unfold impl_big18.f
  by_cases h : a ≥ -4000000000000000000
  · rw [if_pos h]
    congr 1
    rw [decide_eq_decide]
    omega
  · rw [if_neg h]
    congr 1
    symm
    rw [decide_eq_false_iff_not]
    omega
theorem implRd_ev (x d : Int) (hd : 0 < d) (hd1 : d ≤ 1000000) (h0 : -3000000000000000000 ≤ x) (h1 : x ≤ 3000000000000000000) : Ev (fun k => impl_RoundDiv.f k x d) (rdv x d) := by
  have b := div_bounds hd (by omega) (by omega : x ≤ 4000000000000000000)
  have h2 := Int.emod_nonneg x (by omega : d ≠ 0)
  have h3 := Int.emod_lt_of_pos x hd
  unfold impl_RoundDiv.f rdv
  rw [ev_neg (by omega), ev_neg (by omega), big18_eq, ev_sbind, decide_eq_true (by omega), ev_shift]
  simp only [impl_RoundDiv.j0, Bool.not_true, Bool.false_eq_true, if_false]
  rw [down_eq x d hd (by omega) (by omega) (by omega), ev_sbind]
  dsimp only
  rw [w64 (n := d - x % d) (by omega) (by omega)]
  by_cases c : x % d ≥ d - x % d
  · rw [ev_pos c, if_pos c, w64 (by omega) (by omega)]
    exact Ev.now _
  · rw [ev_neg c, if_neg c]
    exact Ev.now _
theorem rem_eq {x d : Int} (hd : 0 < d) (hd1 : d ≤ 1000000) (h0 : -3000000000000000000 ≤ x) (h1 : x ≤ 3000000000000000000) : wrap64 (x - wrap64 (x / d * d)) = x % d := by
  have e := Int.mul_ediv_add_emod x d
  rw [Int.mul_comm] at e
  have h2 := Int.emod_nonneg x (by omega : d ≠ 0)
  have h3 := Int.emod_lt_of_pos x hd
  rw [w64 (n := x / d * d) (by omega) (by omega), w64 (by omega) (by omega)]
  omega
theorem specRd_ev (x d : Int) (hd : 0 < d) (hd1 : d ≤ 1000000) (h0 : -3000000000000000000 ≤ x) (h1 : x ≤ 3000000000000000000) : Ev (fun k => spec_RoundDiv.f k x d) (rdv x d) := by
  have b := div_bounds hd (by omega) (by omega : x ≤ 4000000000000000000)
  have h2 := Int.emod_nonneg x (by omega : d ≠ 0)
  have h3 := Int.emod_lt_of_pos x hd
  unfold spec_RoundDiv.f rdv
  rw [l1In_eq, ev_sbind, decide_eq_true (by omega), ev_pos rfl, l1In_eq, ev_sbind, decide_eq_true (by omega), ev_shift]
  simp only [spec_RoundDiv.j0, Bool.not_true, Bool.false_eq_true, if_false]
  rw [floor_eq x d hd (by omega) (by omega), ev_sbind, rem_eq hd hd1 h0 h1, w64 (n := d - x % d) (by omega) (by omega)]
  by_cases c : x % d ≥ d - x % d
  · rw [ev_pos c, if_pos c, w64 (by omega) (by omega)]
    exact Ev.now _
  · rw [ev_neg c, if_neg c]
    exact Ev.now _
def gt0 (l : List Int) (i : Int) : Int := if 0 ≤ i ∧ i < (l.length : Int) then rd l i else 0
def bw (l : List Int) (t d : Int) : Int := if t % d = 0 then gt0 l (t / d) else rdv (gt0 l (t / d) * (d - t % d) + gt0 l (t / d + 1) * (t % d)) d
theorem gt0_b {l : List Int} (h : sigB l = true) (i : Int) : -1000000000 ≤ gt0 l i ∧ gt0 l i ≤ 1000000000 := by
  unfold gt0
  split
  · exact inB_rd (sigB_iff.1 h).2 (by omega) i
  · omega
theorem get_eq {l : List Int} {i : Int} (h : i < (l.length : Int)) : impl_between.get l i = some (gt0 l i) := by
  unfold impl_between.get gt0
  by_cases c : i < 0
  · rw [if_pos c, if_neg (by omega)]
  · rw [if_neg c, if_pos h, if_pos ⟨by omega, h⟩]
theorem mix_b {l : List Int} (h : sigB l = true) (t d : Int) (hd : 0 < d) (hd1 : d ≤ 1000000) : -1000000000000000 ≤ gt0 l (t / d) * (d - t % d) ∧ gt0 l (t / d) * (d - t % d) ≤ 1000000000000000 ∧ -1000000000000000 ≤ gt0 l (t / d + 1) * (t % d) ∧ gt0 l (t / d + 1) * (t % d) ≤ 1000000000000000 := by
  have h2 := Int.emod_nonneg t (by omega : d ≠ 0)
  have h3 := Int.emod_lt_of_pos t hd
  have a := mul_abs (N := 1000000) (gt0_b h (t / d)) (by omega : -1000000 ≤ d - t % d ∧ d - t % d ≤ 1000000)
  have b := mul_abs (N := 1000000) (gt0_b h (t / d + 1)) (by omega : -1000000 ≤ t % d ∧ t % d ≤ 1000000)
  omega
theorem place {t d n : Int} (hd : 0 < d) (ht : t ≤ d * (n - 1)) : t / d < n ∧ (t % d ≠ 0 → t / d + 1 < n) := by
  have e := Int.mul_ediv_add_emod t d
  have h2 := Int.emod_nonneg t (by omega : d ≠ 0)
  have h3 : t / d ≤ n - 1 := by
    have : t / d < n := (Int.ediv_lt_iff_lt_mul hd).2 (by rw [Int.mul_comm]; have : d * (n - 1) = d * n - d := by rw [Int.mul_sub, Int.mul_one]
                                                          omega)
    omega
  refine ⟨by omega, fun h => ?_⟩
  rcases Int.lt_or_le (t / d + 1) n with c | c
  · exact c
  · exfalso
    have : t / d = n - 1 := by omega
    rw [this] at e
    omega
theorem between_ev (l : List Int) (t d : Int) (h : sigB l = true) (hd : 0 < d) (hd1 : d ≤ 1000000) (h0 : -2000000000 ≤ t) (h1 : t ≤ 2000000000) (ht : t ≤ d * ((l.length : Int) - 1)) : Ev (fun k => impl_between.f k l t d) (bw l t d) := by
  obtain ⟨p1, p2⟩ := place hd ht
  have h2 := Int.emod_nonneg t (by omega : d ≠ 0)
  have h3 := Int.emod_lt_of_pos t hd
  have b := div_bounds hd (by omega : -4000000000000000000 ≤ t) (by omega)
  have hl := (sigB_iff.1 h).1
  unfold impl_between.f bw
  rw [down_eq t d hd (by omega) (by omega) (by omega), ev_sbind]
  dsimp only
  rw [get_eq p1]
  by_cases c : t % d = 0
  · rw [ev_pos c, if_pos c]
    exact Ev.now _
  · have m := mix_b h t d hd hd1
    have e1 : wrap64 (t / d + 1) = t / d + 1 := w64 (by omega) (by omega)
    rw [ev_neg c, if_neg c, ev_sbind, e1, get_eq (p2 c), ev_sbind, w64 (n := d - t % d) (by omega) (by omega), w64 (n := gt0 l (t / d) * (d - t % d)) (by omega) (by omega), w64 (n := gt0 l (t / d + 1) * (t % d)) (by omega) (by omega), w64 (by omega) (by omega)]
    exact implRd_ev _ d hd hd1 (by omega) (by omega)
theorem l11At0_ev (l : List Int) (t d : Int) (h : sigB l = true) (hd : 0 < d) (hd1 : d ≤ 1000000) (h0 : -2000000000 ≤ t) (h1 : t ≤ 2000000000) : Ev (fun k => spec_l11At.j0 k l d (t / d) (t % d) (gt0 l (t / d)) 0) (bw l t d) := by
  have h2 := Int.emod_nonneg t (by omega : d ≠ 0)
  have h3 := Int.emod_lt_of_pos t hd
  have b := div_bounds hd (by omega : -4000000000000000000 ≤ t) (by omega)
  have hl := (sigB_iff.1 h).1
  have m := mix_b h t d hd hd1
  have e1 : wrap64 (t / d + 1) = t / d + 1 := w64 (by omega) (by omega)
  unfold bw
  rw [ev_shift]
  simp only [spec_l11At.j0]
  rw [e1, w64 (n := (l.length : Int) - 1) (by omega) (by omega), l1In_eq, ev_sbind]
  by_cases q : 0 ≤ t / d + 1 ∧ t / d + 1 ≤ (l.length : Int) - 1
  · have e2 : rd l (t / d + 1) = gt0 l (t / d + 1) := by unfold gt0; rw [if_pos (by omega)]
    rw [decide_eq_true q, ev_pos rfl, ev_pos (by omega), ev_pos (by omega), e2]
    by_cases c : t % d = 0
    · rw [ev_pos c, if_pos c]
      exact Ev.now _
    · rw [ev_neg c, if_neg c, w64 (n := d - t % d) (by omega) (by omega), w64 (n := gt0 l (t / d) * (d - t % d)) (by omega) (by omega), w64 (n := gt0 l (t / d + 1) * (t % d)) (by omega) (by omega), w64 (by omega) (by omega), ev_bind (specRd_ev _ d hd hd1 (by omega) (by omega))]
      exact Ev.now _
  · have e2 : gt0 l (t / d + 1) = 0 := by unfold gt0; rw [if_neg (by omega)]
    rw [decide_eq_false q, ev_neg (by simp), e2] at *
    by_cases c : t % d = 0
    · rw [ev_pos c, if_pos c]
      exact Ev.now _
    · rw [ev_neg c, if_neg c, Int.zero_mul, wrap_zero, Int.add_zero, Int.add_zero, w64 (n := d - t % d) (by omega) (by omega), w64 (n := gt0 l (t / d) * (d - t % d)) (by omega) (by omega), w64 (by omega) (by omega), ev_bind (specRd_ev _ d hd hd1 (by omega) (by omega))]
      exact Ev.now _
theorem l11At_ev (l : List Int) (t d : Int) (h : sigB l = true) (hd : 0 < d) (hd1 : d ≤ 1000000) (h0 : -2000000000 ≤ t) (h1 : t ≤ 2000000000) : Ev (fun k => spec_l11At.f k l t d) (bw l t d) := by
  have b := div_bounds hd (by omega : -4000000000000000000 ≤ t) (by omega)
  have hl := (sigB_iff.1 h).1
  have g := l11At0_ev l t d h hd hd1 h0 h1
  unfold spec_l11At.f
  rw [floor_eq t d hd (by omega) (by omega), ev_sbind, w64 (n := (l.length : Int) - 1) (by omega) (by omega), l1In_eq, ev_sbind, rem_eq hd hd1 (by omega) (by omega)]
  by_cases q : 0 ≤ t / d ∧ t / d ≤ (l.length : Int) - 1
  · have e2 : rd l (t / d) = gt0 l (t / d) := by unfold gt0; rw [if_pos (by omega)]
    rw [decide_eq_true q, ev_pos rfl, ev_pos (by omega), ev_pos (by omega), e2]
    exact g
  · have e2 : gt0 l (t / d) = 0 := by unfold gt0; rw [if_neg (by omega)]
    rw [e2] at g
    rw [decide_eq_false q, ev_neg (by simp)]
    exact g

theorem drift_loop (l : List Int) (n d : Int) (hs : sigB l = true) (h1 : 1 ≤ n) (h2 : n ≤ 1000000) (h3 : 1 ≤ d) (h4 : d ≤ 1000000) : ∀ (m : Nat) (s : List Int) (t : Int), 512 - s.length ≤ m → s.length ≤ 512 → 0 ≤ t → t ≤ 600000000 →
    ∃ R : List Int × Bool, Ev (fun k => spec_Drift.l0 k l n d s t) R ∧ Ev (fun k => impl_Drift.l0 k l n d s t) R ∧ R.1.length ≤ 2000000 := by
  have hl := (sigB_iff.1 hs).1
  have hP : d * ((l.length : Int) - 1) ≤ 512000000 ∧ -1000000 ≤ d * ((l.length : Int) - 1) := by
    have e : d * ((l.length : Int) - 1) = d * (l.length : Int) - d := by rw [Int.mul_sub, Int.mul_one]
    have a : 0 ≤ d * (l.length : Int) := Int.mul_nonneg (by omega) (by omega)
    have b : d * (l.length : Int) ≤ 1000000 * 512 := Int.mul_le_mul h4 (by omega) (by omega) (by omega)
    omega
  have eP : wrap64 (d * wrap64 ((l.length : Int) - 1)) = d * ((l.length : Int) - 1) := by rw [w64 (n := (l.length : Int) - 1) (by omega) (by omega), w64 (by omega) (by omega)]
  intro m
  induction m with
  | zero =>
    intro s t hd hsl ht0 ht1
    by_cases c : t ≤ d * ((l.length : Int) - 1)
    · refine ⟨([], false), ?_, ?_, by simp⟩
      · rw [ev_shift]
        simp only [spec_Drift.l0]
        rw [eP, ev_pos c, ev_pos (by omega)]
        exact Ev.now _
      · rw [ev_shift]
        simp only [impl_Drift.l0]
        rw [eP, ev_pos c, ev_pos (by omega)]
        exact Ev.now _
    · refine ⟨(s, true), ?_, ?_, by show s.length ≤ 2000000; omega⟩
      · rw [ev_shift]
        simp only [spec_Drift.l0]
        rw [eP, ev_neg c]
        exact Ev.now _
      · rw [ev_shift]
        simp only [impl_Drift.l0]
        rw [eP, ev_neg c]
        exact Ev.now _
  | succ m ih =>
    intro s t hd hsl ht0 ht1
    by_cases c : t ≤ d * ((l.length : Int) - 1)
    · by_cases q : (s.length : Int) = 512
      · refine ⟨([], false), ?_, ?_, by simp⟩
        · rw [ev_shift]
          simp only [spec_Drift.l0]
          rw [eP, ev_pos c, ev_pos q]
          exact Ev.now _
        · rw [ev_shift]
          simp only [impl_Drift.l0]
          rw [eP, ev_pos c, ev_pos q]
          exact Ev.now _
      · obtain ⟨R, r1, r2, r3⟩ := ih (s ++ [bw l t d]) (t + n) (by simp; omega) (by simp; omega) (by omega) (by omega)
        refine ⟨R, ?_, ?_, r3⟩
        · rw [ev_shift]
          simp only [spec_Drift.l0]
          rw [eP, ev_pos c, ev_neg q, ev_bind (l11At_ev l t d hs (by omega) h4 (by omega) (by omega)), ev_pos (by omega), w64 (n := t + n) (by omega) (by omega)]
          exact r1
        · rw [ev_shift]
          simp only [impl_Drift.l0]
          rw [eP, ev_pos c, ev_neg q, ev_bind (between_ev l t d hs (by omega) h4 (by omega) (by omega) c), ev_pos (by omega), w64 (n := t + n) (by omega) (by omega)]
          exact r2
    · refine ⟨(s, true), ?_, ?_, by show s.length ≤ 2000000; omega⟩
      · rw [ev_shift]
        simp only [spec_Drift.l0]
        rw [eP, ev_neg c]
        exact Ev.now _
      · rw [ev_shift]
        simp only [impl_Drift.l0]
        rw [eP, ev_neg c]
        exact Ev.now _
theorem drift_both (l : List Int) (n d st : Int) (hl : l.length ≤ 2000000) : ∃ R : List Int × Bool, Ev (fun k => spec_Drift.f k l n d st) R ∧ Ev (fun k => impl_Drift.f k l n d st) R ∧ R.1.length ≤ 2000000 := by
  have n1 : Ev (fun k => spec_Drift.j0 k l n d st [] true) ([], false) := by
    rw [ev_shift]
    simp only [spec_Drift.j0, if_true]
    exact Ev.now _
  have n2 : Ev (fun k => impl_Drift.j0 k l n d st true) ([], false) := by
    rw [ev_shift]
    simp only [impl_Drift.j0, if_true]
    exact Ev.now _
  by_cases h1 : sigB l = true
  · by_cases h2 : 1 ≤ n ∧ n ≤ 1000000
    · by_cases h3 : 1 ≤ d ∧ d ≤ 1000000
      · by_cases h4 : 0 ≤ st ∧ st ≤ d - 1
        · obtain ⟨R, r1, r2, r3⟩ := drift_loop l n d h1 h2.1 h2.2 h3.1 h3.2 512 [] st (by simp) (by simp) h4.1 (by omega)
          refine ⟨R, ?_, ?_, r3⟩
          · unfold spec_Drift.f
            rw [ev_sbind, ev_bind (specSig_ev l hl), ev_pos h1, l1In_eq, ev_sbind, decide_eq_true h2, ev_pos rfl, l1In_eq, ev_sbind, decide_eq_true h3, ev_pos rfl, w64 (n := d - 1) (by omega) (by omega), l1In_eq, ev_sbind, decide_eq_true h4, ev_shift]
            simp only [spec_Drift.j0, Bool.not_true, Bool.false_eq_true, if_false]
            exact r1
          · unfold impl_Drift.f
            rw [ev_bind (implSig_ev l hl), ev_pos h1, ev_neg (by omega), ev_neg (by omega), ev_neg (by omega), ev_neg (by omega), ev_neg (by omega), decide_eq_false (by omega), ev_shift]
            simp only [impl_Drift.j0, Bool.false_eq_true, if_false]
            exact r2
        · refine ⟨([], false), ?_, ?_, by simp⟩
          · unfold spec_Drift.f
            rw [ev_sbind, ev_bind (specSig_ev l hl), ev_pos h1, l1In_eq, ev_sbind, decide_eq_true h2, ev_pos rfl, l1In_eq, ev_sbind, decide_eq_true h3, ev_pos rfl, w64 (n := d - 1) (by omega) (by omega), l1In_eq, ev_sbind, decide_eq_false h4]
            exact n1
          · unfold impl_Drift.f
            rw [ev_bind (implSig_ev l hl), ev_pos h1, ev_neg (by omega), ev_neg (by omega), ev_neg (by omega), ev_neg (by omega)]
            by_cases c : st < 0
            · rw [ev_pos c]
              exact n2
            · rw [ev_neg c, decide_eq_true (by omega)]
              exact n2
      · refine ⟨([], false), ?_, ?_, by simp⟩
        · unfold spec_Drift.f
          rw [ev_sbind, ev_bind (specSig_ev l hl), ev_pos h1, l1In_eq, ev_sbind, decide_eq_true h2, ev_pos rfl, l1In_eq, ev_sbind, decide_eq_false h3, ev_neg (by simp)]
          exact n1
        · unfold impl_Drift.f
          rw [ev_bind (implSig_ev l hl), ev_pos h1, ev_neg (by omega), ev_neg (by omega)]
          by_cases c : d < 1
          · rw [ev_pos c]
            exact n2
          · rw [ev_neg c, ev_pos (by omega)]
            exact n2
    · refine ⟨([], false), ?_, ?_, by simp⟩
      · unfold spec_Drift.f
        rw [ev_sbind, ev_bind (specSig_ev l hl), ev_pos h1, l1In_eq, ev_sbind, decide_eq_false h2, ev_neg (by simp)]
        exact n1
      · unfold impl_Drift.f
        rw [ev_bind (implSig_ev l hl), ev_pos h1]
        by_cases c : n < 1
        · rw [ev_pos c]
          exact n2
        · rw [ev_neg c, ev_pos (by omega)]
          exact n2
  · refine ⟨([], false), ?_, ?_, by simp⟩
    · unfold spec_Drift.f
      rw [ev_sbind, ev_bind (specSig_ev l hl), ev_neg h1]
      exact n1
    · unfold impl_Drift.f
      rw [ev_bind (implSig_ev l hl), ev_neg h1]
      exact n2
theorem FnExactDrift : laws_FnExactDrift.Pure := by
  intro l0 a1 a2 a3 _ _ _ _ _ _
  refine Ev.rounds (g := fun k => laws_FnExactDrift.f k l0 a1 a2 a3) ?_
  by_cases hl0 : (l0.length : Int) > 1048576
  · simp only [laws_FnExactDrift.f, if_pos hl0]
    exact Ev.now _
  obtain ⟨R, hS, hI, hv⟩ := drift_both l0 a1 a2 a3 (by omega)
  simp only [laws_FnExactDrift.f, if_neg hl0]
  have t_l0 := toIntS_ev l0 (by omega)
  have e_l0 := eqIntS_ev l0 l0 (by omega)
  have v_0 := eqIntS_ev (R.1) (R.1) (by omega)
  have m_l0 := markIntS_ev l0 (1) (by omega) (by omega) (by omega)
  have n_0 := markIntS_ev (R.1) (1) (by omega) (by omega) (by omega)
  have h_0 := heldIntS_ev (R.1).length (1) (by omega) (by omega) (by omega)
  simp only [decide_true] at e_l0 v_0
  repeat (first
    | exact Ev.now _
    | (rw [ev_bind t_l0])
    | (rw [ev_bind e_l0])
    | (rw [ev_bind v_0])
    | (rw [ev_bind m_l0])
    | (rw [ev_bind n_0])
    | (rw [ev_bind h_0])
    | (rw [ev_bind hS])
    | (rw [ev_bind hI])
    | (simp only [if_true, if_false, bne_self_eq_false, Bool.false_eq_true]; done)
    | (rw [ev_neg (by omega)])
    | (rw [ev_pos rfl])
    | (simp only [if_true, if_false, bne_self_eq_false, Bool.false_eq_true])
    | (rw [ev_shift]; simp only [laws_FnExactDrift.j0])
    | (rw [ev_shift]; simp only [laws_FnExactDrift.j1])
    | (rw [ev_shift]; simp only [laws_FnExactDrift.j2])
    | (rw [ev_shift]; simp only [laws_FnExactDrift.j3]))

end Go.Proofs.Ythmgjfobngmbcaa.Pure
