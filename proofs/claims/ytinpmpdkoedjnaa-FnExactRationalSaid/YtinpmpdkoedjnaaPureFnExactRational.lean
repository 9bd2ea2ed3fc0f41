/- The pure part of FnExactRational: the program's Rational and the reference's Rational answer alike. No conditions. -/
import Derived.Test.YtinpmpdkoedjnaaQFnExactRationalx5
import Derived.Test.YtinpmpdkoedjnaaBase
namespace Go.Proofs.Ytinpmpdkoedjnaa.Pure
open Go.RowKit Go.Proofs.Ytinpmpdkoedjnaa.QFnExactRational Go.Proofs.YtinpmpdkoedjnaaW.PrintWords Go.Proofs.YtinpmpdkoedjnaaW.PrintLast
open Go.Proofs.Ytinpmpdkoedjnaa.Base
set_option linter.unusedVariables false
set_option linter.unusedSimpArgs false
/-! ### toIntS, eqIntS, markIntS, heldIntS -/
theorem toIntS_ev (l : List Int) (h : l.length ≤ 2000000) : Ev (fun k => laws_toIntS.f k l) l := by
  unfold laws_toIntS.f
  simp only [Int.toNat_natCast]
  rw [ev_pos (by omega), ev_pos (by omega)]
  rw [(for_iff (fun k s i => laws_toIntS.l0 k l s i) (fun i s => s.set i (rd l (i : Int))) (fun _ s => s.length = l.length) l.length l ?_ _ (by simp)).2]
  · rw [iter_store_all _ _ _ (by simp), tab_rd]
    exact Ev.step (fun k => by simp only [laws_toIntS.l0]; rw [if_neg (by omega)]) (Ev.now _)
  · intro i s hi hs
    refine ⟨by simpa using hs, ?_⟩
    rw [ev_shift]
    simp only [laws_toIntS.l0]
    rw [ev_pos (by omega), ev_pos (by omega), ev_pos (by omega), w64 (by omega) (by omega), Int.toNat_natCast]

theorem eqIntS_ev (a b : List Int) (h : a.length ≤ 2000000) : Ev (fun k => laws_eqIntS.f k a b) (decide (a = b)) := by
  unfold laws_eqIntS.f
  by_cases e : a.length = b.length
  · rw [ev_pos (by omega)]
    rw [all_iff (fun k i => laws_eqIntS.l0 k a b i) (fun i => decide (rd a (i : Int) = rd b (i : Int))) a.length _ false]
    · split
      · rename_i hp
        have : a = b := list_ext_rd e fun i hi => by simpa using range_all.1 hp i hi
        rw [decide_eq_true this]
        exact Ev.step (fun k => by simp only [laws_eqIntS.l0]; rw [if_neg (by omega)]) (Ev.now _)
      · rename_i hp
        have : ¬ a = b := fun h => hp (by subst h; rw [range_all]; simp)
        simp [this]
    · intro i hi
      by_cases p : rd a (i : Int) = rd b (i : Int)
      · rw [if_pos (by simpa using p)]
        rw [ev_shift]
        simp only [laws_eqIntS.l0]
        rw [ev_pos (by omega), ev_pos (by omega), ev_pos (by omega), ev_pos p, w64 (by omega) (by omega)]
      · rw [if_neg (by simpa using p)]
        rw [ev_shift]
        simp only [laws_eqIntS.l0]
        rw [ev_pos (by omega), ev_pos (by omega), ev_pos (by omega), ev_neg p, ev_some_iff]
  · rw [ev_neg (by omega)]
    have : ¬ a = b := fun h => e (by rw [h])
    simp only [this, decide_false]
    exact Ev.now _

theorem markIntS_ev (l : List Int) (m : Int) (h : l.length ≤ 2000000) (h0 : 0 ≤ m) (h1 : m ≤ 1000000000) :
    Ev (fun k => laws_markIntS.f k l m) (m + (l.length : Int), tab l.length (fun i => m + (i : Int))) := by
  unfold laws_markIntS.f
  rw [(for_iff (fun k (s : List Int × Int) i => laws_markIntS.l0 k s.1 s.2 i) (fun i s => (s.1.set i (m + (i : Int)), m + ((i : Int) + 1))) (fun i s => s.1.length = l.length ∧ s.2 = m + (i : Int)) l.length _ ?_ (l, m) ⟨rfl, by simp⟩).2]
  · have hI : ∀ n, n ≤ l.length → iter (fun (i : Nat) (s : List Int × Int) => (s.1.set i (m + (i : Int)), m + ((i : Int) + 1))) n (l, m) = (iter (fun i s => s.set i (m + (i : Int))) n l, m + (n : Int)) := by
      intro n
      induction n with
      | zero => intro _; simp [iter]
      | succ n ih => intro hn; rw [iter_succ, ih (by omega), iter_succ]; simp
    rw [hI _ (Nat.le_refl _), iter_store_all _ _ _ rfl]
    exact Ev.step (fun k => by simp only [laws_markIntS.l0]; rw [if_neg (by simp)]) (Ev.now _)
  · rintro i ⟨s, c⟩ hi ⟨hs, hc⟩
    simp only at hs hc
    subst hc
    refine ⟨⟨by simpa using hs, by simp⟩, ?_⟩
    rw [ev_shift]
    simp only [laws_markIntS.l0]
    rw [ev_pos (by omega), ev_pos (by omega), w64 (by omega) (by omega), w64 (by omega) (by omega), Int.toNat_natCast, Int.add_assoc]

theorem heldIntS_ev (n : Nat) (m : Int) (h : n ≤ 2000000) (h0 : 0 ≤ m) (h1 : m ≤ 1000000000) :
    Ev (fun k => laws_heldIntS.f k (tab n (fun i => m + (i : Int))) m) (m + (n : Int)) := by
  unfold laws_heldIntS.f
  rw [(for_iff (fun k (c : Int) i => laws_heldIntS.l0 k (tab n (fun i => m + (i : Int))) c i) (fun i c => m + ((i : Int) + 1)) (fun i c => c = m + (i : Int)) n _ ?_ m (by simp)).2]
  · have hI : iter (fun (i : Nat) (c : Int) => m + ((i : Int) + 1)) n m = m + (n : Int) := by
      cases n with
      | zero => simp [iter]
      | succ n => rw [iter_succ]; simp
    rw [hI]
    exact Ev.step (fun k => by simp only [laws_heldIntS.l0]; rw [if_neg (by simp)]) (Ev.now _)
  · intro i c hi hc
    refine ⟨by simp, ?_⟩
    rw [ev_shift]
    simp only [laws_heldIntS.l0, tab_length]
    rw [ev_pos (by omega), ev_pos (by omega), rd_tab' hi, ev_pos hc.symm, hc, w64 (by omega) (by omega), w64 (by omega) (by omega), Int.add_assoc]

theorem l1In_eq (a b c : Int) : spec_l1In.f a b c = some (decide (b ≤ a ∧ a ≤ c)) := by
  unfold spec_l1In.f
  by_cases h : a ≥ b
  · rw [if_pos h]
    congr 1
    rw [decide_eq_decide]
    omega
  · rw [if_neg h]
    congr 1
    symm
    rw [decide_eq_false_iff_not]
    omega

theorem l9Wide_ev (l : List Int) (m : Int) (hl : l.length ≤ 2000000) (h0 : 0 ≤ m) (h1 : m ≤ 1000000000000) : Ev (fun k => spec_l9Wide.f k l m) (inB m l) := by
  unfold spec_l9Wide.f
  rw [inB_range]
  rw [all_iff (fun k i => spec_l9Wide.l0 k l m i) (fun i => decide (-m ≤ rd l (i : Int)) && decide (rd l (i : Int) ≤ m)) l.length _ false]
  · split
    · rename_i hp
      rw [hp]
      exact Ev.step (fun k => by simp only [spec_l9Wide.l0]; rw [if_neg (by omega)]) (Ev.now _)
    · rename_i hp
      simpa using hp
  · intro i hi
    by_cases p : -m ≤ rd l (i : Int) ∧ rd l (i : Int) ≤ m
    · rw [if_pos (by simpa using p)]
      rw [ev_shift]
      simp only [spec_l9Wide.l0]
      rw [ev_pos (by omega), ev_pos (by omega), w64 (n := -m) (by omega) (by omega), l1In_eq]
      simp only [Option.bind_some]
      rw [ev_pos (by simpa using p), w64 (by omega) (by omega)]
    · rw [if_neg (by simpa using p)]
      rw [ev_shift]
      simp only [spec_l9Wide.l0]
      rw [ev_pos (by omega), ev_pos (by omega), w64 (n := -m) (by omega) (by omega), l1In_eq]
      simp only [Option.bind_some]
      rw [ev_neg (by simpa using p), ev_some_iff]

theorem l10Taps_ev (l : List Int) (hl : l.length ≤ 2000000) : Ev (fun k => spec_l10Taps.f k l) (decide (1 ≤ l.length ∧ l.length ≤ 64) && inB 1000000 l) := by
  unfold spec_l10Taps.f
  simp only [l1In_eq, Option.bind_some]
  by_cases h1 : 1 ≤ (l.length : Int) ∧ (l.length : Int) ≤ 64
  · rw [ev_pos (by simpa using h1), ev_bind (l9Wide_ev l 1000000 hl (by omega) (by omega)), ev_some_iff, decide_eq_true (by omega), Bool.true_and]
  · rw [ev_neg (by simpa using h1), ev_some_iff, decide_eq_false (by omega), Bool.false_and]

theorem clone_eq (l : List Int) (h : l.length ≤ 2000000) : slices_Clone_int_int.f l = some l := by
  unfold slices_Clone_int_int.f
  simp only [Option.bind_some, List.nil_append, List.length_nil]
  rw [if_pos (by omega)]

theorem within_ev (l : List Int) (m : Int) (hl : l.length ≤ 2000000) (h0 : 0 ≤ m) (h1 : m ≤ 1000000000000) : Ev (fun k => impl_within.f k l m) (inB m l) := by
  unfold impl_within.f
  rw [inB_range]
  rw [all_iff (fun k i => impl_within.l0 k m l (l.length : Int) i) (fun i => decide (-m ≤ rd l (i : Int)) && decide (rd l (i : Int) ≤ m)) l.length _ false]
  · split
    · rename_i hp
      rw [hp]
      exact Ev.step (fun k => by simp only [impl_within.l0]; rw [if_neg (by omega)]) (Ev.now _)
    · rename_i hp
      simpa using hp
  · intro i hi
    by_cases p : -m ≤ rd l (i : Int) ∧ rd l (i : Int) ≤ m
    · rw [if_pos (by simpa using p)]
      rw [ev_shift]
      simp only [impl_within.l0]
      rw [ev_pos (by omega), ev_pos (by omega), ev_pos (by omega), w64 (n := -m) (by omega) (by omega), ev_neg (by omega), ev_neg (by omega), w64 (by omega) (by omega)]
    · rw [if_neg (by simpa using p)]
      rw [ev_shift]
      simp only [impl_within.l0]
      rw [ev_pos (by omega), ev_pos (by omega), ev_pos (by omega), w64 (n := -m) (by omega) (by omega)]
      by_cases q : rd l (i : Int) < -m
      · rw [ev_pos q, ev_some_iff]
      · rw [ev_neg q, ev_pos (by omega), ev_some_iff]

def tokB (l : List Int) : Bool := decide (1 ≤ l.length ∧ l.length ≤ 64) && inB 1000000 l
theorem tokB_iff {l : List Int} : tokB l = true ↔ 1 ≤ l.length ∧ l.length ≤ 64 ∧ inB 1000000 l = true := by simp [tokB, and_assoc]
theorem tapsOk_ev (l : List Int) (hl : l.length ≤ 2000000) : Ev (fun k => impl_tapsOk.f k l) (tokB l) := by
  unfold impl_tapsOk.f tokB
  by_cases h1 : (l.length : Int) ≥ 1
  · rw [ev_pos h1]
    by_cases h2 : (l.length : Int) ≤ 64
    · rw [ev_pos h2, ev_bind (within_ev l 1000000 hl (by omega) (by omega)), ev_some_iff, decide_eq_true (by omega), Bool.true_and]
    · rw [ev_neg h2, ev_some_iff, decide_eq_false (by omega), Bool.false_and]
  · rw [ev_neg h1, ev_some_iff, decide_eq_false (by omega), Bool.false_and]

/-! ### Fir -/
def firStep (t l : List Int) (i : Nat) (s : List Int × List Int) : List Int × List Int :=
  (s.1 ++ [wrap64 (dotS t (rd l (i : Int) :: s.2) t.length)], (rd l (i : Int) :: s.2).take s.2.length)
def firV (t st l : List Int) : List Int × List Int := iter (firStep t l) l.length ([], st)
theorem firV_length (t st l : List Int) : (firV t st l).1.length = l.length ∧ (firV t st l).2.length = st.length := by
  unfold firV
  refine iter_inv (fun i (s : List Int × List Int) => s.1.length = i ∧ s.2.length = st.length) l.length _ ⟨rfl, rfl⟩ fun i s _ hs => ?_
  simp only [firStep, List.length_append, List.length_cons, List.length_nil, List.length_take]
  omega
theorem rd_cons_succ (x : Int) (l : List Int) (k : Nat) : rd (x :: l) ((k : Int) + 1) = rd l (k : Int) := by
  have : ((k : Int) + 1).toNat = k + 1 := by omega
  unfold rd
  rw [this, Int.toNat_natCast]
  rfl
theorem rd_cons_zero (x : Int) (l : List Int) : rd (x :: l) 0 = x := rfl
theorem wrap_fold (a b c : Int) (h : a = wrap64 b) : wrap64 (a + wrap64 c) = wrap64 (b + c) := by rw [h, wrap_add_l, wrap_add_r]
theorem implFirV_ev (t st l : List Int) (hl : l.length ≤ 2000000) (ht : t.length = st.length + 1) (hst : st.length ≤ 2000000) : Ev (fun k => impl_fir.f k t st l) (firV t st l) := by
  unfold impl_fir.f
  rw [clone_eq st hst]
  simp only [Option.bind_some]
  have h := for_iff (fun k (s : List Int × List Int) i => impl_fir.l0 k t s.2 s.1 l (l.length : Int) i) (firStep t l) (fun i s => s.1.length = i ∧ s.2.length = st.length) l.length (firV t st l) ?_ ([], st) ⟨rfl, rfl⟩
  · rw [h.2, ev_shift]
    simp only [impl_fir.l0]
    rw [ev_neg (by omega)]
    exact Ev.now _
  · rintro i ⟨out, past⟩ hi ⟨h1, h2⟩
    simp only at h1 h2
    refine ⟨by simp only [firStep, List.length_append, List.length_cons, List.length_nil, List.length_take]; omega, ?_⟩
    rw [ev_shift]
    simp only [impl_fir.l0]
    rw [ev_pos (by omega), ev_pos (by omega), ev_pos (by omega), ev_pos (by omega)]
    have g := for_iff (fun k c j => impl_fir.l1 k t past out (rd l (i : Int)) c l (l.length : Int) (i : Int) past (past.length : Int) j) (fun j _ => wrap64 (dotS t (rd l (i : Int) :: past) (j + 1 + 1))) (fun j c => c = wrap64 (dotS t (rd l (i : Int) :: past) (j + 1))) past.length (firV t st l) ?_ (wrap64 (rd t 0 * rd l (i : Int))) ?_
    · rw [g.2, g.1, ev_shift]
      simp only [impl_fir.l1, Option.bind_some]
      rw [ev_neg (by omega), ev_pos (by omega), ev_pos (by simp; omega), ev_pos (by omega), ev_pos (by simp; omega), w64 (n := (i : Int) + 1) (by omega) (by omega)]
      simp only [firStep, Int.toNat_natCast, List.singleton_append]
      have e : past.length + 1 = t.length := by omega
      rw [e]
    · intro j c hj hc
      refine ⟨rfl, ?_⟩
      rw [ev_shift]
      simp only [impl_fir.l1]
      rw [w64 (n := 1 + (j : Int)) (by omega) (by omega), ev_pos (by omega), ev_pos (by omega), ev_pos (by omega), ev_pos (by omega), ev_pos (by omega), w64 (n := (j : Int) + 1) (by omega) (by omega)]
      rw [wrap_fold _ _ _ hc]
      have e : dotS t (rd l (i : Int) :: past) (j + 1 + 1) = dotS t (rd l (i : Int) :: past) (j + 1) + rd t (1 + (j : Int)) * rd past (j : Int) := by
        rw [dotS]
        have e1 : ((j + 1 : Nat) : Int) = (j : Int) + 1 := by omega
        rw [e1, rd_cons_succ, Int.add_comm (j : Int) 1]
      rw [e]
    · have e : dotS t (rd l (i : Int) :: past) (0 + 1) = rd t 0 * rd l (i : Int) := by
        show 0 + rd t ((0 : Nat) : Int) * rd (rd l (i : Int) :: past) ((0 : Nat) : Int) = _
        rw [Int.zero_add]
        rfl
      rw [e]

/-! ### the convolution's numbers -/
def convAt (t l : List Int) (i : Nat) : Nat → Int
  | 0 => 0
  | n + 1 => convAt t l i n + rd t (n : Int) * (if n ≤ i then rd l ((i - n : Nat) : Int) else 0)
theorem convAt_succ (t l : List Int) (i n : Nat) : convAt t l i (n + 1) = convAt t l i n + rd t (n : Int) * (if n ≤ i then rd l ((i - n : Nat) : Int) else 0) := rfl

theorem rd_take {l : List Int} {m j : Nat} (h : j < m) : rd (l.take m) (j : Int) = rd l (j : Int) := by
  unfold rd
  rw [Int.toNat_natCast, List.getD_eq_getElem?_getD, List.getD_eq_getElem?_getD, List.getElem?_take_of_lt h]
theorem dot_conv (t l past : List Int) (i n : Nat) (hp : ∀ j, j + 1 < n → rd past (j : Int) = if j < i then rd l ((i - 1 - j : Nat) : Int) else 0) :
    ∀ m, m ≤ n → dotS t (rd l (i : Int) :: past) m = convAt t l i m := by
  intro m
  induction m with
  | zero => intro _; rfl
  | succ m ih =>
    intro hm
    rw [dotS, convAt_succ, ih (by omega)]
    congr 2
    cases m with
    | zero => simp [rd]
    | succ j =>
      have e1 : ((j + 1 : Nat) : Int) = (j : Int) + 1 := by omega
      rw [e1, rd_cons_succ, hp j (by omega)]
      by_cases c : j < i
      · rw [if_pos c, if_pos (by omega)]
        have e2 : i - 1 - j = i - (j + 1) := by omega
        rw [e2]
      · rw [if_neg c, if_neg (by omega)]
theorem firV_zero (t l : List Int) (n : Nat) (ht : t.length = n + 1) : (firV t (List.replicate n 0) l).1 = tab l.length fun i => wrap64 (convAt t l i t.length) := by
  unfold firV
  refine (iter_inv (fun i (s : List Int × List Int) => s.1 = tab i (fun i => wrap64 (convAt t l i t.length)) ∧ s.2.length = n ∧ ∀ j, j < n → rd s.2 (j : Int) = if j < i then rd l ((i - 1 - j : Nat) : Int) else 0) l.length _ ⟨rfl, by simp, fun j _ => by rw [rd_replicate]; simp⟩ ?_).1
  rintro i ⟨out, past⟩ hi ⟨h1, h2, h3⟩
  simp only at h1 h2 h3
  refine ⟨?_, ?_, ?_⟩
  · simp only [firStep]
    rw [h1, tab_succ, dot_conv t l past i t.length (fun j hj => h3 j (by omega)) t.length (Nat.le_refl _)]
  · simp only [firStep, List.length_take, List.length_cons]
    omega
  · intro j hj
    simp only [firStep]
    rw [h2, rd_take hj]
    cases j with
    | zero => simp [rd]
    | succ j =>
      have e1 : ((j + 1 : Nat) : Int) = (j : Int) + 1 := by omega
      rw [e1, rd_cons_succ, h3 j (by omega)]
      by_cases c : j < i
      · rw [if_pos c, if_pos (by omega)]
        have e2 : i - 1 - j = i + 1 - 1 - (j + 1) := by omega
        rw [e2]
      · rw [if_neg c, if_neg (by omega)]


theorem l5Sample_eq (a : Int) : spec_l5Sample.f a = some (decide (-1000000000 ≤ a ∧ a ≤ 1000000000)) := by
  unfold spec_l5Sample.f
  rw [l1In_eq]
  rfl
theorem specSig_ev (l : List Int) (hl : l.length ≤ 2000000) : Ev (fun k => spec_SignalOk.f k l) (sigB l) := by
  unfold spec_SignalOk.f
  rw [sigB, inB_range]
  rw [all_iff (fun k i => spec_SignalOk.l0 k l i) (fun i => decide (-1000000000 ≤ rd l (i : Int)) && decide (rd l (i : Int) ≤ 1000000000)) l.length _ false]
  · split
    · rename_i hp
      rw [hp, Bool.and_true]
      exact Ev.step (f := fun _ => some (decide (l.length ≤ 512))) (fun k => by simp only [spec_SignalOk.l0]; rw [if_neg (by omega)]; congr 1; rw [decide_eq_decide]; omega) (Ev.now _)
    · rename_i hp
      simp only [Bool.not_eq_true] at hp
      rw [hp, Bool.and_false]
  · intro i hi
    by_cases p : -1000000000 ≤ rd l (i : Int) ∧ rd l (i : Int) ≤ 1000000000
    · rw [if_pos (by simpa using p)]
      rw [ev_shift]
      simp only [spec_SignalOk.l0]
      rw [ev_pos (by omega), ev_pos (by omega), l5Sample_eq]
      simp only [Option.bind_some]
      rw [ev_pos (by simpa using p), w64 (by omega) (by omega)]
    · rw [if_neg (by simpa using p)]
      rw [ev_shift]
      simp only [spec_SignalOk.l0]
      rw [ev_pos (by omega), ev_pos (by omega), l5Sample_eq]
      simp only [Option.bind_some]
      rw [ev_neg (by simpa using p), ev_some_iff]


theorem implSig_ev (l : List Int) (hl : l.length ≤ 2000000) : Ev (fun k => impl_SignalOk.f k l) (sigB l) := by
  unfold impl_SignalOk.f
  by_cases h : (l.length : Int) ≤ 512
  · rw [ev_pos h]
    rw [ev_bind (within_ev l 1000000000 hl (by omega) (by omega)), ev_some_iff, sigB, decide_eq_true (by omega : l.length ≤ 512), Bool.true_and]
  · rw [ev_neg h]
    rw [ev_some_iff, sigB, decide_eq_false (by omega : ¬ l.length ≤ 512), Bool.false_and]

/-! ### Up: noughts laid between -/
def upV (l : List Int) (b : Nat) : List Int := iter (fun i s => s ++ (rd l (i : Int) :: List.replicate b 0)) l.length []
theorem upV_length (l : List Int) (b : Nat) : (upV l b).length = l.length * (b + 1) := by
  unfold upV
  refine iter_inv (fun i (s : List Int) => s.length = i * (b + 1)) l.length [] (by simp) fun i s _ hs => ?_
  simp only [List.length_append, List.length_cons, List.length_replicate, hs, Nat.add_mul]
  omega
theorem specUpV_ev (l : List Int) (b : Nat) (hl : l.length ≤ 512) (hb : b < 16) : Ev (fun k => spec_l11Up.f k l ((b : Int) + 1)) (upV l b) := by
  unfold spec_l11Up.f
  rw [(for_iff (fun k s i => spec_l11Up.l0 k l ((b : Int) + 1) s i) (fun i s => s ++ (rd l (i : Int) :: List.replicate b 0)) (fun i s => s.length ≤ i * 16) l.length _ ?_ [] (by simp)).2]
  · rw [ev_shift]
    simp only [spec_l11Up.l0]
    rw [ev_neg (by omega)]
    exact Ev.now _
  · intro i s hi hs
    refine ⟨by simp only [List.length_append, List.length_cons, List.length_replicate]; omega, ?_⟩
    rw [ev_shift]
    simp only [spec_l11Up.l0]
    rw [ev_pos (by omega), ev_pos (by omega), ev_pos (by omega)]
    have h := (for_at (fun k s j => spec_l11Up.l1 k l ((b : Int) + 1) s (i : Int) j) (fun _ s => s ++ [0]) (fun j s => s.length ≤ i * 16 + 1 + j) 1 b (upV l b) ?_ (s ++ [rd l (i : Int)]) (by simp; omega)).2
    · rw [h, ev_shift]
      simp only [spec_l11Up.l1]
      rw [ev_neg (by omega), w64 (by omega) (by omega), iter_push]
      have e : tab b (fun _ => 0) = List.replicate b 0 := by
        unfold tab
        rw [List.map_const']
        simp
      rw [e, List.append_assoc, List.singleton_append]
    · intro j t hj ht
      refine ⟨by simp; omega, ?_⟩
      rw [ev_shift]
      simp only [spec_l11Up.l1]
      rw [ev_pos (by omega), ev_pos (by omega), w64 (by omega) (by omega)]
theorem implUpV_ev (l : List Int) (b : Nat) (hl : l.length ≤ 512) (hb : b < 16) : Ev (fun k => impl_up.f k l ((b : Int) + 1)) (upV l b) := by
  unfold impl_up.f
  rw [(for_iff (fun k s i => impl_up.l0 k ((b : Int) + 1) s l (l.length : Int) i) (fun i s => s ++ (rd l (i : Int) :: List.replicate b 0)) (fun i s => s.length ≤ i * 16) l.length _ ?_ [] (by simp)).2]
  · rw [ev_shift]
    simp only [impl_up.l0]
    rw [ev_neg (by omega)]
    exact Ev.now _
  · intro i s hi hs
    refine ⟨by simp only [List.length_append, List.length_cons, List.length_replicate]; omega, ?_⟩
    rw [ev_shift]
    simp only [impl_up.l0]
    rw [ev_pos (by omega), ev_pos (by omega), ev_pos (by omega), ev_pos (by omega)]
    simp only [Option.bind_some]
    rw [w64 (n := (b : Int) + 1 - 1) (by omega) (by omega), ev_pos (by omega), ev_pos (by simp; omega), w64 (by omega) (by omega)]
    have e : ((b : Int) + 1 - 1).toNat = b := by omega
    rw [e, List.append_assoc, List.singleton_append]
theorem isRateU_eq (a : Int) : impl_isRate.f a = some (decide (1 ≤ a ∧ a ≤ 16)) := by
  unfold impl_isRate.f
  by_cases h : a ≥ 1
  · rw [if_pos h]
    congr 1
    rw [decide_eq_decide]
    omega
  · rw [if_neg h]
    congr 1
    symm
    rw [decide_eq_false_iff_not]
    omega
theorem l11ByU_eq (a : Int) : spec_l11By.f a = some (decide (1 ≤ a ∧ a ≤ 16)) := by
  unfold spec_l11By.f
  rw [l1In_eq]
  rfl

theorem implThin_ev (l : List Int) (c ph : Nat) (hl : l.length ≤ 2000000) (hc : 0 < c) (hc1 : c ≤ 2000000) (hp : ph ≤ 2000000) :
    Ev (fun k => impl_thin.f k l (c : Int) (ph : Int)) (thinV l c ph) := by
  unfold impl_thin.f
  exact thin_loop (fun k s i => impl_thin.l0 k l (c : Int) s i) (fun s => s) l c ph (fun _ _ _ => rfl) hl hc hc1 hp
theorem isRate_eq (a : Int) : impl_isRate.f a = some (decide (1 ≤ a ∧ a ≤ 16)) := by
  unfold impl_isRate.f
  by_cases h : a ≥ 1
  · rw [if_pos h]
    congr 1
    rw [decide_eq_decide]
    omega
  · rw [if_neg h]
    congr 1
    symm
    rw [decide_eq_false_iff_not]
    omega

theorem tok_of (l : List Int) : tokB l = (decide (1 ≤ l.length ∧ l.length ≤ 64) && inB 1000000 l) := rfl
def ratV (l t : List Int) (b d : Nat) : List Int := thinV (tab (upV l b).length fun i => wrap64 (convAt t (upV l b) i t.length)) d 0
open Classical in
noncomputable def ratR (l t : List Int) (u d : Int) : List Int × Bool :=
  if sigB l = true ∧ inB 1000000 l = true ∧ tokB t = true ∧ 1 ≤ u ∧ u ≤ 16 ∧ 1 ≤ d ∧ d ≤ 16 then (ratV l t (u - 1).toNat d.toNat, true) else ([], false)
theorem up_small (l : List Int) (b : Nat) (hl : l.length ≤ 512) (hb : b < 16) : (upV l b).length ≤ 8192 := by
  rw [upV_length]
  exact Nat.le_trans (Nat.mul_le_mul hl (by omega : b + 1 ≤ 16)) (by omega)
theorem ratR_length (l t : List Int) (u d : Int) : (ratR l t u d).1.length ≤ 2000000 := by
  unfold ratR
  split
  · rename_i h
    have hl := (sigB_iff.1 h.1).1
    have h1 := up_small l (u - 1).toNat hl (by omega)
    have h2 := thinV_length (tab (upV l (u - 1).toNat).length fun i => wrap64 (convAt t (upV l (u - 1).toNat) i t.length)) d.toNat 0 (by omega)
    rw [tab_length] at h2
    show (ratV l t (u - 1).toNat d.toNat).length ≤ _
    unfold ratV
    omega
  · simp
theorem implRat_ev (l t : List Int) (u d : Int) (hl : l.length ≤ 2000000) (ht : t.length ≤ 2000000) : Ev (fun k => impl_Rational.f k l t u d) (ratR l t u d) := by
  unfold impl_Rational.f
  have no : ¬ (sigB l = true ∧ inB 1000000 l = true ∧ tokB t = true ∧ 1 ≤ u ∧ u ≤ 16 ∧ 1 ≤ d ∧ d ≤ 16) → Ev (fun k => impl_Rational.j0 k l t u d true) (ratR l t u d) := by
    intro h
    rw [ev_shift, ratR, if_neg h]
    simp only [impl_Rational.j0, if_true]
    exact Ev.now _
  simp only [isRateU_eq, Option.bind_some]
  rw [ev_bind (implSig_ev l hl)]
  by_cases h1 : sigB l = true
  · rw [ev_pos h1, ev_bind (within_ev l 1000000 hl (by omega) (by omega))]
    by_cases h2 : inB 1000000 l = true
    · rw [ev_pos h2, ev_bind (tapsOk_ev t ht)]
      by_cases h3 : tokB t = true
      · rw [ev_pos h3]
        by_cases h4 : 1 ≤ u ∧ u ≤ 16
        · rw [ev_pos (by simpa using h4)]
          by_cases h5 : 1 ≤ d ∧ d ≤ 16
          · obtain ⟨t1, t2, _⟩ := tokB_iff.1 h3
            have hl5 := (sigB_iff.1 h1).1
            rw [decide_eq_true h5, ev_shift, ratR, if_pos ⟨h1, h2, h3, h4.1, h4.2, h5.1, h5.2⟩]
            simp only [impl_Rational.j0, Bool.not_true, Bool.false_eq_true, if_false]
            rw [w64 (by omega) (by omega), ev_pos (by omega), ev_pos (by omega)]
            have hu := implUpV_ev l (u - 1).toNat hl5 (by omega)
            rw [Int.toNat_of_nonneg (by omega), Int.sub_add_cancel] at hu
            have e : ((t.length : Int) - 1).toNat = t.length - 1 := by omega
            have hs := up_small l (u - 1).toNat hl5 (by omega)
            rw [ev_bind hu, e, ev_bind (implFirV_ev t (List.replicate (t.length - 1) 0) (upV l (u - 1).toNat) (by omega) (by rw [List.length_replicate]; omega) (by rw [List.length_replicate]; omega))]
            rw [firV_zero t _ (t.length - 1) (by omega)]
            have hd := implThin_ev (tab (upV l (u - 1).toNat).length fun i => wrap64 (convAt t (upV l (u - 1).toNat) i t.length)) d.toNat 0 (by rw [tab_length]; omega) (by omega) (by omega) (by omega)
            rw [Int.toNat_of_nonneg (by omega)] at hd
            simp only [Int.ofNat_zero] at hd
            rw [ev_bind hd]
            exact Ev.now _
          · rw [decide_eq_false h5]
            exact no (by omega)
        · rw [ev_neg (by simpa using h4)]
          exact no (by omega)
      · rw [ev_neg h3]
        exact no (fun h => h3 h.2.2.1)
    · rw [ev_neg h2]
      exact no (fun h => h2 h.2.1)
  · rw [ev_neg h1]
    exact no (fun h => h1 h.1)
theorem convAt_stop (t l : List Int) (i n : Nat) (h : i < n) : convAt t l i n = convAt t l i (i + 1) := by
  induction n with
  | zero => omega
  | succ n ih =>
    by_cases c : i = n
    · subst c
      rfl
    · rw [convAt_succ, ih (by omega), if_neg (by omega), Int.mul_zero, Int.add_zero]
theorem specRat0_ev (t a : List Int) (d : Nat) (ht : t.length ≤ 64) (ha : a.length ≤ 10000) (hd : 0 < d) (hd1 : d ≤ 16) :
    Ev (fun k => spec_Rational.l0 k t (d : Int) [] a 0) (thinV (tab a.length fun i => wrap64 (convAt t a i t.length)) d 0, true) := by
  have hpos := (for_pos (fun k s i => spec_Rational.l0 k t (d : Int) s a i) (fun i => (i : Int) * (d : Int)) (fun i s => s ++ [wrap64 (convAt t a (i * d) t.length)]) (fun i s => s.length = i) ((a.length - 0 + d - 1) / d) (thinV (tab a.length fun i => wrap64 (convAt t a i t.length)) d 0, true) ?_ [] rfl).2
  · simp only [Int.ofNat_zero, Int.zero_mul] at hpos
    rw [hpos, iter_push, List.nil_append, ev_shift]
    simp only [spec_Rational.l0]
    have hn : ¬ (a.length - 0 + d - 1) / d < (a.length - 0 + d - 1) / d := Nat.lt_irrefl _
    rw [steps_lt hd] at hn
    have hq' : (((a.length - 0 + d - 1) / d * d : Nat) : Int) = (((a.length - 0 + d - 1) / d : Nat) : Int) * (d : Int) := by simp
    rw [ev_neg (by omega), ev_some_iff, thinV, tab_length]
    congr 1
    refine tab_congr fun i hi => ?_
    have h2 := (steps_lt hd).1 hi
    have h1 : ((0 : Nat) : Int) + (i : Int) * (d : Int) = ((i * d : Nat) : Int) := by simp
    rw [h1, rd_tab' (by omega)]
  · intro i s hi hs
    have h2 := (steps_lt hd).1 hi
    have h1 : (i : Int) * (d : Int) = ((i * d : Nat) : Int) := by simp
    have h3 : i * 1 ≤ i * d := Nat.mul_le_mul_left _ hd
    have h4 : ((i + 1 : Nat) : Int) * (d : Int) = (i : Int) * (d : Int) + (d : Int) := by rw [Int.natCast_add, Int.add_mul]; simp
    refine ⟨by simp [hs], ?_⟩
    rw [ev_shift]
    simp only [spec_Rational.l0]
    rw [h4, h1, ev_pos (by omega)]
    have g := for_iff (fun k c j => spec_Rational.l1 k t (d : Int) s a ((i * d : Nat) : Int) c j) (fun j _ => wrap64 (convAt t a (i * d) (j + 1))) (fun j c => c = wrap64 (convAt t a (i * d) j)) (min t.length (i * d + 1)) (thinV (tab a.length fun i => wrap64 (convAt t a i t.length)) d 0, true) ?_ 0 (by simp [convAt, wrap_zero])
    · rw [g.2, g.1, ev_shift]
      simp only [spec_Rational.l1]
      have e : convAt t a (i * d) (min t.length (i * d + 1)) = convAt t a (i * d) t.length := by
        by_cases c : t.length ≤ i * d + 1
        · rw [Nat.min_eq_left c]
        · rw [Nat.min_eq_right (by omega), convAt_stop t a (i * d) t.length (by omega)]
      rw [e, w64 (n := ((i * d : Nat) : Int) + (d : Int)) (by omega) (by omega)]
      by_cases c : ((min t.length (i * d + 1) : Nat) : Int) < (t.length : Int)
      · rw [ev_pos c, ev_neg (by omega), ev_pos (by omega)]
      · rw [ev_neg c, ev_pos (by omega)]
    · intro j c hj hc
      subst hc
      refine ⟨rfl, ?_⟩
      rw [ev_shift]
      simp only [spec_Rational.l1]
      have e3 : ((i * d : Nat) : Int) - (j : Int) = ((i * d - j : Nat) : Int) := by omega
      rw [ev_pos (by omega), ev_pos (by omega), ev_pos (by omega), w64 (n := ((i * d : Nat) : Int) - (j : Int)) (by omega) (by omega), e3, ev_pos (by omega), ev_pos (by omega), w64 (n := (j : Int) + 1) (by omega) (by omega), wrap_add_l, wrap_add_r, convAt_succ, if_pos (by omega)]
theorem specRat_ev (l t : List Int) (u d : Int) (hl : l.length ≤ 2000000) (ht : t.length ≤ 2000000) : Ev (fun k => spec_Rational.f k l t u d) (ratR l t u d) := by
  unfold spec_Rational.f
  simp only [Option.bind_some]
  have no : ¬ (sigB l = true ∧ inB 1000000 l = true ∧ tokB t = true ∧ 1 ≤ u ∧ u ≤ 16 ∧ 1 ≤ d ∧ d ≤ 16) → Ev (fun k => spec_Rational.j0 k l t u d [] true) (ratR l t u d) := by
    intro h
    rw [ev_shift, ratR, if_neg h]
    simp only [spec_Rational.j0, if_true]
    exact Ev.now _
  simp only [l11ByU_eq, Option.bind_some]
  rw [ev_bind (specSig_ev l hl)]
  by_cases h1 : sigB l = true
  · rw [ev_pos h1, ev_bind (l9Wide_ev l 1000000 hl (by omega) (by omega))]
    by_cases h2 : inB 1000000 l = true
    · rw [ev_pos h2, ev_bind (l10Taps_ev t ht), ← tok_of]
      by_cases h3 : tokB t = true
      · rw [ev_pos h3]
        by_cases h4 : 1 ≤ u ∧ u ≤ 16
        · rw [ev_pos (by simpa using h4)]
          by_cases h5 : 1 ≤ d ∧ d ≤ 16
          · obtain ⟨t1, t2, _⟩ := tokB_iff.1 h3
            have hl5 := (sigB_iff.1 h1).1
            rw [decide_eq_true h5, ev_shift, ratR, if_pos ⟨h1, h2, h3, h4.1, h4.2, h5.1, h5.2⟩]
            simp only [spec_Rational.j0, Bool.not_true, Bool.false_eq_true, if_false]
            have hu := specUpV_ev l (u - 1).toNat hl5 (by omega)
            rw [Int.toNat_of_nonneg (by omega), Int.sub_add_cancel] at hu
            have hs := up_small l (u - 1).toNat hl5 (by omega)
            rw [ev_bind hu]
            have g := specRat0_ev t (upV l (u - 1).toNat) d.toNat t2 (by omega) (by omega) (by omega)
            rw [Int.toNat_of_nonneg (by omega)] at g
            exact g
          · rw [decide_eq_false h5]
            exact no (by omega)
        · rw [ev_neg (by simpa using h4)]
          exact no (by omega)
      · rw [ev_neg h3]
        exact no (fun h => h3 h.2.2.1)
    · rw [ev_neg h2]
      exact no (fun h => h2 h.2.1)
  · rw [ev_neg h1]
    exact no (fun h => h1 h.1)

theorem FnExactRational : laws_FnExactRational.Pure := by
  intro l0 l1 a2 a3 _ _ wl0 _ _ wl1 wa2 wa3
  refine Ev.rounds (g := fun k => laws_FnExactRational.f k l0 l1 a2 a3) ?_
  by_cases hl0 : (l0.length : Int) > 1048576
  · simp only [laws_FnExactRational.f, if_pos hl0]
    exact Ev.now _
  by_cases hl1 : (l1.length : Int) > 1048576
  · simp only [laws_FnExactRational.f, if_neg hl0, if_pos hl1]
    exact Ev.now _
  have hS := specRat_ev l0 l1 a2 a3 (by omega) (by omega)
  have hI := implRat_ev l0 l1 a2 a3 (by omega) (by omega)
  have := ratR_length l0 l1 a2 a3
  generalize ratR l0 l1 a2 a3 = R at *
  simp only [laws_FnExactRational.f, if_neg hl0, if_neg hl1]
  have t_l0 := toIntS_ev l0 (by omega)
  have e_l0 := eqIntS_ev l0 l0 (by omega)
  have t_l1 := toIntS_ev l1 (by omega)
  have e_l1 := eqIntS_ev l1 l1 (by omega)
  have v_0 := eqIntS_ev (R.1) (R.1) (by omega)
  have m_l0 := markIntS_ev l0 (1) (by omega) (by omega) (by omega)
  have m_l1 := markIntS_ev l1 (1 + (l0.length : Int)) (by omega) (by omega) (by omega)
  have n_0 := markIntS_ev (R.1) (1) (by omega) (by omega) (by omega)
  have h_0 := heldIntS_ev (R.1).length (1) (by omega) (by omega) (by omega)
  simp only [decide_true] at e_l0 e_l1 v_0
  repeat (first
    | exact Ev.now _
    | (rw [ev_bind t_l0])
    | (rw [ev_bind t_l1])
    | (rw [ev_bind e_l0])
    | (rw [ev_bind e_l1])
    | (rw [ev_bind v_0])
    | (rw [ev_bind m_l0])
    | (rw [ev_bind m_l1])
    | (rw [ev_bind n_0])
    | (rw [ev_bind h_0])
    | (rw [ev_bind hS])
    | (rw [ev_bind hI])
    | (simp only [if_true, if_false, bne_self_eq_false, Bool.false_eq_true]; done)
    | (rw [ev_neg (by omega)])
    | (rw [ev_pos rfl])
    | (simp only [if_true, if_false, bne_self_eq_false, Bool.false_eq_true])
    | (rw [ev_shift]; simp only [laws_FnExactRational.j0])
    | (rw [ev_shift]; simp only [laws_FnExactRational.j1])
    | (rw [ev_shift]; simp only [laws_FnExactRational.j2])
    | (rw [ev_shift]; simp only [laws_FnExactRational.j3]))

end Go.Proofs.Ytinpmpdkoedjnaa.Pure
