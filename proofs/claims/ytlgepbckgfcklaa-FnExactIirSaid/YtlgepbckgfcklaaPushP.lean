/- The parts of FnExactPush: the program's Push and the reference's Push answer alike, and what comes back is memory of its own. No conditions. -/
import Derived.Test.YtlgepbckgfcklaaQFnExactPushx0
import Derived.Test.YtlgepbckgfcklaaQFnExactPushx1
import Derived.Test.YtlgepbckgfcklaaQFnExactPushx2
import Derived.Test.YtlgepbckgfcklaaQFnExactPushx3
import Derived.Test.YtlgepbckgfcklaaQFnExactPushx4
import Derived.Test.YtlgepbckgfcklaaBase
namespace Go.Proofs.Ytlgepbckgfcklaa.PushP
open Go.RowKit Go.Proofs.Ytlgepbckgfcklaa.QFnExactPush Go.Proofs.YtlgepbckgfcklaaW.PrintWords Go.Proofs.YtlgepbckgfcklaaW.PrintLast
open Go.Proofs.Ytlgepbckgfcklaa.Base
set_option linter.unusedVariables false
set_option linter.unusedSimpArgs false
/-! ### toIntS, eqIntS, markIntS, heldIntS -/
theorem toIntS_ev (l : List Int) (h : l.length ≤ 2000000) : Ev (fun k => laws_toIntS.f k l) l := by
  unfold laws_toIntS.f
  simp only [Int.toNat_natCast]
  rw [ev_pos (by omega), ev_pos (by omega)]
  rw [(for_iff (fun k s i => laws_toIntS.l0 k l s i) (fun i s => s.set i (rd l (i : Int))) (fun _ s => s.length = l.length) l.length l ?_ _ (by simp)).2]
  · rw [iter_store_all _ _ _ (by simp), tab_rd]
    exact Ev.step (fun k => by simp only [laws_toIntS.l0]; rw [if_neg (by omega)]) (Ev.now _)
  · intro i s hi hs
    refine ⟨by simpa using hs, ?_⟩
    rw [ev_shift]
    simp only [laws_toIntS.l0]
    rw [ev_pos (by omega), ev_pos (by omega), ev_pos (by omega), w64 (by omega) (by omega), Int.toNat_natCast]

theorem eqIntS_ev (a b : List Int) (h : a.length ≤ 2000000) : Ev (fun k => laws_eqIntS.f k a b) (decide (a = b)) := by
  unfold laws_eqIntS.f
  by_cases e : a.length = b.length
  · rw [ev_pos (by omega)]
    rw [all_iff (fun k i => laws_eqIntS.l0 k a b i) (fun i => decide (rd a (i : Int) = rd b (i : Int))) a.length _ false]
    · split
      · rename_i hp
        have : a = b := list_ext_rd e fun i hi => by simpa using range_all.1 hp i hi
        rw [decide_eq_true this]
        exact Ev.step (fun k => by simp only [laws_eqIntS.l0]; rw [if_neg (by omega)]) (Ev.now _)
      · rename_i hp
        have : ¬ a = b := fun h => hp (by subst h; rw [range_all]; simp)
        simp [this]
    · intro i hi
      by_cases p : rd a (i : Int) = rd b (i : Int)
      · rw [if_pos (by simpa using p)]
        rw [ev_shift]
        simp only [laws_eqIntS.l0]
        rw [ev_pos (by omega), ev_pos (by omega), ev_pos (by omega), ev_pos p, w64 (by omega) (by omega)]
      · rw [if_neg (by simpa using p)]
        rw [ev_shift]
        simp only [laws_eqIntS.l0]
        rw [ev_pos (by omega), ev_pos (by omega), ev_pos (by omega), ev_neg p, ev_some_iff]
  · rw [ev_neg (by omega)]
    have : ¬ a = b := fun h => e (by rw [h])
    simp only [this, decide_false]
    exact Ev.now _


theorem markIntS_ev (l : List Int) (m : Int) (h : l.length ≤ 2000000) (h0 : 0 ≤ m) (h1 : m ≤ 1000000000) :
    Ev (fun k => laws_markIntS.f k l m) (m + (l.length : Int), tab l.length (fun i => m + (i : Int))) := by
  unfold laws_markIntS.f
  rw [(for_iff (fun k (s : List Int × Int) i => laws_markIntS.l0 k s.1 s.2 i) (fun i s => (s.1.set i (m + (i : Int)), m + ((i : Int) + 1))) (fun i s => s.1.length = l.length ∧ s.2 = m + (i : Int)) l.length _ ?_ (l, m) ⟨rfl, by simp⟩).2]
  · have hI : ∀ n, n ≤ l.length → iter (fun (i : Nat) (s : List Int × Int) => (s.1.set i (m + (i : Int)), m + ((i : Int) + 1))) n (l, m) = (iter (fun i s => s.set i (m + (i : Int))) n l, m + (n : Int)) := by
      intro n
      induction n with
      | zero => intro _; simp [iter]
      | succ n ih => intro hn; rw [iter_succ, ih (by omega), iter_succ]; simp
    rw [hI _ (Nat.le_refl _), iter_store_all _ _ _ rfl]
    exact Ev.step (fun k => by simp only [laws_markIntS.l0]; rw [if_neg (by simp)]) (Ev.now _)
  · rintro i ⟨s, c⟩ hi ⟨hs, hc⟩
    simp only at hs hc
    subst hc
    refine ⟨⟨by simpa using hs, by simp⟩, ?_⟩
    rw [ev_shift]
    simp only [laws_markIntS.l0]
    rw [ev_pos (by omega), ev_pos (by omega), w64 (by omega) (by omega), w64 (by omega) (by omega), Int.toNat_natCast, Int.add_assoc]

theorem heldIntS_ev (n : Nat) (m : Int) (h : n ≤ 2000000) (h0 : 0 ≤ m) (h1 : m ≤ 1000000000) :
    Ev (fun k => laws_heldIntS.f k (tab n (fun i => m + (i : Int))) m) (m + (n : Int)) := by
  unfold laws_heldIntS.f
  rw [(for_iff (fun k (c : Int) i => laws_heldIntS.l0 k (tab n (fun i => m + (i : Int))) c i) (fun i c => m + ((i : Int) + 1)) (fun i c => c = m + (i : Int)) n _ ?_ m (by simp)).2]
  · have hI : iter (fun (i : Nat) (c : Int) => m + ((i : Int) + 1)) n m = m + (n : Int) := by
      cases n with
      | zero => simp [iter]
      | succ n => rw [iter_succ]; simp
    rw [hI]
    exact Ev.step (fun k => by simp only [laws_heldIntS.l0]; rw [if_neg (by simp)]) (Ev.now _)
  · intro i c hi hc
    refine ⟨by simp, ?_⟩
    rw [ev_shift]
    simp only [laws_heldIntS.l0, tab_length]
    rw [ev_pos (by omega), ev_pos (by omega), rd_tab' hi, ev_pos hc.symm, hc, w64 (by omega) (by omega), w64 (by omega) (by omega), Int.add_assoc]

theorem clone_eq (l : List Int) (h : l.length ≤ 2000000) : slices_Clone_int_int.f l = some l := by
  unfold slices_Clone_int_int.f
  simp only [Option.bind_some, List.nil_append, List.length_nil]
  rw [if_pos (by omega)]

theorem within_ev (l : List Int) (m : Int) (hl : l.length ≤ 2000000) (h0 : 0 ≤ m) (h1 : m ≤ 1000000000000) : Ev (fun k => impl_within.f k l m) (inB m l) := by
  unfold impl_within.f
  rw [inB_range]
  rw [all_iff (fun k i => impl_within.l0 k m l (l.length : Int) i) (fun i => decide (-m ≤ rd l (i : Int)) && decide (rd l (i : Int) ≤ m)) l.length _ false]
  · split
    · rename_i hp
      rw [hp]
      exact Ev.step (fun k => by simp only [impl_within.l0]; rw [if_neg (by omega)]) (Ev.now _)
    · rename_i hp
      simpa using hp
  · intro i hi
    by_cases p : -m ≤ rd l (i : Int) ∧ rd l (i : Int) ≤ m
    · rw [if_pos (by simpa using p)]
      rw [ev_shift]
      simp only [impl_within.l0]
      rw [ev_pos (by omega), ev_pos (by omega), ev_pos (by omega), w64 (n := -m) (by omega) (by omega), ev_neg (by omega), ev_neg (by omega), w64 (by omega) (by omega)]
    · rw [if_neg (by simpa using p)]
      rw [ev_shift]
      simp only [impl_within.l0]
      rw [ev_pos (by omega), ev_pos (by omega), ev_pos (by omega), w64 (n := -m) (by omega) (by omega)]
      by_cases q : rd l (i : Int) < -m
      · rw [ev_pos q, ev_some_iff]
      · rw [ev_neg q, ev_pos (by omega), ev_some_iff]

theorem implSig_ev (l : List Int) (hl : l.length ≤ 2000000) : Ev (fun k => impl_SignalOk.f k l) (sigB l) := by
  unfold impl_SignalOk.f
  by_cases h : (l.length : Int) ≤ 512
  · rw [ev_pos h]
    rw [ev_bind (within_ev l 1000000000 hl (by omega) (by omega)), ev_some_iff, sigB, decide_eq_true (by omega : l.length ≤ 512), Bool.true_and]
  · rw [ev_neg h]
    rw [ev_some_iff, sigB, decide_eq_false (by omega : ¬ l.length ≤ 512), Bool.false_and]

/-! ### a ring -/
def ringF (cells l : List Int) (a j : Nat) : Int := if j < cells.length then rd cells (((a + j) % cells.length : Nat) : Int) else rd l ((j - cells.length : Nat) : Int)
def ringP (cells l : List Int) (a m : Nat) (s : List Int × List Int × Int) : Prop :=
  s.1 = tab m (ringF cells l a) ∧ s.2.1.length = cells.length ∧ (∀ j, m ≤ j → j < m + cells.length → rd s.2.1 (((a + j) % cells.length : Nat) : Int) = ringF cells l a j) ∧ s.2.2 = (((a + m) % cells.length : Nat) : Int) ∧ inB 1000000000 s.2.1 = true
theorem mod_ne {a m j n : Nat} (h0 : m < j) (h1 : j < m + n) : (a + j) % n ≠ (a + m) % n := by
  intro h
  have h2 : (a + j - (a + m)) % n = 0 := Nat.sub_mod_eq_zero_of_mod_eq h
  have h3 : a + j - (a + m) = j - m := by omega
  rw [h3, Nat.mod_eq_of_lt (by omega)] at h2
  omega
theorem inB_set {m : Int} {l : List Int} {i : Nat} {v : Int} (h : inB m l = true) (hv : -m ≤ v ∧ v ≤ m) : inB m (l.set i v) = true := by
  refine inB_iff.2 fun x hx => ?_
  rcases List.mem_or_eq_of_mem_set hx with h1 | h1
  · exact inB_iff.1 h x h1
  · rw [h1]
    exact hv
theorem ring_step (cells l : List Int) (a m : Nat) (hn : 0 < cells.length) (hl : inB 1000000000 l = true) (s : List Int × List Int × Int) (hs : ringP cells l a m s) :
    ringP cells l a (m + 1) (s.1 ++ [rd s.2.1 s.2.2], s.2.1.set s.2.2.toNat (rd l (m : Int)), Int.tmod (s.2.2 + 1) (cells.length : Int)) := by
  obtain ⟨h1, h2, h3, h4, h5⟩ := hs
  have hm := Nat.mod_lt (a + m) hn
  refine ⟨?_, ?_, ?_, ?_, ?_⟩
  · rw [h1, h4, tab_succ, h3 m (Nat.le_refl _) (by omega)]
  · rw [List.length_set, h2]
  · intro j hj0 hj1
    have hj := Nat.mod_lt (a + j) hn
    show rd (s.2.1.set s.2.2.toNat (rd l (m : Int))) _ = _
    rw [h4, rd_set (by omega) (by omega) (by omega)]
    by_cases c : j = m + cells.length
    · subst c
      have e : (a + (m + cells.length)) % cells.length = (a + m) % cells.length := by rw [← Nat.add_assoc, Nat.add_mod_right]
      rw [e, if_pos rfl]
      unfold ringF
      rw [if_neg (by omega), Nat.add_sub_cancel]
    · have := mod_ne (a := a) (m := m) (j := j) (n := cells.length) (by omega) (by omega)
      rw [if_neg (by omega), h3 j (by omega) (by omega)]
  · show Int.tmod (s.2.2 + 1) (cells.length : Int) = _
    rw [h4]
    have e : (((a + m) % cells.length : Nat) : Int) + 1 = (((a + m) % cells.length + 1 : Nat) : Int) := by omega
    rw [e, ← Int.ofNat_tmod, Nat.mod_add_mod, Nat.add_assoc]
  · exact inB_set h5 (inB_rd hl (by omega) _)
theorem pushV_ev (cells l : List Int) (a : Nat) (hn : 0 < cells.length) (hc : sigB cells = true) (ha : a < cells.length) (hl : sigB l = true) :
    ∃ c', Ev (fun k => impl_Push.l0 k [] l (l.length : Int) 0 cells (a : Int)) (c', (((a + l.length) % cells.length : Nat) : Int), tab l.length (ringF cells l a), true) ∧ c'.length = cells.length ∧ sigB c' = true ∧
      ∀ j, l.length ≤ j → j < l.length + cells.length → rd c' (((a + j) % cells.length : Nat) : Int) = ringF cells l a j := by
  have c1 := sigB_iff.1 hc
  have l1 := sigB_iff.1 hl
  have h0 : ringP cells l a 0 ([], cells, (a : Int)) := by
    refine ⟨rfl, rfl, fun j _ hj => ?_, ?_, c1.2⟩
    · unfold ringF
      rw [if_pos (by omega)]
    · simp only [Nat.add_zero]
      rw [Nat.mod_eq_of_lt ha]
  have g := fun r => for_iff (fun k (s : List Int × List Int × Int) i => impl_Push.l0 k s.1 l (l.length : Int) i s.2.1 s.2.2) (fun i s => (s.1 ++ [rd s.2.1 s.2.2], s.2.1.set s.2.2.toNat (rd l (i : Int)), Int.tmod (s.2.2 + 1) (cells.length : Int))) (ringP cells l a) l.length r (fun i s hi hs => by
    refine ⟨ring_step cells l a i hn l1.2 s hs, ?_⟩
    obtain ⟨h1, h2, h3, h4, h5⟩ := hs
    have hm := Nat.mod_lt (a + i) hn
    have h6 : s.1.length = i := by rw [h1]; simp
    rw [ev_shift]
    simp only [impl_Push.l0]
    rw [h2, ev_pos (by omega), ev_pos (by omega), ev_pos (by omega), ev_pos (by omega), ev_pos (by omega), ev_pos (by omega), ev_neg (by omega), w64 (n := (i : Int) + 1) (by omega) (by omega), w64 (n := s.2.2 + 1) (by omega) (by omega)]) ([], cells, (a : Int)) h0
  obtain ⟨h1, h2, h3, h4, h5⟩ := (g (cells, 0, [], true)).1
  refine ⟨_, (g _).2.2 ?_, h2, sigB_iff.2 ⟨by omega, h5⟩, h3⟩
  rw [ev_shift]
  simp only [impl_Push.l0]
  rw [ev_neg (by omega), h1, h4]
  exact Ev.now _
theorem ringOk_ev (cells : List Int) (a : Int) (hl : cells.length ≤ 2000000) : Ev (fun k => impl_Ring_ok.f k cells a) (decide (1 ≤ cells.length) && sigB cells && decide (0 ≤ a ∧ a < (cells.length : Int))) := by
  unfold impl_Ring_ok.f
  by_cases h1 : (cells.length : Int) ≥ 1
  · rw [ev_pos h1, ev_bind (implSig_ev cells hl), decide_eq_true (by omega : 1 ≤ cells.length), Bool.true_and]
    by_cases h2 : sigB cells = true
    · rw [ev_pos h2, h2, Bool.true_and]
      by_cases h3 : a ≥ 0
      · rw [ev_pos h3, ev_some_iff, decide_eq_decide]
        omega
      · rw [ev_neg h3, ev_some_iff, decide_eq_false (by omega)]
    · rw [ev_neg h2, ev_some_iff]
      simp only [Bool.not_eq_true] at h2
      rw [h2, Bool.false_and]
  · rw [ev_neg h1, ev_some_iff, decide_eq_false (by omega : ¬ 1 ≤ cells.length), Bool.false_and, Bool.false_and]

theorem l1In_eq (a b c : Int) : spec_l1In.f a b c = some (decide (b ≤ a ∧ a ≤ c)) := by
  unfold spec_l1In.f
  by_cases h : a ≥ b
  · rw [if_pos h]
    congr 1
    rw [decide_eq_decide]
    omega
  · rw [if_neg h]
    congr 1
    symm
    rw [decide_eq_false_iff_not]
    omega

theorem l5Sample_eq (a : Int) : spec_l5Sample.f a = some (decide (-1000000000 ≤ a ∧ a ≤ 1000000000)) := by
  unfold spec_l5Sample.f
  rw [l1In_eq]
  rfl
theorem specSig_ev (l : List Int) (hl : l.length ≤ 2000000) : Ev (fun k => spec_SignalOk.f k l) (sigB l) := by
  unfold spec_SignalOk.f
  rw [sigB, inB_range]
  rw [all_iff (fun k i => spec_SignalOk.l0 k l i) (fun i => decide (-1000000000 ≤ rd l (i : Int)) && decide (rd l (i : Int) ≤ 1000000000)) l.length _ false]
  · split
    · rename_i hp
      rw [hp, Bool.and_true]
      exact Ev.step (f := fun _ => some (decide (l.length ≤ 512))) (fun k => by simp only [spec_SignalOk.l0]; rw [if_neg (by omega)]; congr 1; rw [decide_eq_decide]; omega) (Ev.now _)
    · rename_i hp
      simp only [Bool.not_eq_true] at hp
      rw [hp, Bool.and_false]
  · intro i hi
    by_cases p : -1000000000 ≤ rd l (i : Int) ∧ rd l (i : Int) ≤ 1000000000
    · rw [if_pos (by simpa using p)]
      rw [ev_shift]
      simp only [spec_SignalOk.l0]
      rw [ev_pos (by omega), ev_pos (by omega), l5Sample_eq]
      simp only [Option.bind_some]
      rw [ev_pos (by simpa using p), w64 (by omega) (by omega)]
    · rw [if_neg (by simpa using p)]
      rw [ev_shift]
      simp only [spec_SignalOk.l0]
      rw [ev_pos (by omega), ev_pos (by omega), l5Sample_eq]
      simp only [Option.bind_some]
      rw [ev_neg (by simpa using p), ev_some_iff]

def rstep (n : Int) (l : List Int) (i : Nat) (s : List Int × List Int × Int) : List Int × List Int × Int := (s.1 ++ [rd s.2.1 s.2.2], s.2.1.set s.2.2.toNat (rd l (i : Int)), Int.tmod (s.2.2 + 1) n)
def rrun (cells l : List Int) (a : Int) : List Int × List Int × Int := iter (rstep (cells.length : Int) l) l.length ([], cells, a)
def rInv (cells : List Int) (i : Nat) (s : List Int × List Int × Int) : Prop := s.1.length = i ∧ s.2.1.length = cells.length ∧ 0 ≤ s.2.2 ∧ s.2.2 < (cells.length : Int)
theorem rInv_step (cells l : List Int) (i : Nat) (s : List Int × List Int × Int) (h : rInv cells i s) : rInv cells (i + 1) (rstep (cells.length : Int) l i s) := by
  obtain ⟨h1, h2, h3, h4⟩ := h
  exact ⟨by simp [rstep, h1], by simp [rstep, h2], Int.tmod_nonneg _ (by omega), Int.tmod_lt_of_pos _ (by omega)⟩
def PushOk (cells l : List Int) (a : Int) : Prop := sigB cells = true ∧ 1 ≤ cells.length ∧ 0 ≤ a ∧ a < (cells.length : Int) ∧ sigB l = true
open Classical in
noncomputable def pushR (cells : List Int) (a : Int) (l : List Int) : List Int × Int × List Int × Bool := if PushOk cells l a then ((rrun cells l a).2.1, (rrun cells l a).2.2, (rrun cells l a).1, true) else ([], 0, [], false)
theorem l11Ring_ev (l : List Int) (p : Int) (hl : l.length ≤ 2000000) : Ev (fun k => spec_l11Ring.f k l p) (decide (sigB l = true ∧ 1 ≤ l.length ∧ 0 ≤ p ∧ p < (l.length : Int))) := by
  unfold spec_l11Ring.f
  rw [ev_bind (specSig_ev l hl)]
  by_cases h2 : sigB l = true
  · rw [ev_pos h2]
    by_cases h1 : (l.length : Int) > 0
    · rw [ev_pos h1, w64 (by omega) (by omega), l1In_eq, ev_sbind, ev_some_iff, decide_eq_decide]
      exact ⟨fun h => ⟨h2, by omega, by omega, by omega⟩, fun h => ⟨h.2.2.1, by omega⟩⟩
    · rw [ev_neg h1, ev_some_iff]
      symm
      rw [decide_eq_false_iff_not]
      exact fun h => h1 (by omega)
  · rw [ev_neg h2, ev_some_iff]
    symm
    rw [decide_eq_false_iff_not]
    exact fun h => h2 h.1
theorem implRun_ev (cells l : List Int) (a : Int) (hc : cells.length ≤ 2000000) (hl : l.length ≤ 2000000) (h0 : 0 ≤ a) (h1 : a < (cells.length : Int)) :
    Ev (fun k => impl_Push.l0 k [] l (l.length : Int) 0 cells a) ((rrun cells l a).2.1, (rrun cells l a).2.2, (rrun cells l a).1, true) ∧ rInv cells l.length (rrun cells l a) := by
  have g := fun r => for_iff (fun k (s : List Int × List Int × Int) i => impl_Push.l0 k s.1 l (l.length : Int) i s.2.1 s.2.2) (rstep (cells.length : Int) l) (rInv cells) l.length r (fun i s hi hs => by
    refine ⟨rInv_step cells l i s hs, ?_⟩
    obtain ⟨h1, h2, h3, h4⟩ := hs
    rw [ev_shift]
    simp only [impl_Push.l0]
    rw [h2, ev_pos (by omega), ev_pos (by omega), ev_pos (by omega), ev_pos (by omega), ev_pos (by omega), ev_pos (by omega), ev_neg (by omega), w64 (n := (i : Int) + 1) (by omega) (by omega), w64 (n := s.2.2 + 1) (by omega) (by omega)]
    rfl) ([], cells, a) ⟨rfl, rfl, h0, h1⟩
  refine ⟨(g _).2.2 ?_, (g (cells, 0, [], true)).1⟩
  rw [ev_shift]
  simp only [impl_Push.l0]
  rw [ev_neg (by omega)]
  exact Ev.now _
theorem specRun_ev (cells l : List Int) (a : Int) (hc : cells.length ≤ 2000000) (hl : l.length ≤ 2000000) (h0 : 0 ≤ a) (h1 : a < (cells.length : Int)) :
    Ev (fun k => spec_Push.l0 k l [] 0 cells a) ((rrun cells l a).2.1, (rrun cells l a).2.2, (rrun cells l a).1, true) := by
  have g := fun r => for_iff (fun k (s : List Int × List Int × Int) i => spec_Push.l0 k l s.1 i s.2.1 s.2.2) (rstep (cells.length : Int) l) (rInv cells) l.length r (fun i s hi hs => by
    refine ⟨rInv_step cells l i s hs, ?_⟩
    obtain ⟨h1, h2, h3, h4⟩ := hs
    rw [ev_shift]
    simp only [spec_Push.l0]
    rw [h2, ev_pos (by omega), ev_pos (by omega), ev_pos (by omega), ev_pos (by omega), ev_pos (by omega), ev_neg (by omega), w64 (n := (i : Int) + 1) (by omega) (by omega), w64 (n := s.2.2 + 1) (by omega) (by omega)]
    rfl) ([], cells, a) ⟨rfl, rfl, h0, h1⟩
  refine (g _).2.2 ?_
  rw [ev_shift]
  simp only [spec_Push.l0]
  rw [ev_neg (by omega)]
  exact Ev.now _
theorem implPush_ev (cells : List Int) (a : Int) (l : List Int) (hc : cells.length ≤ 2000000) (hl : l.length ≤ 2000000) : Ev (fun k => impl_Push.f k cells a l) (pushR cells a l) := by
  unfold impl_Push.f pushR
  rw [ev_bind (ringOk_ev cells a hc)]
  by_cases h : PushOk cells l a
  · obtain ⟨h1, h2, h3, h4, h5⟩ := h
    rw [if_pos ⟨h1, h2, h3, h4, h5⟩, ev_pos (by simp [h1, h2, h3, h4]), ev_bind (implSig_ev l hl), h5, ev_shift]
    simp only [impl_Push.j0]
    rw [ev_neg (by simp), clone_eq cells hc, ev_sbind]
    exact (implRun_ev cells l a hc hl h3 h4).1
  · rw [if_neg h]
    by_cases c : (decide (1 ≤ cells.length) && sigB cells && decide (0 ≤ a ∧ a < (cells.length : Int))) = true
    · rw [ev_pos c, ev_bind (implSig_ev l hl), ev_shift]
      simp only [impl_Push.j0]
      rw [ev_pos ?_]
      · exact Ev.now _
      · cases hs : sigB l
        · rfl
        · simp only [Bool.and_eq_true, decide_eq_true_eq] at c
          exact absurd ⟨c.1.2, c.1.1, c.2.1, c.2.2, hs⟩ h
    · rw [ev_neg c, ev_shift]
      simp only [impl_Push.j0]
      rw [ev_pos trivial]
      exact Ev.now _
theorem specPush_ev (cells : List Int) (a : Int) (l : List Int) (hc : cells.length ≤ 2000000) (hl : l.length ≤ 2000000) : Ev (fun k => spec_Push.f k cells a l) (pushR cells a l) := by
  unfold spec_Push.f pushR
  rw [ev_sbind, ev_bind (l11Ring_ev cells a hc)]
  by_cases h : PushOk cells l a
  · obtain ⟨h1, h2, h3, h4, h5⟩ := h
    rw [if_pos ⟨h1, h2, h3, h4, h5⟩, ev_pos (decide_eq_true ⟨h1, h2, h3, h4⟩), ev_bind (specSig_ev l hl), h5, ev_shift]
    simp only [spec_Push.j0]
    rw [ev_neg (by simp), ev_sbind, ev_pos (by simp; omega), List.nil_append]
    exact specRun_ev cells l a hc hl h3 h4
  · rw [if_neg h]
    by_cases c : sigB cells = true ∧ 1 ≤ cells.length ∧ 0 ≤ a ∧ a < (cells.length : Int)
    · rw [ev_pos (decide_eq_true c), ev_bind (specSig_ev l hl), ev_shift]
      simp only [spec_Push.j0]
      rw [ev_pos ?_]
      · exact Ev.now _
      · cases hs : sigB l
        · rfl
        · exact absurd ⟨c.1, c.2.1, c.2.2.1, c.2.2.2, hs⟩ h
    · rw [ev_neg (by simpa using c), ev_shift]
      simp only [spec_Push.j0]
      rw [ev_pos trivial]
      exact Ev.now _
theorem pushR_len (cells : List Int) (a : Int) (l : List Int) (hc : cells.length ≤ 2000000) (hl : l.length ≤ 2000000) : (pushR cells a l).1.length ≤ 2000000 ∧ (pushR cells a l).2.2.1.length ≤ 2000000 := by
  unfold pushR
  by_cases h : PushOk cells l a
  · rw [if_pos h]
    have := (implRun_ev cells l a hc hl h.2.2.1 h.2.2.2.1).2
    exact ⟨by rw [this.2.1]; exact hc, by rw [this.1]; exact hl⟩
  · rw [if_neg h]
    simp
theorem toRing_ev (l : List Int) (p : Int) (hl : l.length ≤ 2000000) : Ev (fun k => laws_toRing.f k l p) (l, p) := by
  unfold laws_toRing.f
  rw [ev_bind (toIntS_ev l hl)]
  exact Ev.now _
theorem szRing_eq (l : List Int) (p : Int) (hl : l.length ≤ maxLen) : ∃ v, laws_szRing.f l p 1048576 = some v ∧ (0 ≤ v → l.length ≤ 1048576) := by
  have hm : maxLen ≤ 9223372036854775807 := by decide
  unfold laws_szRing.f laws_szIntS.f
  rw [w64 (by omega) (by omega)]
  by_cases c : 1048576 - (l.length : Int) < 0
  · rw [if_pos c]
    exact ⟨-1, rfl, fun h => by omega⟩
  · rw [if_neg c, Option.bind_some, if_neg c]
    exact ⟨_, rfl, fun _ => by omega⟩
theorem eqRing_ev (l : List Int) (p : Int) (hl : l.length ≤ 2000000) : Ev (fun k => laws_eqRing.f k l p l p) true := by
  unfold laws_eqRing.f
  rw [ev_bind (eqIntS_ev l l hl), decide_eq_true rfl, ev_pos rfl, ev_pos rfl]
  exact Ev.now _
theorem markRing_ev (l : List Int) (p m : Int) (hl : l.length ≤ 2000000) (h0 : 0 ≤ m) (h1 : m ≤ 1000000000) : Ev (fun k => laws_markRing.f k l p m) (m + (l.length : Int), tab l.length (fun i => m + (i : Int))) := by
  unfold laws_markRing.f
  rw [ev_bind (markIntS_ev l m hl h0 h1)]
  exact Ev.now _
theorem heldRing_ev (n : Nat) (p m : Int) (hn : n ≤ 2000000) (h0 : 0 ≤ m) (h1 : m ≤ 1000000000) : Ev (fun k => laws_heldRing.f k (tab n (fun i => m + (i : Int))) p m) (m + (n : Int)) := by
  unfold laws_heldRing.f
  rw [ev_bind (heldIntS_ev n m hn h0 h1), ev_neg (by omega)]
  exact Ev.now _
end Go.Proofs.Ytlgepbckgfcklaa.PushP
