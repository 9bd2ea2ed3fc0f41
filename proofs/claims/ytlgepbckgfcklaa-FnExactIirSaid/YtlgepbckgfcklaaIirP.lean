/- The parts of FnExactIir: the program's Iir and the reference's Iir answer alike. No conditions. -/
import Derived.Test.YtlgepbckgfcklaaQFnExactIirx0
import Derived.Test.YtlgepbckgfcklaaQFnExactIirx1
import Derived.Test.YtlgepbckgfcklaaQFnExactIirx2
import Derived.Test.YtlgepbckgfcklaaQFnExactIirx3
import Derived.Test.YtlgepbckgfcklaaBase
namespace Go.Proofs.Ytlgepbckgfcklaa.IirP
open Go.RowKit Go.Proofs.Ytlgepbckgfcklaa.QFnExactIir Go.Proofs.YtlgepbckgfcklaaW.PrintWords Go.Proofs.YtlgepbckgfcklaaW.PrintLast
open Go.Proofs.Ytlgepbckgfcklaa.Base
set_option linter.unusedVariables false
set_option linter.unusedSimpArgs false
/-! ### toIntS, eqIntS, markIntS, heldIntS -/
theorem toIntS_ev (l : List Int) (h : l.length ≤ 2000000) : Ev (fun k => laws_toIntS.f k l) l := by
  unfold laws_toIntS.f
  simp only [Int.toNat_natCast]
  rw [ev_pos (by omega), ev_pos (by omega)]
  rw [(for_iff (fun k s i => laws_toIntS.l0 k l s i) (fun i s => s.set i (rd l (i : Int))) (fun _ s => s.length = l.length) l.length l ?_ _ (by simp)).2]
  · rw [iter_store_all _ _ _ (by simp), tab_rd]
    exact Ev.step (fun k => by simp only [laws_toIntS.l0]; rw [if_neg (by omega)]) (Ev.now _)
  · intro i s hi hs
    refine ⟨by simpa using hs, ?_⟩
    rw [ev_shift]
    simp only [laws_toIntS.l0]
    rw [ev_pos (by omega), ev_pos (by omega), ev_pos (by omega), w64 (by omega) (by omega), Int.toNat_natCast]

theorem eqIntS_ev (a b : List Int) (h : a.length ≤ 2000000) : Ev (fun k => laws_eqIntS.f k a b) (decide (a = b)) := by
  unfold laws_eqIntS.f
  by_cases e : a.length = b.length
  · rw [ev_pos (by omega)]
    rw [all_iff (fun k i => laws_eqIntS.l0 k a b i) (fun i => decide (rd a (i : Int) = rd b (i : Int))) a.length _ false]
    · split
      · rename_i hp
        have : a = b := list_ext_rd e fun i hi => by simpa using range_all.1 hp i hi
        rw [decide_eq_true this]
        exact Ev.step (fun k => by simp only [laws_eqIntS.l0]; rw [if_neg (by omega)]) (Ev.now _)
      · rename_i hp
        have : ¬ a = b := fun h => hp (by subst h; rw [range_all]; simp)
        simp [this]
    · intro i hi
      by_cases p : rd a (i : Int) = rd b (i : Int)
      · rw [if_pos (by simpa using p)]
        rw [ev_shift]
        simp only [laws_eqIntS.l0]
        rw [ev_pos (by omega), ev_pos (by omega), ev_pos (by omega), ev_pos p, w64 (by omega) (by omega)]
      · rw [if_neg (by simpa using p)]
        rw [ev_shift]
        simp only [laws_eqIntS.l0]
        rw [ev_pos (by omega), ev_pos (by omega), ev_pos (by omega), ev_neg p, ev_some_iff]
  · rw [ev_neg (by omega)]
    have : ¬ a = b := fun h => e (by rw [h])
    simp only [this, decide_false]
    exact Ev.now _


theorem markIntS_ev (l : List Int) (m : Int) (h : l.length ≤ 2000000) (h0 : 0 ≤ m) (h1 : m ≤ 1000000000) :
    Ev (fun k => laws_markIntS.f k l m) (m + (l.length : Int), tab l.length (fun i => m + (i : Int))) := by
  unfold laws_markIntS.f
  rw [(for_iff (fun k (s : List Int × Int) i => laws_markIntS.l0 k s.1 s.2 i) (fun i s => (s.1.set i (m + (i : Int)), m + ((i : Int) + 1))) (fun i s => s.1.length = l.length ∧ s.2 = m + (i : Int)) l.length _ ?_ (l, m) ⟨rfl, by simp⟩).2]
  · have hI : ∀ n, n ≤ l.length → iter (fun (i : Nat) (s : List Int × Int) => (s.1.set i (m + (i : Int)), m + ((i : Int) + 1))) n (l, m) = (iter (fun i s => s.set i (m + (i : Int))) n l, m + (n : Int)) := by
      intro n
      induction n with
      | zero => intro _; simp [iter]
      | succ n ih => intro hn; rw [iter_succ, ih (by omega), iter_succ]; simp
    rw [hI _ (Nat.le_refl _), iter_store_all _ _ _ rfl]
    exact Ev.step (fun k => by simp only [laws_markIntS.l0]; rw [if_neg (by simp)]) (Ev.now _)
  · rintro i ⟨s, c⟩ hi ⟨hs, hc⟩
    simp only at hs hc
    subst hc
    refine ⟨⟨by simpa using hs, by simp⟩, ?_⟩
    rw [ev_shift]
    simp only [laws_markIntS.l0]
    rw [ev_pos (by omega), ev_pos (by omega), w64 (by omega) (by omega), w64 (by omega) (by omega), Int.toNat_natCast, Int.add_assoc]

theorem heldIntS_ev (n : Nat) (m : Int) (h : n ≤ 2000000) (h0 : 0 ≤ m) (h1 : m ≤ 1000000000) :
    Ev (fun k => laws_heldIntS.f k (tab n (fun i => m + (i : Int))) m) (m + (n : Int)) := by
  unfold laws_heldIntS.f
  rw [(for_iff (fun k (c : Int) i => laws_heldIntS.l0 k (tab n (fun i => m + (i : Int))) c i) (fun i c => m + ((i : Int) + 1)) (fun i c => c = m + (i : Int)) n _ ?_ m (by simp)).2]
  · have hI : iter (fun (i : Nat) (c : Int) => m + ((i : Int) + 1)) n m = m + (n : Int) := by
      cases n with
      | zero => simp [iter]
      | succ n => rw [iter_succ]; simp
    rw [hI]
    exact Ev.step (fun k => by simp only [laws_heldIntS.l0]; rw [if_neg (by simp)]) (Ev.now _)
  · intro i c hi hc
    refine ⟨by simp, ?_⟩
    rw [ev_shift]
    simp only [laws_heldIntS.l0, tab_length]
    rw [ev_pos (by omega), ev_pos (by omega), rd_tab' hi, ev_pos hc.symm, hc, w64 (by omega) (by omega), w64 (by omega) (by omega), Int.add_assoc]

theorem within_ev (l : List Int) (m : Int) (hl : l.length ≤ 2000000) (h0 : 0 ≤ m) (h1 : m ≤ 1000000000000) : Ev (fun k => impl_within.f k l m) (inB m l) := by
  unfold impl_within.f
  rw [inB_range]
  rw [all_iff (fun k i => impl_within.l0 k m l (l.length : Int) i) (fun i => decide (-m ≤ rd l (i : Int)) && decide (rd l (i : Int) ≤ m)) l.length _ false]
  · split
    · rename_i hp
      rw [hp]
      exact Ev.step (fun k => by simp only [impl_within.l0]; rw [if_neg (by omega)]) (Ev.now _)
    · rename_i hp
      simpa using hp
  · intro i hi
    by_cases p : -m ≤ rd l (i : Int) ∧ rd l (i : Int) ≤ m
    · rw [if_pos (by simpa using p)]
      rw [ev_shift]
      simp only [impl_within.l0]
      rw [ev_pos (by omega), ev_pos (by omega), ev_pos (by omega), w64 (n := -m) (by omega) (by omega), ev_neg (by omega), ev_neg (by omega), w64 (by omega) (by omega)]
    · rw [if_neg (by simpa using p)]
      rw [ev_shift]
      simp only [impl_within.l0]
      rw [ev_pos (by omega), ev_pos (by omega), ev_pos (by omega), w64 (n := -m) (by omega) (by omega)]
      by_cases q : rd l (i : Int) < -m
      · rw [ev_pos q, ev_some_iff]
      · rw [ev_neg q, ev_pos (by omega), ev_some_iff]

theorem implSig_ev (l : List Int) (hl : l.length ≤ 2000000) : Ev (fun k => impl_SignalOk.f k l) (sigB l) := by
  unfold impl_SignalOk.f
  by_cases h : (l.length : Int) ≤ 512
  · rw [ev_pos h]
    rw [ev_bind (within_ev l 1000000000 hl (by omega) (by omega)), ev_some_iff, sigB, decide_eq_true (by omega : l.length ≤ 512), Bool.true_and]
  · rw [ev_neg h]
    rw [ev_some_iff, sigB, decide_eq_false (by omega : ¬ l.length ≤ 512), Bool.false_and]


theorem l1In_eq (a b c : Int) : spec_l1In.f a b c = some (decide (b ≤ a ∧ a ≤ c)) := by
  unfold spec_l1In.f
  by_cases h : a ≥ b
  · rw [if_pos h]
    congr 1
    rw [decide_eq_decide]
    omega
  · rw [if_neg h]
    congr 1
    symm
    rw [decide_eq_false_iff_not]
    omega

theorem l9Wide_ev (l : List Int) (m : Int) (hl : l.length ≤ 2000000) (h0 : 0 ≤ m) (h1 : m ≤ 1000000000000) : Ev (fun k => spec_l9Wide.f k l m) (inB m l) := by
  unfold spec_l9Wide.f
  rw [inB_range]
  rw [all_iff (fun k i => spec_l9Wide.l0 k l m i) (fun i => decide (-m ≤ rd l (i : Int)) && decide (rd l (i : Int) ≤ m)) l.length _ false]
  · split
    · rename_i hp
      rw [hp]
      exact Ev.step (fun k => by simp only [spec_l9Wide.l0]; rw [if_neg (by omega)]) (Ev.now _)
    · rename_i hp
      simpa using hp
  · intro i hi
    by_cases p : -m ≤ rd l (i : Int) ∧ rd l (i : Int) ≤ m
    · rw [if_pos (by simpa using p)]
      rw [ev_shift]
      simp only [spec_l9Wide.l0]
      rw [ev_pos (by omega), ev_pos (by omega), w64 (n := -m) (by omega) (by omega), l1In_eq]
      simp only [Option.bind_some]
      rw [ev_pos (by simpa using p), w64 (by omega) (by omega)]
    · rw [if_neg (by simpa using p)]
      rw [ev_shift]
      simp only [spec_l9Wide.l0]
      rw [ev_pos (by omega), ev_pos (by omega), w64 (n := -m) (by omega) (by omega), l1In_eq]
      simp only [Option.bind_some]
      rw [ev_neg (by simpa using p), ev_some_iff]

theorem floor_eq (a b : Int) (hb : 0 < b) (h0 : -4611686018427387904 ≤ a / b) (h1 : a / b ≤ 4611686018427387904) : spec_l5Floor.f a b = some (a / b) := by
  unfold spec_l5Floor.f
  rw [if_neg (by omega)]
  have e1 := Int.tdiv_eq_ediv (a := a) (b := b)
  have e2 := Int.tmod_eq_emod (a := a) (b := b)
  have h2 := Int.emod_nonneg a (by omega : b ≠ 0)
  have h3 := Int.emod_lt_of_pos a hb
  by_cases c : 0 ≤ a ∨ b ∣ a
  · rw [if_pos c] at e1 e2
    rw [e1, e2, if_neg (by omega), w64 (by omega) (by omega), Int.add_zero]
  · rw [if_neg c] at e1 e2
    have s : b.sign = 1 := Int.sign_eq_one_of_pos hb
    have n : (b.natAbs : Int) = b := by omega
    rw [e1, e2, if_pos (by omega), s, w64 (n := a / b + 1) (by omega) (by omega), w64 (by omega) (by omega), Int.add_sub_cancel]

theorem div_bounds {a d : Int} (hd : 0 < d) (h0 : -4000000000000000000 ≤ a) (h1 : a ≤ 4000000000000000000) : -4000000000000000000 ≤ a / d ∧ a / d ≤ 4000000000000000000 := by
  have e1 : -4000000000000000000 ≤ a / d := (Int.le_ediv_iff_mul_le hd).2 (by omega)
  have e2 : a / d < 4000000000000000001 := (Int.ediv_lt_iff_lt_mul hd).2 (by omega)
  omega
theorem down_eq (a d : Int) (hd : 0 < d) (hd1 : d ≤ 4000000000000000000) (h0 : -4000000000000000000 ≤ a) (h1 : a ≤ 4000000000000000000) : impl_down.f a d = some (a / d, a % d) := by
  unfold impl_down.f
  rw [if_neg (by omega)]
  have b := div_bounds hd h0 h1
  have e1 := Int.tdiv_eq_ediv (a := a) (b := d)
  have e2 := Int.tmod_eq_emod (a := a) (b := d)
  have h2 := Int.emod_nonneg a (by omega : d ≠ 0)
  have h3 := Int.emod_lt_of_pos a hd
  by_cases c : 0 ≤ a ∨ d ∣ a
  · rw [if_pos c] at e1 e2
    have e3 : a.tmod d = a % d := by omega
    have e4 : a.tdiv d = a / d := by omega
    rw [e3, e4, if_neg (by omega), w64 (by omega) (by omega)]
  · rw [if_neg c] at e1 e2
    have s : d.sign = 1 := Int.sign_eq_one_of_pos hd
    have n : (d.natAbs : Int) = d := by omega
    rw [e1, e2, if_pos (by omega), s, n, w64 (n := a / d + 1) (by omega) (by omega), w64 (by omega) (by omega), Int.add_sub_cancel, Int.sub_add_cancel, w64 (by omega) (by omega)]

def clampM (x : Int) : Int := if x < -1000000 then -1000000 else if x > 1000000 then 1000000 else x
theorem clampM_bd (x : Int) : -1000000 ≤ clampM x ∧ clampM x ≤ 1000000 := by
  unfold clampM
  split
  · omega
  · split <;> omega
/-- x1, x2, y1, y2, e -/
structure Pst where
  x1 : Int
  x2 : Int
  y1 : Int
  y2 : Int
  e : Int
structure Sec where
  b0 : Int
  b1 : Int
  b2 : Int
  a1 : Int
  a2 : Int
def tOf (s : Sec) (p : Pst) (x : Int) : Int := s.b0 * x + s.b1 * p.x1 + s.b2 * p.x2 - s.a1 * p.y1 - s.a2 * p.y2 + p.e
def nextP (s : Sec) (p : Pst) (x : Int) : Pst := ⟨x, p.x1, clampM (tOf s p x / 16384), p.y1, tOf s p x % 16384⟩
def istep (s : Sec) (l : List Int) (i : Nat) (st : List Int × Pst) : List Int × Pst := (st.1 ++ [clampM (tOf s st.2 (rd l (i : Int)) / 16384)], nextP s st.2 (rd l (i : Int)))
def irun (s : Sec) (p : Pst) (l : List Int) : List Int × Pst := iter (istep s l) l.length ([], p)
def SecOk (s : Sec) : Prop := (-65536 ≤ s.b0 ∧ s.b0 ≤ 65536) ∧ (-65536 ≤ s.b1 ∧ s.b1 ≤ 65536) ∧ (-65536 ≤ s.b2 ∧ s.b2 ≤ 65536) ∧ (-65536 ≤ s.a1 ∧ s.a1 ≤ 65536) ∧ (-65536 ≤ s.a2 ∧ s.a2 ≤ 65536)
def PstOk (p : Pst) : Prop := (-1000000 ≤ p.x1 ∧ p.x1 ≤ 1000000) ∧ (-1000000 ≤ p.x2 ∧ p.x2 ≤ 1000000) ∧ (-1000000 ≤ p.y1 ∧ p.y1 ≤ 1000000) ∧ (-1000000 ≤ p.y2 ∧ p.y2 ≤ 1000000) ∧ (0 ≤ p.e ∧ p.e ≤ 16383)
def IirOk (s : Sec) (p : Pst) (l : List Int) : Prop := SecOk s ∧ PstOk p ∧ l.length ≤ 512 ∧ inB 1000000 l = true
instance (s : Sec) : Decidable (SecOk s) := by unfold SecOk; infer_instance
instance (p : Pst) : Decidable (PstOk p) := by unfold PstOk; infer_instance
instance (s : Sec) (p : Pst) (l : List Int) : Decidable (IirOk s p l) := by unfold IirOk; infer_instance
theorem pb {a b A B : Int} (ha : -A ≤ a ∧ a ≤ A) (hb : -B ≤ b ∧ b ≤ B) : -(A * B) ≤ a * b ∧ a * b ≤ A * B := by
  have h1 : (a * b).natAbs ≤ A.natAbs * B.natAbs := by rw [Int.natAbs_mul]; exact Nat.mul_le_mul (by omega) (by omega)
  have h2 : (A * B).natAbs = A.natAbs * B.natAbs := Int.natAbs_mul A B
  have h3 : 0 ≤ A * B := Int.mul_nonneg (by omega) (by omega)
  omega
theorem tOf_bd {s : Sec} {p : Pst} {x : Int} (hs : SecOk s) (hp : PstOk p) (hx : -1000000 ≤ x ∧ x ≤ 1000000) :
    (wrap64 ((wrap64 ((wrap64 ((wrap64 ((wrap64 ((wrap64 (s.b0 * x)) + (wrap64 (s.b1 * p.x1)))) + (wrap64 (s.b2 * p.x2)))) - (wrap64 (s.a1 * p.y1)))) - (wrap64 (s.a2 * p.y2)))) + p.e)) = tOf s p x ∧ -400000000000 ≤ tOf s p x ∧ tOf s p x ≤ 400000000000 := by
  obtain ⟨s0, s1, s2, s3, s4⟩ := hs
  obtain ⟨p0, p1, p2, p3, p4⟩ := hp
  have h0 := pb s0 hx
  have h1 := pb s1 p0
  have h2 := pb s2 p1
  have h3 := pb s3 p2
  have h4 := pb s4 p3
  unfold tOf
  generalize s.b0 * x = q0 at *
  generalize s.b1 * p.x1 = q1 at *
  generalize s.b2 * p.x2 = q2 at *
  generalize s.a1 * p.y1 = q3 at *
  generalize s.a2 * p.y2 = q4 at *
  refine ⟨?_, by omega, by omega⟩
  rw [w64 (n := q0) (by omega) (by omega), w64 (n := q1) (by omega) (by omega), w64 (n := q2) (by omega) (by omega), w64 (n := q3) (by omega) (by omega), w64 (n := q4) (by omega) (by omega)]
  rw [w64 (n := q0 + q1) (by omega) (by omega), w64 (n := q0 + q1 + q2) (by omega) (by omega), w64 (n := q0 + q1 + q2 - q3) (by omega) (by omega), w64 (n := q0 + q1 + q2 - q3 - q4) (by omega) (by omega), w64 (by omega) (by omega)]
theorem nextP_ok {s : Sec} {p : Pst} {x : Int} (hp : PstOk p) (hx : -1000000 ≤ x ∧ x ≤ 1000000) : PstOk (nextP s p x) := by
  obtain ⟨p0, p1, p2, p3, p4⟩ := hp
  have := clampM_bd (tOf s p x / 16384)
  exact ⟨hx, p0, this, p2, by show 0 ≤ tOf s p x % 16384 ∧ tOf s p x % 16384 ≤ 16383; omega⟩
def iInv (i : Nat) (st : List Int × Pst) : Prop := st.1.length = i ∧ PstOk st.2
theorem nearer_eq (x : Int) : impl_nearer.f x (-1000000) 1000000 = some (clampM x) := by
  unfold impl_nearer.f clampM mn mx
  congr 1
  repeat (first | omega | split)
theorem end_eq (x : Int) : spec_l10End.f x = some (clampM x) := by
  unfold spec_l10End.f clampM
  by_cases h1 : x > 1000000
  · rw [if_pos h1, if_neg (by omega), if_pos h1]
  · rw [if_neg h1]
    by_cases h2 : x < -1000000
    · rw [if_pos h2, if_pos h2]
    · rw [if_neg h2, if_neg h2, if_neg h1]
theorem rd_in {l : List Int} (h : inB 1000000 l = true) (i : Nat) : -1000000 ≤ rd l (i : Int) ∧ rd l (i : Int) ≤ 1000000 := by
  by_cases hi : i < l.length
  · exact inB_iff.1 h _ (rd_mem (by omega) (by omega))
  · have : rd l (i : Int) = 0 := by
      unfold rd
      rw [List.getD_eq_getElem?_getD, List.getElem?_eq_none (by simp; omega)]
      rfl
    rw [this]; omega
theorem implRun_ev (s : Sec) (p : Pst) (l : List Int) (hs : SecOk s) (hp : PstOk p) (hl : l.length ≤ 512) (hb : inB 1000000 l = true) :
    Ev (fun k => impl_iir.f k s.b0 s.b1 s.b2 s.a1 s.a2 p.x1 p.x2 p.y1 p.y2 p.e l) ((irun s p l).1, (irun s p l).2.x1, (irun s p l).2.x2, (irun s p l).2.y1, (irun s p l).2.y2, (irun s p l).2.e) ∧ iInv l.length (irun s p l) := by
  have g := fun r => for_iff (fun k (st : List Int × Pst) i => impl_iir.l0 k st.1 l (l.length : Int) i s.b0 s.b1 s.b2 s.a1 s.a2 st.2.x1 st.2.x2 st.2.y1 st.2.y2 st.2.e) (istep s l) iInv l.length r (fun i st hi hst => by
    obtain ⟨h1, h2⟩ := hst
    have hx := rd_in hb i
    refine ⟨⟨by simp [istep, h1], nextP_ok h2 hx⟩, ?_⟩
    obtain ⟨ht, hlo, hhi⟩ := tOf_bd hs h2 hx
    rw [ev_shift]
    simp only [impl_iir.l0]
    rw [ev_pos (by omega), ev_pos (by omega), ev_pos (by omega), ht, down_eq _ 16384 (by omega) (by omega) (by omega) (by omega), ev_sbind]
    dsimp only
    rw [nearer_eq, ev_sbind, ev_pos (by omega), w64 (by omega) (by omega)]
    rfl) ([], p) ⟨rfl, hp⟩
  refine ⟨(g _).2.2 ?_, (g ([], 0, 0, 0, 0, 0)).1⟩
  rw [ev_shift]
  simp only [impl_iir.l0]
  rw [ev_neg (by omega)]
  exact Ev.now _
theorem specRun_ev (s : Sec) (p : Pst) (l : List Int) (hs : SecOk s) (hp : PstOk p) (hl : l.length ≤ 512) (hb : inB 1000000 l = true) :
    Ev (fun k => spec_Iir.l0 k l [] 0 s.b0 s.b1 s.b2 s.a1 s.a2 p.x1 p.x2 p.y1 p.y2 p.e) ((irun s p l).1, (irun s p l).2.x1, (irun s p l).2.x2, (irun s p l).2.y1, (irun s p l).2.y2, (irun s p l).2.e, true) := by
  have g := fun r => for_iff (fun k (st : List Int × Pst) i => spec_Iir.l0 k l st.1 i s.b0 s.b1 s.b2 s.a1 s.a2 st.2.x1 st.2.x2 st.2.y1 st.2.y2 st.2.e) (istep s l) iInv l.length r (fun i st hi hst => by
    obtain ⟨h1, h2⟩ := hst
    have hx := rd_in hb i
    refine ⟨⟨by simp [istep, h1], nextP_ok h2 hx⟩, ?_⟩
    obtain ⟨ht, hlo, hhi⟩ := tOf_bd hs h2 hx
    rw [ev_shift]
    simp only [spec_Iir.l0]
    rw [ev_pos (by omega), ev_pos (by omega), ht, floor_eq _ 16384 (by omega) (by omega) (by omega), ev_sbind, end_eq, ev_sbind, ev_pos (by omega), w64 (n := (i : Int) + 1) (by omega) (by omega)]
    generalize ht2 : tOf s st.2 (rd l (i : Int)) = t at *
    rw [w64 (n := 16384 * (t / 16384)) (by omega) (by omega), w64 (n := t - 16384 * (t / 16384)) (by omega) (by omega), show t - 16384 * (t / 16384) = t % 16384 by omega]
    simp only [istep, nextP, ht2]) ([], p) ⟨rfl, hp⟩
  refine (g _).2.2 ?_
  rw [ev_shift]
  simp only [spec_Iir.l0]
  rw [ev_neg (by omega)]
  exact Ev.now _
def iirR (s : Sec) (p : Pst) (l : List Int) : List Int × Int × Int × Int × Int × Int × Bool := if IirOk s p l then ((irun s p l).1, (irun s p l).2.x1, (irun s p l).2.x2, (irun s p l).2.y1, (irun s p l).2.y2, (irun s p l).2.e, true) else ([], 0, 0, 0, 0, 0, false)
theorem secB (s : Sec) : inB 65536 [s.b0, s.b1, s.b2, s.a1, s.a2] = true ↔ SecOk s := by
  simp [inB, SecOk]
theorem pstB (p : Pst) : (inB 1000000 [p.x1, p.x2, p.y1, p.y2] = true ∧ 0 ≤ p.e ∧ p.e ≤ 16383) ↔ PstOk p := by
  simp [inB, PstOk]
  constructor
  · rintro ⟨⟨a, b, c, d⟩, e⟩
    exact ⟨a, b, c, d, e⟩
  · rintro ⟨a, b, c, d, e⟩
    exact ⟨⟨a, b, c, d⟩, e⟩
theorem implIir_ev (s : Sec) (p : Pst) (l : List Int) (hl : l.length ≤ 2000000) : Ev (fun k => impl_Iir.f k s.b0 s.b1 s.b2 s.a1 s.a2 p.x1 p.x2 p.y1 p.y2 p.e l) (iirR s p l) := by
  unfold impl_Iir.f iirR impl_Section_ok.f impl_Past_ok.f
  rw [ev_bind ((ev_bind (within_ev _ 65536 (by simp) (by omega) (by omega))).2 (Ev.now _))]
  by_cases h1 : SecOk s
  · rw [ev_pos ((secB s).2 h1)]
    by_cases h2 : inB 1000000 [p.x1, p.x2, p.y1, p.y2] = true
    · have e2 : Ev (fun k => (impl_within.f k [p.x1, p.x2, p.y1, p.y2] 1000000).bind fun t154 => if t154 = true then if p.e ≥ 0 then some (decide (p.e ≤ 16383)) else some false else some false) (decide (0 ≤ p.e ∧ p.e ≤ 16383)) := by
        rw [ev_bind (within_ev _ 1000000 (by simp) (by omega) (by omega)), ev_pos h2]
        by_cases h3 : p.e ≥ 0
        · rw [ev_pos h3, ev_some_iff, decide_eq_decide]
          exact ⟨fun h => ⟨h3, h⟩, fun h => h.2⟩
        · rw [ev_neg h3, ev_some_iff]
          symm
          rw [decide_eq_false_iff_not]
          exact fun h => h3 h.1
      rw [ev_bind e2]
      by_cases h3 : 0 ≤ p.e ∧ p.e ≤ 16383
      · have hP : PstOk p := (pstB p).1 ⟨h2, h3⟩
        rw [ev_pos (decide_eq_true h3), ev_bind (implSig_ev l hl)]
        by_cases h4 : sigB l = true
        · rw [ev_pos h4, ev_bind (within_ev l 1000000 hl (by omega) (by omega))]
          by_cases h5 : inB 1000000 l = true
          · rw [ev_pos h5, if_pos ⟨h1, hP, (sigB_iff.1 h4).1, h5⟩, ev_bind (implRun_ev s p l h1 hP (sigB_iff.1 h4).1 h5).1]
            exact Ev.now _
          · rw [ev_neg h5, if_neg (fun h => h5 h.2.2.2)]
            exact Ev.now _
        · rw [ev_neg h4, if_neg (fun h => h4 (sigB_iff.2 ⟨h.2.2.1, inB_iff.2 fun x hx => by have := inB_iff.1 h.2.2.2 x hx; omega⟩))]
          exact Ev.now _
      · rw [ev_neg (by simpa using h3), if_neg (fun h => h3 h.2.1.2.2.2.2)]
        exact Ev.now _
    · have e2 : Ev (fun k => (impl_within.f k [p.x1, p.x2, p.y1, p.y2] 1000000).bind fun t154 => if t154 = true then if p.e ≥ 0 then some (decide (p.e ≤ 16383)) else some false else some false) false := by
        rw [ev_bind (within_ev _ 1000000 (by simp) (by omega) (by omega)), ev_neg h2]
        exact Ev.now _
      rw [ev_bind e2, ev_neg (by simp), if_neg (fun h => h2 ((pstB p).2 h.2.1).1)]
      exact Ev.now _
  · rw [ev_neg (fun h => h1 ((secB s).1 h)), if_neg (fun h => h1 h.1)]
    exact Ev.now _
theorem specIir_ev (s : Sec) (p : Pst) (l : List Int) (hl : l.length ≤ 2000000) : Ev (fun k => spec_Iir.f k s.b0 s.b1 s.b2 s.a1 s.a2 p.x1 p.x2 p.y1 p.y2 p.e l) (iirR s p l) := by
  unfold spec_Iir.f iirR
  rw [ev_sbind]
  have ok : Ev (fun k => spec_l10Iir.f k s.b0 s.b1 s.b2 s.a1 s.a2 p.x1 p.x2 p.y1 p.y2 p.e l) (decide (IirOk s p l)) := by
    unfold spec_l10Iir.f
    rw [ev_bind (l9Wide_ev _ 65536 (by simp) (by omega) (by omega))]
    by_cases h1 : SecOk s
    · rw [ev_pos ((secB s).2 h1), ev_bind (l9Wide_ev _ 1000000 (by simp) (by omega) (by omega))]
      by_cases h2 : inB 1000000 [p.x1, p.x2, p.y1, p.y2] = true
      · rw [ev_pos h2, l1In_eq, ev_sbind]
        by_cases h3 : 0 ≤ p.e ∧ p.e ≤ 16383
        · have hP : PstOk p := (pstB p).1 ⟨h2, h3⟩
          rw [ev_pos (decide_eq_true h3)]
          by_cases h4 : (l.length : Int) ≤ 512
          · rw [ev_pos h4, ev_bind (l9Wide_ev l 1000000 hl (by omega) (by omega)), ev_some_iff]
            by_cases h5 : inB 1000000 l = true
            · rw [h5]
              symm
              exact decide_eq_true ⟨h1, hP, by omega, h5⟩
            · rw [decide_eq_false (fun h => h5 h.2.2.2)]
              simpa using h5
          · rw [ev_neg h4, ev_some_iff]
            symm
            exact decide_eq_false (fun h => h4 (by have := h.2.2.1; omega))
        · rw [ev_neg (by simpa using h3), ev_some_iff]
          symm
          exact decide_eq_false (fun h => h3 h.2.1.2.2.2.2)
      · rw [ev_neg h2, ev_some_iff]
        symm
        exact decide_eq_false (fun h => h2 ((pstB p).2 h.2.1).1)
    · rw [ev_neg (fun h => h1 ((secB s).1 h)), ev_some_iff]
      symm
      exact decide_eq_false (fun h => h1 h.1)
  rw [ev_bind ok]
  by_cases h : IirOk s p l
  · rw [ev_pos (decide_eq_true h), if_pos h]
    exact specRun_ev s p l h.1 h.2.1 h.2.2.1 h.2.2.2
  · rw [ev_neg (by simpa using h), if_neg h]
    exact Ev.now _
theorem iirR_len (s : Sec) (p : Pst) (l : List Int) (hl : l.length ≤ 2000000) : (iirR s p l).1.length ≤ 2000000 := by
  unfold iirR
  by_cases h : IirOk s p l
  · rw [if_pos h]
    have := (implRun_ev s p l h.1 h.2.1 h.2.2.1 h.2.2.2).2.1
    show (irun s p l).1.length ≤ 2000000
    omega
  · rw [if_neg h]
    simp
end Go.Proofs.Ytlgepbckgfcklaa.IirP
