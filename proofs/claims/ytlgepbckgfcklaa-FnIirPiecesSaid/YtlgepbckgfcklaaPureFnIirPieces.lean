/- The pure part of FnIirPieces: a section run over a signal in two pieces tells what it tells in one. No conditions. -/
import Derived.Test.YtlgepbckgfcklaaQFnIirPiecesx7
import Derived.Test.YtlgepbckgfcklaaBase
namespace Go.Proofs.Ytlgepbckgfcklaa.Pure
open Go.RowKit Go.Proofs.Ytlgepbckgfcklaa.QFnIirPieces Go.Proofs.YtlgepbckgfcklaaW.PrintWords Go.Proofs.YtlgepbckgfcklaaW.PrintLast
open Go.Proofs.Ytlgepbckgfcklaa.Base
set_option linter.unusedVariables false
set_option linter.unusedSimpArgs false
theorem within_ev (l : List Int) (m : Int) (hl : l.length ≤ 2000000) (h0 : 0 ≤ m) (h1 : m ≤ 1000000000000) : Ev (fun k => impl_within.f k l m) (inB m l) := by
  unfold impl_within.f
  rw [inB_range]
  rw [all_iff (fun k i => impl_within.l0 k m l (l.length : Int) i) (fun i => decide (-m ≤ rd l (i : Int)) && decide (rd l (i : Int) ≤ m)) l.length _ false]
  · split
    · rename_i hp
      rw [hp]
      exact Ev.step (fun k => by simp only [impl_within.l0]; rw [if_neg (by omega)]) (Ev.now _)
    · rename_i hp
      simpa using hp
  · intro i hi
    by_cases p : -m ≤ rd l (i : Int) ∧ rd l (i : Int) ≤ m
    · rw [if_pos (by simpa using p)]
      rw [ev_shift]
      simp only [impl_within.l0]
      rw [ev_pos (by omega), ev_pos (by omega), ev_pos (by omega), w64 (n := -m) (by omega) (by omega), ev_neg (by omega), ev_neg (by omega), w64 (by omega) (by omega)]
    · rw [if_neg (by simpa using p)]
      rw [ev_shift]
      simp only [impl_within.l0]
      rw [ev_pos (by omega), ev_pos (by omega), ev_pos (by omega), w64 (n := -m) (by omega) (by omega)]
      by_cases q : rd l (i : Int) < -m
      · rw [ev_pos q, ev_some_iff]
      · rw [ev_neg q, ev_pos (by omega), ev_some_iff]

theorem implSig_ev (l : List Int) (hl : l.length ≤ 2000000) : Ev (fun k => impl_SignalOk.f k l) (sigB l) := by
  unfold impl_SignalOk.f
  by_cases h : (l.length : Int) ≤ 512
  · rw [ev_pos h]
    rw [ev_bind (within_ev l 1000000000 hl (by omega) (by omega)), ev_some_iff, sigB, decide_eq_true (by omega : l.length ≤ 512), Bool.true_and]
  · rw [ev_neg h]
    rw [ev_some_iff, sigB, decide_eq_false (by omega : ¬ l.length ≤ 512), Bool.false_and]


theorem l1In_eq (a b c : Int) : spec_l1In.f a b c = some (decide (b ≤ a ∧ a ≤ c)) := by
  unfold spec_l1In.f
  by_cases h : a ≥ b
  · rw [if_pos h]
    congr 1
    rw [decide_eq_decide]
    omega
  · rw [if_neg h]
    congr 1
    symm
    rw [decide_eq_false_iff_not]
    omega

theorem l9Wide_ev (l : List Int) (m : Int) (hl : l.length ≤ 2000000) (h0 : 0 ≤ m) (h1 : m ≤ 1000000000000) : Ev (fun k => spec_l9Wide.f k l m) (inB m l) := by
  unfold spec_l9Wide.f
  rw [inB_range]
  rw [all_iff (fun k i => spec_l9Wide.l0 k l m i) (fun i => decide (-m ≤ rd l (i : Int)) && decide (rd l (i : Int) ≤ m)) l.length _ false]
  · split
    · rename_i hp
      rw [hp]
      exact Ev.step (fun k => by simp only [spec_l9Wide.l0]; rw [if_neg (by omega)]) (Ev.now _)
    · rename_i hp
      simpa using hp
  · intro i hi
    by_cases p : -m ≤ rd l (i : Int) ∧ rd l (i : Int) ≤ m
    · rw [if_pos (by simpa using p)]
      rw [ev_shift]
      simp only [spec_l9Wide.l0]
      rw [ev_pos (by omega), ev_pos (by omega), w64 (n := -m) (by omega) (by omega), l1In_eq]
      simp only [Option.bind_some]
      rw [ev_pos (by simpa using p), w64 (by omega) (by omega)]
    · rw [if_neg (by simpa using p)]
      rw [ev_shift]
      simp only [spec_l9Wide.l0]
      rw [ev_pos (by omega), ev_pos (by omega), w64 (n := -m) (by omega) (by omega), l1In_eq]
      simp only [Option.bind_some]
      rw [ev_neg (by simpa using p), ev_some_iff]

theorem floor_eq (a b : Int) (hb : 0 < b) (h0 : -4611686018427387904 ≤ a / b) (h1 : a / b ≤ 4611686018427387904) : spec_l5Floor.f a b = some (a / b) := by
  unfold spec_l5Floor.f
  rw [if_neg (by omega)]
  have e1 := Int.tdiv_eq_ediv (a := a) (b := b)
  have e2 := Int.tmod_eq_emod (a := a) (b := b)
  have h2 := Int.emod_nonneg a (by omega : b ≠ 0)
  have h3 := Int.emod_lt_of_pos a hb
  by_cases c : 0 ≤ a ∨ b ∣ a
  · rw [if_pos c] at e1 e2
    rw [e1, e2, if_neg (by omega), w64 (by omega) (by omega), Int.add_zero]
  · rw [if_neg c] at e1 e2
    have s : b.sign = 1 := Int.sign_eq_one_of_pos hb
    have n : (b.natAbs : Int) = b := by omega
    rw [e1, e2, if_pos (by omega), s, w64 (n := a / b + 1) (by omega) (by omega), w64 (by omega) (by omega), Int.add_sub_cancel]

theorem div_bounds {a d : Int} (hd : 0 < d) (h0 : -4000000000000000000 ≤ a) (h1 : a ≤ 4000000000000000000) : -4000000000000000000 ≤ a / d ∧ a / d ≤ 4000000000000000000 := by
  have e1 : -4000000000000000000 ≤ a / d := (Int.le_ediv_iff_mul_le hd).2 (by omega)
  have e2 : a / d < 4000000000000000001 := (Int.ediv_lt_iff_lt_mul hd).2 (by omega)
  omega
theorem down_eq (a d : Int) (hd : 0 < d) (hd1 : d ≤ 4000000000000000000) (h0 : -4000000000000000000 ≤ a) (h1 : a ≤ 4000000000000000000) : impl_down.f a d = some (a / d, a % d) := by
  unfold impl_down.f
  rw [if_neg (by omega)]
  have b := div_bounds hd h0 h1
  have e1 := Int.tdiv_eq_ediv (a := a) (b := d)
  have e2 := Int.tmod_eq_emod (a := a) (b := d)
  have h2 := Int.emod_nonneg a (by omega : d ≠ 0)
  have h3 := Int.emod_lt_of_pos a hd
  by_cases c : 0 ≤ a ∨ d ∣ a
  · rw [if_pos c] at e1 e2
    have e3 : a.tmod d = a % d := by omega
    have e4 : a.tdiv d = a / d := by omega
    rw [e3, e4, if_neg (by omega), w64 (by omega) (by omega)]
  · rw [if_neg c] at e1 e2
    have s : d.sign = 1 := Int.sign_eq_one_of_pos hd
    have n : (d.natAbs : Int) = d := by omega
    rw [e1, e2, if_pos (by omega), s, n, w64 (n := a / d + 1) (by omega) (by omega), w64 (by omega) (by omega), Int.add_sub_cancel, Int.sub_add_cancel, w64 (by omega) (by omega)]

def clampM (x : Int) : Int := if x < -1000000 then -1000000 else if x > 1000000 then 1000000 else x
theorem clampM_bd (x : Int) : -1000000 ≤ clampM x ∧ clampM x ≤ 1000000 := by
  unfold clampM
  split
  · omega
  · split <;> omega
/-- x1, x2, y1, y2, e -/
structure Pst where
  x1 : Int
  x2 : Int
  y1 : Int
  y2 : Int
  e : Int
structure Sec where
  b0 : Int
  b1 : Int
  b2 : Int
  a1 : Int
  a2 : Int
def tOf (s : Sec) (p : Pst) (x : Int) : Int := s.b0 * x + s.b1 * p.x1 + s.b2 * p.x2 - s.a1 * p.y1 - s.a2 * p.y2 + p.e
def nextP (s : Sec) (p : Pst) (x : Int) : Pst := ⟨x, p.x1, clampM (tOf s p x / 16384), p.y1, tOf s p x % 16384⟩
def istep (s : Sec) (l : List Int) (i : Nat) (st : List Int × Pst) : List Int × Pst := (st.1 ++ [clampM (tOf s st.2 (rd l (i : Int)) / 16384)], nextP s st.2 (rd l (i : Int)))
def irun (s : Sec) (p : Pst) (l : List Int) : List Int × Pst := iter (istep s l) l.length ([], p)
def SecOk (s : Sec) : Prop := (-65536 ≤ s.b0 ∧ s.b0 ≤ 65536) ∧ (-65536 ≤ s.b1 ∧ s.b1 ≤ 65536) ∧ (-65536 ≤ s.b2 ∧ s.b2 ≤ 65536) ∧ (-65536 ≤ s.a1 ∧ s.a1 ≤ 65536) ∧ (-65536 ≤ s.a2 ∧ s.a2 ≤ 65536)
def PstOk (p : Pst) : Prop := (-1000000 ≤ p.x1 ∧ p.x1 ≤ 1000000) ∧ (-1000000 ≤ p.x2 ∧ p.x2 ≤ 1000000) ∧ (-1000000 ≤ p.y1 ∧ p.y1 ≤ 1000000) ∧ (-1000000 ≤ p.y2 ∧ p.y2 ≤ 1000000) ∧ (0 ≤ p.e ∧ p.e ≤ 16383)
def IirOk (s : Sec) (p : Pst) (l : List Int) : Prop := SecOk s ∧ PstOk p ∧ l.length ≤ 512 ∧ inB 1000000 l = true
instance (s : Sec) : Decidable (SecOk s) := by unfold SecOk; infer_instance
instance (p : Pst) : Decidable (PstOk p) := by unfold PstOk; infer_instance
instance (s : Sec) (p : Pst) (l : List Int) : Decidable (IirOk s p l) := by unfold IirOk; infer_instance
theorem pb {a b A B : Int} (ha : -A ≤ a ∧ a ≤ A) (hb : -B ≤ b ∧ b ≤ B) : -(A * B) ≤ a * b ∧ a * b ≤ A * B := by
  have h1 : (a * b).natAbs ≤ A.natAbs * B.natAbs := by rw [Int.natAbs_mul]; exact Nat.mul_le_mul (by omega) (by omega)
  have h2 : (A * B).natAbs = A.natAbs * B.natAbs := Int.natAbs_mul A B
  have h3 : 0 ≤ A * B := Int.mul_nonneg (by omega) (by omega)
  omega
theorem tOf_bd {s : Sec} {p : Pst} {x : Int} (hs : SecOk s) (hp : PstOk p) (hx : -1000000 ≤ x ∧ x ≤ 1000000) :
    (wrap64 ((wrap64 ((wrap64 ((wrap64 ((wrap64 ((wrap64 (s.b0 * x)) + (wrap64 (s.b1 * p.x1)))) + (wrap64 (s.b2 * p.x2)))) - (wrap64 (s.a1 * p.y1)))) - (wrap64 (s.a2 * p.y2)))) + p.e)) = tOf s p x ∧ -400000000000 ≤ tOf s p x ∧ tOf s p x ≤ 400000000000 := by
  obtain ⟨s0, s1, s2, s3, s4⟩ := hs
  obtain ⟨p0, p1, p2, p3, p4⟩ := hp
  have h0 := pb s0 hx
  have h1 := pb s1 p0
  have h2 := pb s2 p1
  have h3 := pb s3 p2
  have h4 := pb s4 p3
  unfold tOf
  generalize s.b0 * x = q0 at *
  generalize s.b1 * p.x1 = q1 at *
  generalize s.b2 * p.x2 = q2 at *
  generalize s.a1 * p.y1 = q3 at *
  generalize s.a2 * p.y2 = q4 at *
  refine ⟨?_, by omega, by omega⟩
  rw [w64 (n := q0) (by omega) (by omega), w64 (n := q1) (by omega) (by omega), w64 (n := q2) (by omega) (by omega), w64 (n := q3) (by omega) (by omega), w64 (n := q4) (by omega) (by omega)]
  rw [w64 (n := q0 + q1) (by omega) (by omega), w64 (n := q0 + q1 + q2) (by omega) (by omega), w64 (n := q0 + q1 + q2 - q3) (by omega) (by omega), w64 (n := q0 + q1 + q2 - q3 - q4) (by omega) (by omega), w64 (by omega) (by omega)]
theorem nextP_ok {s : Sec} {p : Pst} {x : Int} (hp : PstOk p) (hx : -1000000 ≤ x ∧ x ≤ 1000000) : PstOk (nextP s p x) := by
  obtain ⟨p0, p1, p2, p3, p4⟩ := hp
  have := clampM_bd (tOf s p x / 16384)
  exact ⟨hx, p0, this, p2, by show 0 ≤ tOf s p x % 16384 ∧ tOf s p x % 16384 ≤ 16383; omega⟩
def iInv (i : Nat) (st : List Int × Pst) : Prop := st.1.length = i ∧ PstOk st.2
theorem nearer_eq (x : Int) : impl_nearer.f x (-1000000) 1000000 = some (clampM x) := by
  unfold impl_nearer.f clampM mn mx
  congr 1
  repeat (first | omega | split)
theorem end_eq (x : Int) : spec_l10End.f x = some (clampM x) := by
  unfold spec_l10End.f clampM
  by_cases h1 : x > 1000000
  · rw [if_pos h1, if_neg (by omega), if_pos h1]
  · rw [if_neg h1]
    by_cases h2 : x < -1000000
    · rw [if_pos h2, if_pos h2]
    · rw [if_neg h2, if_neg h2, if_neg h1]
theorem rd_in {l : List Int} (h : inB 1000000 l = true) (i : Nat) : -1000000 ≤ rd l (i : Int) ∧ rd l (i : Int) ≤ 1000000 := by
  by_cases hi : i < l.length
  · exact inB_iff.1 h _ (rd_mem (by omega) (by omega))
  · have : rd l (i : Int) = 0 := by
      unfold rd
      rw [List.getD_eq_getElem?_getD, List.getElem?_eq_none (by simp; omega)]
      rfl
    rw [this]; omega
theorem implRun_ev (s : Sec) (p : Pst) (l : List Int) (hs : SecOk s) (hp : PstOk p) (hl : l.length ≤ 512) (hb : inB 1000000 l = true) :
    Ev (fun k => impl_iir.f k s.b0 s.b1 s.b2 s.a1 s.a2 p.x1 p.x2 p.y1 p.y2 p.e l) ((irun s p l).1, (irun s p l).2.x1, (irun s p l).2.x2, (irun s p l).2.y1, (irun s p l).2.y2, (irun s p l).2.e) ∧ iInv l.length (irun s p l) := by
  have g := fun r => for_iff (fun k (st : List Int × Pst) i => impl_iir.l0 k st.1 l (l.length : Int) i s.b0 s.b1 s.b2 s.a1 s.a2 st.2.x1 st.2.x2 st.2.y1 st.2.y2 st.2.e) (istep s l) iInv l.length r (fun i st hi hst => by
    obtain ⟨h1, h2⟩ := hst
    have hx := rd_in hb i
    refine ⟨⟨by simp [istep, h1], nextP_ok h2 hx⟩, ?_⟩
    obtain ⟨ht, hlo, hhi⟩ := tOf_bd hs h2 hx
    rw [ev_shift]
    simp only [impl_iir.l0]
    rw [ev_pos (by omega), ev_pos (by omega), ev_pos (by omega), ht, down_eq _ 16384 (by omega) (by omega) (by omega) (by omega), ev_sbind]
    dsimp only
    rw [nearer_eq, ev_sbind, ev_pos (by omega), w64 (by omega) (by omega)]
    rfl) ([], p) ⟨rfl, hp⟩
  refine ⟨(g _).2.2 ?_, (g ([], 0, 0, 0, 0, 0)).1⟩
  rw [ev_shift]
  simp only [impl_iir.l0]
  rw [ev_neg (by omega)]
  exact Ev.now _
theorem specRun_ev (s : Sec) (p : Pst) (l : List Int) (hs : SecOk s) (hp : PstOk p) (hl : l.length ≤ 512) (hb : inB 1000000 l = true) :
    Ev (fun k => spec_Iir.l0 k l [] 0 s.b0 s.b1 s.b2 s.a1 s.a2 p.x1 p.x2 p.y1 p.y2 p.e) ((irun s p l).1, (irun s p l).2.x1, (irun s p l).2.x2, (irun s p l).2.y1, (irun s p l).2.y2, (irun s p l).2.e, true) := by
  have g := fun r => for_iff (fun k (st : List Int × Pst) i => spec_Iir.l0 k l st.1 i s.b0 s.b1 s.b2 s.a1 s.a2 st.2.x1 st.2.x2 st.2.y1 st.2.y2 st.2.e) (istep s l) iInv l.length r (fun i st hi hst => by
    obtain ⟨h1, h2⟩ := hst
    have hx := rd_in hb i
    refine ⟨⟨by simp [istep, h1], nextP_ok h2 hx⟩, ?_⟩
    obtain ⟨ht, hlo, hhi⟩ := tOf_bd hs h2 hx
    rw [ev_shift]
    simp only [spec_Iir.l0]
    rw [ev_pos (by omega), ev_pos (by omega), ht, floor_eq _ 16384 (by omega) (by omega) (by omega), ev_sbind, end_eq, ev_sbind, ev_pos (by omega), w64 (n := (i : Int) + 1) (by omega) (by omega)]
    generalize ht2 : tOf s st.2 (rd l (i : Int)) = t at *
    rw [w64 (n := 16384 * (t / 16384)) (by omega) (by omega), w64 (n := t - 16384 * (t / 16384)) (by omega) (by omega), show t - 16384 * (t / 16384) = t % 16384 by omega]
    simp only [istep, nextP, ht2]) ([], p) ⟨rfl, hp⟩
  refine (g _).2.2 ?_
  rw [ev_shift]
  simp only [spec_Iir.l0]
  rw [ev_neg (by omega)]
  exact Ev.now _
def iirR (s : Sec) (p : Pst) (l : List Int) : List Int × Int × Int × Int × Int × Int × Bool := if IirOk s p l then ((irun s p l).1, (irun s p l).2.x1, (irun s p l).2.x2, (irun s p l).2.y1, (irun s p l).2.y2, (irun s p l).2.e, true) else ([], 0, 0, 0, 0, 0, false)
theorem secB (s : Sec) : inB 65536 [s.b0, s.b1, s.b2, s.a1, s.a2] = true ↔ SecOk s := by
  simp [inB, SecOk]
theorem pstB (p : Pst) : (inB 1000000 [p.x1, p.x2, p.y1, p.y2] = true ∧ 0 ≤ p.e ∧ p.e ≤ 16383) ↔ PstOk p := by
  simp [inB, PstOk]
  constructor
  · rintro ⟨⟨a, b, c, d⟩, e⟩
    exact ⟨a, b, c, d, e⟩
  · rintro ⟨a, b, c, d, e⟩
    exact ⟨⟨a, b, c, d⟩, e⟩
theorem implIir_ev (s : Sec) (p : Pst) (l : List Int) (hl : l.length ≤ 2000000) : Ev (fun k => impl_Iir.f k s.b0 s.b1 s.b2 s.a1 s.a2 p.x1 p.x2 p.y1 p.y2 p.e l) (iirR s p l) := by
  unfold impl_Iir.f iirR impl_Section_ok.f impl_Past_ok.f
  rw [ev_bind ((ev_bind (within_ev _ 65536 (by simp) (by omega) (by omega))).2 (Ev.now _))]
  by_cases h1 : SecOk s
  · rw [ev_pos ((secB s).2 h1)]
    by_cases h2 : inB 1000000 [p.x1, p.x2, p.y1, p.y2] = true
    · have e2 : Ev (fun k => (impl_within.f k [p.x1, p.x2, p.y1, p.y2] 1000000).bind fun t154 => if t154 = true then if p.e ≥ 0 then some (decide (p.e ≤ 16383)) else some false else some false) (decide (0 ≤ p.e ∧ p.e ≤ 16383)) := by
        rw [ev_bind (within_ev _ 1000000 (by simp) (by omega) (by omega)), ev_pos h2]
        by_cases h3 : p.e ≥ 0
        · rw [ev_pos h3, ev_some_iff, decide_eq_decide]
          exact ⟨fun h => ⟨h3, h⟩, fun h => h.2⟩
        · rw [ev_neg h3, ev_some_iff]
          symm
          rw [decide_eq_false_iff_not]
          exact fun h => h3 h.1
      rw [ev_bind e2]
      by_cases h3 : 0 ≤ p.e ∧ p.e ≤ 16383
      · have hP : PstOk p := (pstB p).1 ⟨h2, h3⟩
        rw [ev_pos (decide_eq_true h3), ev_bind (implSig_ev l hl)]
        by_cases h4 : sigB l = true
        · rw [ev_pos h4, ev_bind (within_ev l 1000000 hl (by omega) (by omega))]
          by_cases h5 : inB 1000000 l = true
          · rw [ev_pos h5, if_pos ⟨h1, hP, (sigB_iff.1 h4).1, h5⟩, ev_bind (implRun_ev s p l h1 hP (sigB_iff.1 h4).1 h5).1]
            exact Ev.now _
          · rw [ev_neg h5, if_neg (fun h => h5 h.2.2.2)]
            exact Ev.now _
        · rw [ev_neg h4, if_neg (fun h => h4 (sigB_iff.2 ⟨h.2.2.1, inB_iff.2 fun x hx => by have := inB_iff.1 h.2.2.2 x hx; omega⟩))]
          exact Ev.now _
      · rw [ev_neg (by simpa using h3), if_neg (fun h => h3 h.2.1.2.2.2.2)]
        exact Ev.now _
    · have e2 : Ev (fun k => (impl_within.f k [p.x1, p.x2, p.y1, p.y2] 1000000).bind fun t154 => if t154 = true then if p.e ≥ 0 then some (decide (p.e ≤ 16383)) else some false else some false) false := by
        rw [ev_bind (within_ev _ 1000000 (by simp) (by omega) (by omega)), ev_neg h2]
        exact Ev.now _
      rw [ev_bind e2, ev_neg (by simp), if_neg (fun h => h2 ((pstB p).2 h.2.1).1)]
      exact Ev.now _
  · rw [ev_neg (fun h => h1 ((secB s).1 h)), if_neg (fun h => h1 h.1)]
    exact Ev.now _
theorem specIir_ev (s : Sec) (p : Pst) (l : List Int) (hl : l.length ≤ 2000000) : Ev (fun k => spec_Iir.f k s.b0 s.b1 s.b2 s.a1 s.a2 p.x1 p.x2 p.y1 p.y2 p.e l) (iirR s p l) := by
  unfold spec_Iir.f iirR
  rw [ev_sbind]
  have ok : Ev (fun k => spec_l10Iir.f k s.b0 s.b1 s.b2 s.a1 s.a2 p.x1 p.x2 p.y1 p.y2 p.e l) (decide (IirOk s p l)) := by
    unfold spec_l10Iir.f
    rw [ev_bind (l9Wide_ev _ 65536 (by simp) (by omega) (by omega))]
    by_cases h1 : SecOk s
    · rw [ev_pos ((secB s).2 h1), ev_bind (l9Wide_ev _ 1000000 (by simp) (by omega) (by omega))]
      by_cases h2 : inB 1000000 [p.x1, p.x2, p.y1, p.y2] = true
      · rw [ev_pos h2, l1In_eq, ev_sbind]
        by_cases h3 : 0 ≤ p.e ∧ p.e ≤ 16383
        · have hP : PstOk p := (pstB p).1 ⟨h2, h3⟩
          rw [ev_pos (decide_eq_true h3)]
          by_cases h4 : (l.length : Int) ≤ 512
          · rw [ev_pos h4, ev_bind (l9Wide_ev l 1000000 hl (by omega) (by omega)), ev_some_iff]
            by_cases h5 : inB 1000000 l = true
            · rw [h5]
              symm
              exact decide_eq_true ⟨h1, hP, by omega, h5⟩
            · rw [decide_eq_false (fun h => h5 h.2.2.2)]
              simpa using h5
          · rw [ev_neg h4, ev_some_iff]
            symm
            exact decide_eq_false (fun h => h4 (by have := h.2.2.1; omega))
        · rw [ev_neg (by simpa using h3), ev_some_iff]
          symm
          exact decide_eq_false (fun h => h3 h.2.1.2.2.2.2)
      · rw [ev_neg h2, ev_some_iff]
        symm
        exact decide_eq_false (fun h => h2 ((pstB p).2 h.2.1).1)
    · rw [ev_neg (fun h => h1 ((secB s).1 h)), ev_some_iff]
      symm
      exact decide_eq_false (fun h => h1 h.1)
  rw [ev_bind ok]
  by_cases h : IirOk s p l
  · rw [ev_pos (decide_eq_true h), if_pos h]
    exact specRun_ev s p l h.1 h.2.1 h.2.2.1 h.2.2.2
  · rw [ev_neg (by simpa using h), if_neg h]
    exact Ev.now _
theorem iirR_len (s : Sec) (p : Pst) (l : List Int) (hl : l.length ≤ 2000000) : (iirR s p l).1.length ≤ 2000000 := by
  unfold iirR
  by_cases h : IirOk s p l
  · rw [if_pos h]
    have := (implRun_ev s p l h.1 h.2.1 h.2.2.1 h.2.2.2).2.1
    show (irun s p l).1.length ≤ 2000000
    omega
  · rw [if_neg h]
    simp

def runL (s : Sec) : Pst → List Int → List Int × Pst
  | p, [] => ([], p)
  | p, x :: xs => (clampM (tOf s p x / 16384) :: (runL s (nextP s p x) xs).1, (runL s (nextP s p x) xs).2)
theorem runL_append (s : Sec) (a b : List Int) (p : Pst) : runL s p (a ++ b) = ((runL s p a).1 ++ (runL s (runL s p a).2 b).1, (runL s (runL s p a).2 b).2) := by
  induction a generalizing p with
  | nil => rfl
  | cons x a ih => simp only [List.cons_append, runL, ih]
theorem irun_take (s : Sec) (p : Pst) (l : List Int) (n : Nat) (h : n ≤ l.length) : iter (istep s l) n ([], p) = runL s p (l.take n) := by
  induction n with
  | zero => rfl
  | succ n ih =>
    rw [iter_succ, ih (by omega)]
    have e : l.take (n + 1) = l.take n ++ [rd l (n : Int)] := by
      rw [List.take_add_one, List.getElem?_eq_getElem (by omega)]
      unfold rd
      rw [Int.toNat_natCast, List.getD_eq_getElem?_getD, List.getElem?_eq_getElem (by omega)]
      rfl
    rw [e, runL_append]
    rfl
theorem irun_eq (s : Sec) (p : Pst) (l : List Int) : irun s p l = runL s p l := by
  unfold irun
  rw [irun_take s p l l.length (Nat.le_refl _), List.take_length]
theorem runL_len (s : Sec) (l : List Int) (p : Pst) : (runL s p l).1.length = l.length := by
  induction l generalizing p with
  | nil => rfl
  | cons x l ih => simp [runL, ih]
theorem runL_past {s : Sec} {l : List Int} {p : Pst} (hp : PstOk p) (hl : ∀ x ∈ l, -1000000 ≤ x ∧ x ≤ 1000000) : PstOk (runL s p l).2 := by
  induction l generalizing p with
  | nil => exact hp
  | cons x l ih => exact ih (nextP_ok hp (hl x (by simp))) (fun y hy => hl y (by simp [hy]))
theorem iirR_ok {s : Sec} {p : Pst} {l : List Int} (h : IirOk s p l) : iirR s p l = ((runL s p l).1, (runL s p l).2.x1, (runL s p l).2.x2, (runL s p l).2.y1, (runL s p l).2.y2, (runL s p l).2.e, true) := by
  unfold iirR
  rw [if_pos h, irun_eq]
theorem iirR_no {s : Sec} {p : Pst} {l : List Int} (h : ¬ IirOk s p l) : iirR s p l = ([], 0, 0, 0, 0, 0, false) := by
  unfold iirR
  rw [if_neg h]
theorem pieces_ok {s : Sec} {p : Pst} {l : List Int} (h : IirOk s p l) (k : Nat) : IirOk s p (l.take k) ∧ IirOk s (runL s p (l.take k)).2 (l.drop k) := by
  obtain ⟨h1, h2, h3, h4⟩ := h
  have hb := inB_iff.1 h4
  refine ⟨⟨h1, h2, by rw [List.length_take]; omega, inB_iff.2 fun x hx => hb x (List.mem_of_mem_take hx)⟩, ⟨h1, ?_, by rw [List.length_drop]; omega, inB_iff.2 fun x hx => hb x (List.mem_of_mem_drop hx)⟩⟩
  exact runL_past h2 fun x hx => hb x (List.mem_of_mem_take hx)
theorem pieces (s : Sec) (p : Pst) (l : List Int) (k : Nat) : runL s p l = ((runL s p (l.take k)).1 ++ (runL s (runL s p (l.take k)).2 (l.drop k)).1, (runL s (runL s p (l.take k)).2 (l.drop k)).2) := by
  rw [← runL_append, List.take_append_drop]
theorem one_seven : iirR ⟨16384, 0, 0, 0, 0⟩ ⟨0, 0, 0, 0, 0⟩ [7] = ([7], 7, 0, 7, 0, 0, true) := by decide

/-! ### the cursor of a draw -/
def CurOk (b : List Int) (i : Int) : Prop := 0 ≤ i ∧ i ≤ (b.length : Int) ∧ b.length ≤ 2000000
theorem l1New_ev (b : List Int) (hb : b.length ≤ 2000000) : ∃ h, Ev (fun k => spec_l1New.f k b) (b, 0, h) := by
  unfold spec_l1New.f
  refine ⟨iter (fun i h => Go.bits .and .i64 (wrap64 ((wrap64 ((wrap64 (h * 131)) + (wrap64 (rd b (i : Int))))) + 7)) 1073741823) (min b.length 4000) (wrap64 (71933 + (b.length : Int))), ?_⟩
  rw [(for_iff (fun k h i => spec_l1New.l0 k b h i) (fun i h => Go.bits .and .i64 (wrap64 ((wrap64 ((wrap64 (h * 131)) + (wrap64 (rd b (i : Int))))) + 7)) 1073741823) (fun _ _ => True) (min b.length 4000) _ ?_ _ trivial).2]
  · rw [ev_shift]
    simp only [spec_l1New.l0]
    by_cases h : ((min b.length 4000 : Nat) : Int) < (b.length : Int)
    · rw [ev_pos h, ev_neg (by omega)]
      exact Ev.now _
    · rw [ev_neg h]
      exact Ev.now _
  · intro i s hi _
    refine ⟨trivial, ?_⟩
    rw [ev_shift]
    simp only [spec_l1New.l0]
    rw [ev_pos (by omega), ev_pos (by omega), ev_pos (by omega), w64 (n := (i : Int) + 1) (by omega) (by omega)]
theorem l1Byte_ok (b : List Int) (i h : Int) (hc : CurOk b i) : ∃ x i' h', spec_l1Byte.f b i h = some (x, i', h') ∧ CurOk b i' ∧ 0 ≤ x ∧ x ≤ 255 := by
  obtain ⟨h0, h1, h2⟩ := hc
  unfold spec_l1Byte.f
  by_cases c : i < (b.length : Int)
  · rw [if_pos c, if_pos h0]
    have := band_range
    refine ⟨_, _, _, rfl, ⟨?_, ?_, h2⟩, (band_range _ 255 (by omega) (by omega)).1, (band_range _ 255 (by omega) (by omega)).2⟩
    · rw [w64 (by omega) (by omega)]; omega
    · rw [w64 (by omega) (by omega)]; omega
  · rw [if_neg c]
    exact ⟨_, _, _, rfl, ⟨h0, h1, h2⟩, (band_range _ 255 (by omega) (by omega)).1, (band_range _ 255 (by omega) (by omega)).2⟩
theorem l1Below_ok (b : List Int) (i h n : Int) (hc : CurOk b i) : ∃ x i' h', spec_l1Below.f b i h n = some (x, i', h') ∧ CurOk b i' ∧ 0 ≤ x ∧ (0 < n → x < n) ∧ (n ≤ 0 → x = 0) := by
  unfold spec_l1Below.f
  by_cases c : n ≤ 0
  · rw [if_pos c]
    exact ⟨_, _, _, rfl, hc, by omega, by omega, fun _ => rfl⟩
  · rw [if_neg c]
    by_cases d : n ≤ 256
    · rw [if_pos d]
      obtain ⟨x, i1, h1, e, hc1, hx0, hx1⟩ := l1Byte_ok b i h hc
      rw [e]
      simp only [Option.bind_some]
      rw [if_neg (by omega)]
      refine ⟨_, _, _, rfl, hc1, ?_, fun _ => ?_, fun h => absurd h c⟩
      · exact Int.tmod_nonneg _ hx0
      · exact Int.tmod_lt_of_pos _ (by omega)
    · rw [if_neg d]
      obtain ⟨x, i1, h1, e, hc1, hx0, hx1⟩ := l1Byte_ok b i h hc
      rw [e]
      simp only [Option.bind_some]
      obtain ⟨y, i2, h2, e, hc2, hy0, hy1⟩ := l1Byte_ok b i1 h1 hc1
      rw [e]
      simp only [Option.bind_some]
      obtain ⟨z, i3, h3, e, hc3, hz0, hz1⟩ := l1Byte_ok b i2 h2 hc2
      rw [e]
      simp only [Option.bind_some]
      obtain ⟨w, i4, h4, e, hc4, hw0, hw1⟩ := l1Byte_ok b i3 h3 hc3
      rw [e]
      simp only [Option.bind_some]
      rw [if_neg (by omega)]
      refine ⟨_, _, _, rfl, hc4, ?_, fun _ => ?_, fun h => absurd h c⟩
      · refine Int.tmod_nonneg _ ?_
        rw [w64 (n := x * 16777216) (by omega) (by omega), w64 (n := y * 65536) (by omega) (by omega), w64 (n := z * 256) (by omega) (by omega), w64 (n := x * 16777216 + y * 65536) (by omega) (by omega), w64 (n := x * 16777216 + y * 65536 + z * 256) (by omega) (by omega), w64 (by omega) (by omega)]
        omega
      · exact Int.tmod_lt_of_pos _ (by omega)
theorem l1Once_ok (b : List Int) (i h n : Int) (hc : CurOk b i) : ∃ t i' h', spec_l1Once.f b i h n = some (t, i', h') ∧ CurOk b i' := by
  unfold spec_l1Once.f
  obtain ⟨x, i1, h1, e, hc1, _⟩ := l1Below_ok b i h n hc
  rw [e]
  exact ⟨_, _, _, rfl, hc1⟩

theorem l1PickInt_ok (b : List Int) (i h : Int) (l : List Int) (hl : 0 < l.length) (hc : CurOk b i) : ∃ x i' h', spec_l1PickInt.f b i h l = some (x, i', h') ∧ CurOk b i' ∧ x ∈ l := by
  unfold spec_l1PickInt.f
  obtain ⟨x, i1, h1, e, hc1, h0, hx, _⟩ := l1Below_ok b i h (l.length : Int) hc
  rw [e]
  simp only [Option.bind_some]
  have := hx (by omega)
  rw [if_pos h0, if_pos this]
  exact ⟨_, _, _, rfl, hc1, rd_mem h0 this⟩

theorem l1Size_eq (l : List Int) (m : Int) (hl : l.length ≤ 2000000) (hm : 2 ≤ m) : ∃ s, spec_l1Size.f l m = some s ∧ 2 ≤ s ∧ s ≤ m := by
  unfold spec_l1Size.f
  rw [w64 (n := (l.length : Int) / 20) (by omega) (by omega), w64 (by omega) (by omega)]
  by_cases h : 2 + (l.length : Int) / 20 > m
  · rw [if_pos h]
    exact ⟨m, rfl, hm, by omega⟩
  · rw [if_neg h]
    exact ⟨_, rfl, by omega, by omega⟩



theorem l7DrawSmallLoop (b : List Int) : ∀ (n : Nat) (s : List Int) (i h : Int), CurOk b i → s.length + n ≤ 1000000 →
    ∃ r i' h', Ev (fun k => spec_l7DrawSmall.l0 k s (n : Int) b i h) (r, i', h') ∧ CurOk b i' ∧ r.length ≤ s.length + n + 1 := by
  intro n
  induction n with
  | zero =>
    intro s i h hc hn
    obtain ⟨t, i1, h1, e, hc1⟩ := l1Once_ok b i h 30 hc
    by_cases ht : t = true
    · obtain ⟨x, i2, h2, e2, hc2, _⟩ := l1PickInt_ok b i1 h1 [1000001, (-1000001), 1000000001] (by simp) hc1
      refine ⟨s ++ [x], i2, h2, ?_, hc2, by simp⟩
      rw [ev_shift]
      simp only [spec_l7DrawSmall.l0, e, Option.bind_some]
      rw [ev_neg (by omega), ev_pos ht]
      simp only [e2, Option.bind_some]
      rw [ev_pos (by omega)]
      exact Ev.now _
    · refine ⟨s, i1, h1, ?_, hc1, by omega⟩
      rw [ev_shift]
      simp only [spec_l7DrawSmall.l0, e, Option.bind_some]
      rw [ev_neg (by omega), ev_neg ht]
      exact Ev.now _
  | succ n ih =>
    intro s i h hc hn
    obtain ⟨x, i1, h1, e, hc1, _⟩ := l1Below_ok b i h 2001 hc
    obtain ⟨t, i2, h2, e2, hc2⟩ := l1Once_ok b i1 h1 40 hc1
    have e9 : ((n + 1 : Nat) : Int) - 1 = (n : Int) := by omega
    by_cases ht : t = true
    · obtain ⟨y, i3, h3, e3, hc3, _⟩ := l1PickInt_ok b i2 h2 [1000000, (-1000000)] (by simp) hc2
      obtain ⟨r, i4, h4, e4, hc4, hr⟩ := ih ((s ++ [wrap64 (x - 1000)]).set ((((s ++ [wrap64 (x - 1000)]).length : Int) - 1).toNat) y) i3 h3 hc3 (by simp; omega)
      have el : (s ++ [wrap64 (x - 1000)]).length = s.length + 1 := by simp
      refine ⟨r, i4, h4, ?_, hc4, by simp at hr; omega⟩
      rw [ev_shift]
      simp only [spec_l7DrawSmall.l0, e, Option.bind_some]
      rw [ev_pos (by omega), ev_pos (by omega)]
      simp only [e2, Option.bind_some]
      rw [ev_pos ht]
      simp only [e3, Option.bind_some]
      rw [w64 (n := ((s ++ [wrap64 (x - 1000)]).length : Int) - 1) (by omega) (by omega), ev_pos (by omega), ev_pos (by omega), w64 (n := ((n + 1 : Nat) : Int) - 1) (by omega) (by omega), e9]
      exact e4
    · obtain ⟨r, i4, h4, e4, hc4, hr⟩ := ih (s ++ [wrap64 (x - 1000)]) i2 h2 hc2 (by simp; omega)
      refine ⟨r, i4, h4, ?_, hc4, by simp at hr; omega⟩
      rw [ev_shift]
      simp only [spec_l7DrawSmall.l0, e, Option.bind_some]
      rw [ev_pos (by omega), ev_pos (by omega)]
      simp only [e2, Option.bind_some]
      rw [ev_neg ht, w64 (n := ((n + 1 : Nat) : Int) - 1) (by omega) (by omega), e9]
      exact e4
theorem l7DrawSmall_ev (b : List Int) (i h m : Int) (hc : CurOk b i) (h0 : 0 ≤ m) (h1 : m ≤ 1000) :
    ∃ r i' h', Ev (fun k => spec_l7DrawSmall.f k b i h m) (r, i', h') ∧ CurOk b i' ∧ (r.length : Int) ≤ m + 1 := by
  unfold spec_l7DrawSmall.f
  rw [w64 (by omega) (by omega)]
  obtain ⟨x, i1, h1', e, hc1, hx0, hx, _⟩ := l1Below_ok b i h (m + 1) hc
  rw [e]
  simp only [Option.bind_some]
  have := hx (by omega)
  obtain ⟨r, i2, h2, e2, hc2, hr⟩ := l7DrawSmallLoop b x.toNat [] i1 h1' hc1 (by simp; omega)
  rw [Int.toNat_of_nonneg hx0] at e2
  exact ⟨r, i2, h2, e2, hc2, by simp at hr; omega⟩

theorem l10DrawSection_ev (b : List Int) (i h : Int) (hc : CurOk b i) :
    ∃ s0 s1 s2 s3 s4 i' h', Ev (fun k => spec_l10DrawSection.f k b i h) (s0, s1, s2, s3, s4, i', h') ∧ CurOk b i' := by
  have tail : ∀ (i h z0 z1 z2 z3 z4 : Int), CurOk b i → ∃ s0 i' h', Ev (fun k => spec_l10DrawSection.j0 k b i h z0 z1 z2 z3 z4) (s0, z1, z2, z3, z4, i', h') ∧ CurOk b i' := by
    intro i h z0 z1 z2 z3 z4 hc
    obtain ⟨t, i1, h1, e, hc1⟩ := l1Once_ok b i h 12 hc
    by_cases ht : t = true
    · obtain ⟨x, i2, h2, e2, hc2, _⟩ := l1PickInt_ok b i1 h1 [65536, (-65536), (-65537)] (by simp) hc1
      refine ⟨x, i2, h2, ?_, hc2⟩
      rw [ev_shift]
      simp only [spec_l10DrawSection.j0, e, Option.bind_some]
      rw [ev_pos ht]
      simp only [e2, Option.bind_some]
      exact Ev.now _
    · refine ⟨z0, i1, h1, ?_, hc1⟩
      rw [ev_shift]
      simp only [spec_l10DrawSection.j0, e, Option.bind_some]
      rw [ev_neg ht]
      exact Ev.now _
  unfold spec_l10DrawSection.f
  obtain ⟨x0, i0, h0, e0, hc0, _⟩ := l1Below_ok b i h 32769 hc
  obtain ⟨x1, i1, h1, e1, hc1, _⟩ := l1Below_ok b i0 h0 32769 hc0
  obtain ⟨x2, i2, h2, e2, hc2, _⟩ := l1Below_ok b i1 h1 16385 hc1
  obtain ⟨x3, i3, h3, e3, hc3, _⟩ := l1Below_ok b i2 h2 50000 hc2
  obtain ⟨x4, i4, h4, e4, hc4, _⟩ := l1Below_ok b i3 h3 16000 hc3
  obtain ⟨t, i5, h5, e5, hc5⟩ := l1Once_ok b i4 h4 6 hc4
  simp only [e0, e1, e2, e3, e4, e5, Option.bind_some]
  by_cases ht : t = true
  · obtain ⟨x, i6, h6, e6, hc6, _⟩ := l1PickInt_ok b i5 h5 [65536, (-65536), 65537, 32768, (-32768)] (by simp) hc5
    obtain ⟨s0, i7, h7, e7, hc7⟩ := tail i6 h6 x0 (wrap64 (x1 - 16384)) x2 x x4 hc6
    refine ⟨s0, wrap64 (x1 - 16384), x2, x, x4, i7, h7, ?_, hc7⟩
    rw [ev_pos ht]
    simp only [e6, Option.bind_some]
    exact e7
  · obtain ⟨s0, i7, h7, e7, hc7⟩ := tail i5 h5 x0 (wrap64 (x1 - 16384)) x2 (wrap64 (x3 - 25000)) x4 hc5
    refine ⟨s0, wrap64 (x1 - 16384), x2, wrap64 (x3 - 25000), x4, i7, h7, ?_, hc7⟩
    rw [ev_neg ht]
    exact e7
theorem DrawIir_ev (b : List Int) (hb : b.length ≤ 2000000) : ∃ s0 s1 s2 s3 s4 p0 p1 p2 p3 p4 l, Ev (fun k => spec_DrawIir.f k b) (s0, s1, s2, s3, s4, p0, p1, p2, p3, p4, l) ∧ l.length ≤ 2000 := by
  have fin : ∀ (i h : Int), CurOk b i → ∃ s0 s1 s2 s3 s4 l, l.length ≤ 2000 ∧ ∀ p0 p1 p2 p3 p4 : Int, Ev (fun k => (spec_l10DrawSection.f k b i h).bind fun t => (spec_l1Size.f b 30).bind fun u => (spec_l7DrawSmall.f k b t.2.2.2.2.2.1 t.2.2.2.2.2.2 u).bind fun v => some (t.1, t.2.1, t.2.2.1, t.2.2.2.1, t.2.2.2.2.1, p0, p1, p2, p3, p4, v.1)) (s0, s1, s2, s3, s4, p0, p1, p2, p3, p4, l) := by
    intro i h hc
    obtain ⟨s0, s1, s2, s3, s4, i1, h1, e1, hc1⟩ := l10DrawSection_ev b i h hc
    obtain ⟨z, e2, hz0, hz1⟩ := l1Size_eq b 30 hb (by omega)
    obtain ⟨l, i3, h3, e3, hc3, hl⟩ := l7DrawSmall_ev b i1 h1 z hc1 (by omega) (by omega)
    refine ⟨s0, s1, s2, s3, s4, l, by omega, fun p0 p1 p2 p3 p4 => ?_⟩
    rw [ev_bind e1]
    simp only [e2, Option.bind_some]
    rw [ev_bind e3]
    exact Ev.now _
  have join : ∀ (i h p0 p1 p2 p3 p4 : Int), CurOk b i → ∃ s0 s1 s2 s3 s4 q0 q1 q2 q3 q4 l, Ev (fun k => spec_DrawIir.j0 k b b i h p0 p1 p2 p3 p4) (s0, s1, s2, s3, s4, q0, q1, q2, q3, q4, l) ∧ l.length ≤ 2000 := by
    intro i h p0 p1 p2 p3 p4 hc
    obtain ⟨x, i1, h1, e, hc1, _⟩ := l1Below_ok b i h 25 hc
    by_cases c0 : x = 0
    · obtain ⟨y, i2, h2, e2, hc2, _⟩ := l1PickInt_ok b i1 h1 [1000000, (-1000000), 1000001] (by simp) hc1
      obtain ⟨s0, s1, s2, s3, s4, l, hl, ht⟩ := fin i2 h2 hc2
      refine ⟨s0, s1, s2, s3, s4, p0, p1, y, p3, p4, l, ?_, hl⟩
      rw [ev_shift]
      simp only [spec_DrawIir.j0, e, Option.bind_some]
      rw [ev_pos c0]
      simp only [e2, Option.bind_some]
      exact ht _ _ _ _ _
    · by_cases c1 : x = 1
      · obtain ⟨y, i2, h2, e2, hc2, _⟩ := l1PickInt_ok b i1 h1 [(-1), 16384] (by simp) hc1
        obtain ⟨s0, s1, s2, s3, s4, l, hl, ht⟩ := fin i2 h2 hc2
        refine ⟨s0, s1, s2, s3, s4, p0, p1, p2, p3, y, l, ?_, hl⟩
        rw [ev_shift]
        simp only [spec_DrawIir.j0, e, Option.bind_some]
        rw [ev_neg c0, ev_pos c1]
        simp only [e2, Option.bind_some]
        exact ht _ _ _ _ _
      · obtain ⟨s0, s1, s2, s3, s4, l, hl, ht⟩ := fin i1 h1 hc1
        refine ⟨s0, s1, s2, s3, s4, p0, p1, p2, p3, p4, l, ?_, hl⟩
        rw [ev_shift]
        simp only [spec_DrawIir.j0, e, Option.bind_some]
        rw [ev_neg c0, ev_neg c1]
        exact ht _ _ _ _ _
  unfold spec_DrawIir.f
  obtain ⟨h, e1⟩ := l1New_ev b hb
  obtain ⟨t, i0, h0, e, hc⟩ := l1Once_ok b 0 h 2 ⟨by omega, by omega, hb⟩
  by_cases ht : t = true
  · obtain ⟨x0, i1, h1, f0, hc0, _⟩ := l1Below_ok b i0 h0 200 hc
    obtain ⟨x1, i2, h2, f1, hc1, _⟩ := l1Below_ok b i1 h1 200 hc0
    obtain ⟨x2, i3, h3, f2, hc2, _⟩ := l1Below_ok b i2 h2 2000 hc1
    obtain ⟨x3, i4, h4, f3, hc3, _⟩ := l1Below_ok b i3 h3 2000 hc2
    obtain ⟨x4, i5, h5, f4, hc4, _⟩ := l1Below_ok b i4 h4 16384 hc3
    obtain ⟨s0, s1, s2, s3, s4, q0, q1, q2, q3, q4, l, ej, hl⟩ := join i5 h5 (wrap64 (x0 - 100)) (wrap64 (x1 - 100)) (wrap64 (x2 - 1000)) (wrap64 (x3 - 1000)) x4 hc4
    refine ⟨s0, s1, s2, s3, s4, q0, q1, q2, q3, q4, l, ?_, hl⟩
    rw [ev_bind e1]
    simp only [e, Option.bind_some]
    rw [ev_pos ht]
    simp only [f0, f1, f2, f3, f4, Option.bind_some]
    exact ej
  · obtain ⟨s0, s1, s2, s3, s4, q0, q1, q2, q3, q4, l, ej, hl⟩ := join i0 h0 0 0 0 0 0 hc
    refine ⟨s0, s1, s2, s3, s4, q0, q1, q2, q3, q4, l, ?_, hl⟩
    rw [ev_bind e1]
    simp only [e, Option.bind_some]
    rw [ev_neg ht]
    exact ej

theorem sameInts_ev (a b : List Int) (h : a.length ≤ 2000000) : Ev (fun k => laws_sameInts.f k a b) (decide (a = b)) := by
  unfold laws_sameInts.f
  by_cases e : a.length = b.length
  · rw [ev_pos (by omega)]
    rw [all_iff (fun k i => laws_sameInts.l0 k a b i) (fun i => decide (rd a (i : Int) = rd b (i : Int))) a.length _ false]
    · split
      · rename_i hp
        have : a = b := list_ext_rd e fun i hi => by simpa using range_all.1 hp i hi
        rw [decide_eq_true this]
        exact Ev.step (fun k => by simp only [laws_sameInts.l0]; rw [if_neg (by omega)]) (Ev.now _)
      · rename_i hp
        have : ¬ a = b := fun h => hp (by subst h; rw [range_all]; simp)
        simp [this]
    · intro i hi
      by_cases p : rd a (i : Int) = rd b (i : Int)
      · rw [if_pos (by simpa using p)]
        rw [ev_shift]
        simp only [laws_sameInts.l0]
        rw [ev_pos (by omega), ev_pos (by omega), ev_pos (by omega), ev_pos p, w64 (by omega) (by omega)]
      · rw [if_neg (by simpa using p)]
        rw [ev_shift]
        simp only [laws_sameInts.l0]
        rw [ev_pos (by omega), ev_pos (by omega), ev_pos (by omega), ev_neg p, ev_some_iff]
  · rw [ev_neg (by omega)]
    have : ¬ a = b := fun h => e (by rw [h])
    simp only [this, decide_false]
    exact Ev.now _
theorem big_eq (l : List Int) : laws_big.f l = some (decide ((l.length : Int) > 1048576)) := rfl


theorem byte_of {x : Int} (h : (Lit.int .u8 x).wf = true) : 0 ≤ x ∧ x ≤ 255 := by
  have h1 : IntKind.u8.min ≤ x ∧ x ≤ IntKind.u8.max := by simpa [Lit.wf] using h
  have e1 : IntKind.u8.min = 0 := by decide
  have e2 : IntKind.u8.max = 255 := by decide
  omega
theorem at_ok (b : List Int) (i : Int) (hb : b.length ≤ 2000000) (hw : ∀ x ∈ b, (Lit.int .u8 x).wf = true) (h0 : 0 ≤ i) (h1 : i ≤ 1000000) : ∃ v, laws_at.f b i = some v ∧ 0 ≤ v ∧ v ≤ 255 := by
  unfold laws_at.f
  by_cases h : i < (b.length : Int)
  · have := byte_of (hw _ (rd_mem h0 h))
    rw [if_pos h, if_pos h0, w64 (by omega) (by omega)]
    exact ⟨_, rfl, this.1, this.2⟩
  · rw [if_neg h, w64 (n := i * 7) (by omega) (by omega), w64 (by omega) (by omega)]
    exact ⟨_, rfl, Int.tmod_nonneg _ (by omega), by have := Int.tmod_lt_of_pos (i * 7 + (b.length : Int)) (by omega : (0 : Int) < 256); omega⟩

theorem tail_ok {s : Sec} {p : Pst} {l : List Int} (h : IirOk s p l) (k : Nat) :
    (runL s p (l.take k)).1 ++ (runL s (runL s p (l.take k)).2 (l.drop k)).1 = (runL s p l).1 ∧ (runL s (runL s p (l.take k)).2 (l.drop k)).2 = (runL s p l).2 := by
  have := pieces s p l k
  exact ⟨by rw [this], by rw [this]⟩
theorem FnIirPieces : laws_FnIirPieces.Pure := by
  intro l0 _ _ hw
  refine Ev.rounds (g := fun k => laws_FnIirPieces.f k l0) ?_
  unfold laws_FnIirPieces.f laws_big.f
  rw [ev_sbind]
  by_cases hb : (l0.length : Int) > 1048576
  · rw [ev_pos (decide_eq_true hb)]
    exact Ev.now _
  rw [ev_neg (by simpa using hb)]
  obtain ⟨s0, s1, s2, s3, s4, p0, p1, p2, p3, p4, l, e1, hl⟩ := DrawIir_ev l0 (by omega)
  rw [ev_bind e1]
  dsimp only
  have e2 := implIir_ev ⟨s0, s1, s2, s3, s4⟩ ⟨p0, p1, p2, p3, p4⟩ l (by omega)
  have e3 := specIir_ev ⟨s0, s1, s2, s3, s4⟩ ⟨p0, p1, p2, p3, p4⟩ l (by omega)
  by_cases h : IirOk ⟨s0, s1, s2, s3, s4⟩ ⟨p0, p1, p2, p3, p4⟩ l
  · rw [iirR_ok h] at e2 e3
    rw [ev_bind e2, ev_bind e3]
    dsimp only
    rw [ev_neg (by simp), ev_pos rfl]
    obtain ⟨v, ev, hv0, hv1⟩ := at_ok l0 2 (by omega) hw (by omega) (by omega)
    rw [ev, ev_sbind, w64 (n := (l.length : Int) + 1) (by omega) (by omega), ev_neg (by omega)]
    have hk : Int.tmod v ((l.length : Int) + 1) = v % ((l.length : Int) + 1) := Int.tmod_eq_emod_of_nonneg hv0
    rw [hk]
    have h0 := Int.emod_nonneg v (by omega : (l.length : Int) + 1 ≠ 0)
    have h1 := Int.emod_lt_of_pos v (by omega : 0 < (l.length : Int) + 1)
    generalize v % ((l.length : Int) + 1) = K at *
    rw [ev_pos h0, ev_pos (by omega)]
    obtain ⟨g1, g2⟩ := pieces_ok h K.toNat
    obtain ⟨f1, f2⟩ := tail_ok h K.toNat
    have e4 := implIir_ev ⟨s0, s1, s2, s3, s4⟩ ⟨p0, p1, p2, p3, p4⟩ (l.take K.toNat) (by rw [List.length_take]; omega)
    have e5 := implIir_ev ⟨s0, s1, s2, s3, s4⟩ (runL ⟨s0, s1, s2, s3, s4⟩ ⟨p0, p1, p2, p3, p4⟩ (l.take K.toNat)).2 (l.drop K.toNat) (by rw [List.length_drop]; omega)
    rw [iirR_ok g1] at e4
    rw [iirR_ok g2] at e5
    rw [ev_bind e4]
    dsimp only
    rw [ev_bind e5]
    dsimp only
    have n1 := runL_len ⟨s0, s1, s2, s3, s4⟩ l ⟨p0, p1, p2, p3, p4⟩
    have n2 := runL_len ⟨s0, s1, s2, s3, s4⟩ (l.take K.toNat) ⟨p0, p1, p2, p3, p4⟩
    have n3 := runL_len ⟨s0, s1, s2, s3, s4⟩ (l.drop K.toNat) (runL ⟨s0, s1, s2, s3, s4⟩ ⟨p0, p1, p2, p3, p4⟩ (l.take K.toNat)).2
    rw [List.length_take] at n2
    rw [List.length_drop] at n3
    rw [ev_pos rfl, ev_pos rfl, ev_sbind, ev_pos (by simp; omega), ev_sbind, ev_pos (by simp; omega), List.nil_append, f1, f2]
    rw [ev_bind (sameInts_ev _ _ (by omega)), ev_pos (by simp), ev_pos (by simp), n1]
    exact ev_some (by simp)
  · rw [iirR_no h] at e2 e3
    rw [ev_bind e2, ev_bind e3]
    dsimp only
    rw [ev_neg (by simp), ev_neg (by simp)]
    have e4 := implIir_ev ⟨16384, 0, 0, 0, 0⟩ ⟨0, 0, 0, 0, 0⟩ [7] (by simp)
    rw [one_seven] at e4
    rw [ev_bind e4]
    dsimp only
    rw [ev_pos rfl, ev_bind (sameInts_ev _ _ (by simp))]
    exact ev_some (by simp)

end Go.Proofs.Ytlgepbckgfcklaa.Pure
