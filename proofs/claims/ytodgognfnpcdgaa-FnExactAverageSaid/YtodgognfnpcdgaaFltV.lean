/- The walks of both Averages. -/
import Derived.Test.YtodgognfnpcdgaaFltU
namespace Go.Proofs.Ytodgognfnpcdgaa.FltV
open Go.RowKit Go.Proofs.Ytodgognfnpcdgaa.Flt Go.Proofs.Ytodgognfnpcdgaa.FltA Go.Proofs.Ytodgognfnpcdgaa.FltB Go.Proofs.Ytodgognfnpcdgaa.FltD Go.Proofs.Ytodgognfnpcdgaa.FltN Go.Proofs.Ytodgognfnpcdgaa.FltO Go.Proofs.Ytodgognfnpcdgaa.FltP Go.Proofs.Ytodgognfnpcdgaa.FltQ Go.Proofs.Ytodgognfnpcdgaa.FltR Go.Proofs.Ytodgognfnpcdgaa.FltT Go.Proofs.Ytodgognfnpcdgaa.FltU Go.Proofs.YtodgognfnpcdgaaW.PrintWords Go.Proofs.YtodgognfnpcdgaaW.PrintLast Go.Proofs.YtodgognfnpcdgaaW.PrintMore
set_option linter.unusedVariables false
set_option linter.unusedSimpArgs false
attribute [local go_sem] run_store_float

/-- the sum of the squares at place k of the rows ahead of i -/
def sumC (xs : List (List Nat)) (k : Nat) : Nat → Option Nat
  | 0 => cls 0
  | i + 1 => opC .add (sumC xs k i) (pw2 (cls ((xs.getD i []).getD (k * 2) 0)) (cls ((xs.getD i []).getD (k * 2 + 1) 0)))
def avgsC (xs : List (List Nat)) (n m : Nat) : List (Option Nat) := (List.range m).map fun k => opC .quo (sumC xs k n) (cls (floatOfInt .f64 (n : Int)))
theorem avgsC_succ (xs : List (List Nat)) (n m : Nat) : avgsC xs n (m + 1) = avgsC xs n m ++ [opC .quo (sumC xs m n) (cls (floatOfInt .f64 (n : Int)))] := by
  simp [avgsC, List.range_succ]
def width (xs : List (List Nat)) : Nat := (xs.getD 0 []).length / 2
def GoodI (xs : List (List Nat)) (i : Nat) : Prop := (xs.getD i []).length / 2 = width xs ∧ width xs ≤ 128
def AvOk (xs : List (List Nat)) (n : Nat) : Prop := (1 ≤ n ∧ n ≤ 128) ∧ ∀ i, i < n → GoodI xs i
open Classical in
noncomputable def averageC (xs : List (List Nat)) (n : Nat) : List (Option Nat) × Bool := if AvOk xs n then (avgsC xs n (width xs), true) else ([], false)
theorem average_no {xs : List (List Nat)} {n : Nat} (h : ¬ AvOk xs n) : averageC xs n = ([], false) := by unfold averageC; rw [if_neg h]
theorem average_yes {xs : List (List Nat)} {n : Nat} (h : AvOk xs n) : averageC xs n = (avgsC xs n (width xs), true) := by unfold averageC; rw [if_pos h]
/-- a row of floats of its own and a word come back, the floats of the classes r.1 -/
def RetA (r : List (Option Nat) × Bool) (w : World) (e : Ending) (w' : World) : Prop := ∃ v n rs, e = .returned (.tuple #[v, .bool r.2]) ∧ FOwn w' w.heap.size 24 1 v n rs ∧ rs.map cls = r.1 ∧ Below w.heap.size w w'
theorem retA_none {w w' : World} {v : Value} {r : List (Option Nat) × Bool} (hr : r = ([], false)) (ho : FOwn w' w.heap.size 24 1 v 0 []) (hb : Below w.heap.size w w') : RetA r w (.returned (.tuple #[v, .bool false])) w' := by
  subst hr
  exact ⟨v, 0, [], rfl, ho, rfl, hb⟩
def Avgs (w : World) (xs : List (Option Nat)) (v : Value) (wr : World) : Prop := ∃ n rs, FOwn wr w.heap.size 24 1 v n rs ∧ rs.map cls = xs ∧ Below w.heap.size w wr
theorem Avgs.len {w wr : World} {xs : List (Option Nat)} {v : Value} (h : Avgs w xs v wr) : ∃ rs, FOwn wr w.heap.size 24 1 v xs.length rs ∧ rs.map cls = xs := by
  obtain ⟨n, rs, ho, hr, _⟩ := h
  have : n = xs.length := by rw [← FOwn.len ho, ← hr, List.length_map]
  subst this
  exact ⟨rs, ho, hr⟩

set_option maxHeartbeats 2000000 in
theorem iavg_calls {A : Option Addr} {c n : Nat} {xs : List (List Nat)} (w : World) (hC : rowP.C w A n xs) (hc : n ≤ c) (hs : Small n xs) :
    Calls Try.prog 30 #[.slice A n c] w (RetA (averageC xs n) w) := by
  have hn := hs.few
  rcases Nat.eq_zero_or_pos n with h0 | hpos
  · subst h0
    go_enter Try.func30, Try.ntmps30
    go_wp2_with fail
    go_ret2
    exact retA_none (average_no (fun h => by have := h.1.1; omega)) ⟨World.ownsRow_nil _ _ _ _⟩ (Below.refl _ _)
  by_cases hbig : 128 < n
  · have hgt : decide ((128 : Int) < (n : Int)) = true := decide_eq_true (by omega)
    have hgt2 : decide (128 < n) = true := decide_eq_true hbig
    have hz : ((n : Int) == 0) = false := by simp; omega
    go_enter Try.func30, Try.ntmps30
    go_wp2_with fail
    go_ret2
    exact retA_none (average_no (fun h => by have := h.1.2; omega)) ⟨World.ownsRow_nil _ _ _ _⟩ (Below.refl _ _)
  have hgt : decide ((128 : Int) < (n : Int)) = false := decide_eq_false (by omega)
  have hgt2 : decide (128 < n) = false := decide_eq_false hbig
  have hz : ((n : Int) == 0) = false := by simp; omega
  go_enter Try.func30, Try.ntmps30
  go_wp2_with fail
  go_loopw [21] (fun i wr => ∃ j : Nat, j ≤ n ∧ i = .int .i64 j ∧ (∀ q, q < j → GoodI xs q) ∧ Below w.heap.size w wr) (fun i _ => n - (intOf i).toNat)
  case atStart => exact ⟨0, Nat.zero_le _, rfl, fun q hq => by omega, Below.refl _ _⟩
  case round =>
    obtain ⟨j, hj, rfl, hgood, hb⟩ := hrel
    obtain ⟨ad, A0, m0, c0, rfl, hx0, hmc0, hF0⟩ := at_rows (Kd.C_below hC hb) 0 hpos
    rw [Addr.add_zero'] at hx0
    have hw0 : width xs = m0 := by unfold width; have := hF0.1; omega
    by_cases hlt : j < n
    · obtain ⟨ad', A1, m1, c1, he, hx1, hmc1, hF1⟩ := at_rows (Kd.C_below hC hb) j hlt
      obtain rfl : ad = ad' := by injection he
      have hw1 : (xs.getD j []).length / 2 = m1 := by have := hF1.1; omega
      have hl2 : decide ((j : Int) < (n : Int)) = true := decide_eq_true (by omega)
      have hl3 : decide (j < n) = true := decide_eq_true hlt
      clear hF0 hF1 hmc1 hmc0 he
      by_cases hme : m1 = m0
      · by_cases hm128 : 128 < m0
        · have hmgt : decide ((128 : Int) < (m0 : Int)) = true := decide_eq_true (by omega)
          have hmgt2 : decide (128 < m0) = true := decide_eq_true hm128
          subst hme
          go_wp2_with fail
          go_ret2
          exact retA_none (average_no (fun h => by have := (h.2 j hlt).2; omega)) ⟨World.ownsRow_nil _ _ _ _⟩ hb
        · have hmgt : decide ((128 : Int) < (m0 : Int)) = false := decide_eq_false (by omega)
          have hmgt2 : decide (128 < m0) = false := decide_eq_false hm128
          have hgj : GoodI xs j := ⟨by omega, by omega⟩
          have HG := Lib.hid hgood
          have HW := Lib.hid hw0
          clear hgood hw0 hw1
          subst hme
          go_wp2_with fail
          go_roundw
          case rel => exact ⟨j + 1, by omega, by go_num, fun q hq => by
            by_cases e : q = j
            · rw [e]; exact hgj
            · exact HG.out q (by omega), hb⟩
          case measure => (simp [intOf]; try omega)
      · have hne : ((m1 : Int) != (m0 : Int)) = true := by simp; omega
        go_wp2_with fail
        go_ret2
        exact retA_none (average_no (fun h => by have := (h.2 j hlt).1; omega)) ⟨World.ownsRow_nil _ _ _ _⟩ hb
    · have hjn : j = n := by omega
      have hl2 : decide ((j : Int) < (n : Int)) = false := decide_eq_false (by omega)
      have hl3 : decide (j < n) = false := decide_eq_false hlt
      have hok : AvOk xs n := ⟨⟨by omega, by omega⟩, fun i hi => hgood i (by omega)⟩
      have hyes := average_yes hok
      rw [hw0] at hyes
      have hm0 : m0 ≤ 128 := by have := (hok.2 0 hpos).2; omega
      have hrows : ∀ i, i < n → (xs.getD i []).length / 2 = m0 := fun i hi => by have := (hok.2 i hi).1; omega
      have HR := Lib.hid hrows
      have HY := Lib.hid hyes
      have HB := Lib.hid hb
      obtain ⟨w1, rfl⟩ : ∃ w1, w1 = wr := ⟨wr, rfl⟩
      clear hgood hok hyes hrows hjn hF0 hmc0 hw0
      go_wp2_with fail
      go_loopw [6, 42] (fun v i wr => ∃ k : Nat, k ≤ m0 ∧ i = .int .i64 k ∧ Avgs w (avgsC xs n k) v wr) (fun _ i _ => m0 - (intOf i).toNat)
      case atStart => exact ⟨0, Nat.zero_le _, rfl, 0, [], ⟨World.ownsRow_nil _ _ _ _⟩, rfl, HB.out⟩
      case round =>
        obtain ⟨k, hk, rfl, hav⟩ := hrel
        by_cases hkl : k < m0
        · have hk2 : decide ((k : Int) < (m0 : Int)) = true := decide_eq_true (by omega)
          have hk3 : decide (k < m0) = true := decide_eq_true hkl
          obtain ⟨w2, rfl⟩ : ∃ w2, w2 = wr := ⟨wr, rfl⟩
          have hb2 : Below w.heap.size w w2 := by obtain ⟨_, _, _, _, h⟩ := hav; exact h
          have HAV := Lib.hid hav
          clear hav
          go_wp2_with fail
          go_loopw [8, 47] (fun s i wr => ∃ j : Nat, j ≤ n ∧ i = .int .i64 j ∧ (∃ r, s = .float .f64 r ∧ cls r = sumC xs k j) ∧ Below w2.heap.size w2 wr) (fun _ i _ => n - (intOf i).toNat)
          case atStart => exact ⟨0, Nat.zero_le _, rfl, ⟨0, rfl, rfl⟩, Below.refl _ _⟩
          case round =>
            obtain ⟨q, hq, rfl, ⟨r, rfl, hr⟩, hb3⟩ := hrel
            have HRS := Lib.hid hr
            clear hr
            by_cases hql : q < n
            · have hq2 : decide ((q : Int) < (n : Int)) = true := decide_eq_true (by omega)
              have hq3 : decide (q < n) = true := decide_eq_true hql
              obtain ⟨ad', A1, m1, c1, he, hx1, hmc1, hF1⟩ := at_rows (Kd.C_below hC (below_step hb2 hb3)) q hql
              obtain rfl : ad = ad' := by injection he
              obtain rfl : m1 = m0 := by have h1 := HR.out q hql; have h2 := hF1.1; omega
              obtain ⟨ar, rfl, hla⟩ := hF1.at2 k hkl
              obtain ⟨l1, l2⟩ := hla _ (Below.refl _ _)
              have hsum : sumC xs k (q + 1) = opC .add (sumC xs k q) (pw2 (cls ((xs.getD q []).getD (k * 2) 0)) (cls ((xs.getD q []).getD (k * 2 + 1) 0))) := rfl
              generalize (xs.getD q []).getD (k * 2) 0 = x at *
              generalize (xs.getD q []).getD (k * 2 + 1) 0 = y at *
              have HSUM := Lib.hid hsum
              clear hla hF1 hmc1 he hsum
              go_wp2_with fail
              refine (ipower2_calls x y _).mono ?_
              rintro e w3 ⟨t, rfl, ht, hb4⟩
              obtain ⟨s, nn, o1, h1⟩ := run_any (P := Try.prog) .add (.inl rfl) r t w3
              have hb5 : Below w2.heap.size w2 (w3.drewN nn) := pw_below_drewN (below_step hb3 hb4) nn
              have HS : Go.RowKit.Hid (cls s = sumC xs k (q + 1)) := Lib.hid (by rw [h1, ht, HRS.out, HSUM.out])
              clear hb4 hb3 hx1 l1 l2 h1 ht
              go_wp2_with (simp only [o1])
              go_roundw
              case rel => exact ⟨q + 1, by omega, by go_num, ⟨s, rfl, HS.out⟩, hb5⟩
              case measure => (simp [intOf]; try omega)
            · have hqn : q = n := by omega
              have hq2 : decide ((q : Int) < (n : Int)) = false := decide_eq_false (by omega)
              have hq3 : decide (q < n) = false := decide_eq_false hql
              have hqe : cls r = sumC xs k n := by rw [← hqn]; exact HRS.out
              obtain ⟨s, nn, o1, h1⟩ := run_any (P := Try.prog) .quo (.inr (.inr (.inr rfl))) r (floatOfInt .f64 (n : Int)) wr
              have hb5 : Below w2.heap.size w2 (wr.drewN nn) := pw_below_drewN hb3 nn
              obtain ⟨rs, ho, hrs⟩ := HAV.out.len
              have hlk : (avgsC xs n k).length = k := by simp [avgsC]
              rw [hlk] at ho
              have ho5 := FOwn.below ho hb5
              have hb6 := below_step hb2 hb5
              have HS : Go.RowKit.Hid ((rs ++ [s]).map cls = avgsC xs n (k + 1)) := Lib.hid (by rw [List.map_append, hrs, avgsC_succ, List.map_cons, List.map_nil, h1, hqe])
              clear hb3 hqn hqe h1 hrs ho hlk
              go_wp2_with (first
                | ((with_reducible refine gate_builtin (b := .append) (xs := #[.tmp 59, .tmp 65]) rfl ?_); at_builtin; refine F_append (w0 := w) w.heap.size rfl (.tmp 59) (.tmp 65) rfl _ k rs s rfl rfl ho5 hb6 hb6.size (by omega) ?_; intro v9 w9 ho9 hb9)
                | simp only [o1])
              go_roundw
              case rel => exact ⟨k + 1, by omega, by go_num, k + 1, _, ho9, HS.out, hb9⟩
              case measure => (simp [intOf]; try omega)
        · have hkm : k = m0 := by omega
          have hk2 : decide ((k : Int) < (m0 : Int)) = false := decide_eq_false (by omega)
          have hk3 : decide (k < m0) = false := decide_eq_false hkl
          have HK := Lib.hid hkm
          have HAV := Lib.hid hav
          clear hkm hav
          go_wp2_with fail
          go_ret2
          obtain ⟨nn, rs, ho, hrs, hb2⟩ := HAV.out
          rw [HY.out]
          exact ⟨_, nn, rs, rfl, ho, by rw [hrs, HK.out], hb2⟩
end Go.Proofs.Ytodgognfnpcdgaa.FltV
