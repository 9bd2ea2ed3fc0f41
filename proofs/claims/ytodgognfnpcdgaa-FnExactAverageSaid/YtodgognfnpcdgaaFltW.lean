/- The walk of the reference's Average. -/
import Derived.Test.YtodgognfnpcdgaaFltV
namespace Go.Proofs.Ytodgognfnpcdgaa.FltW
open Go.RowKit Go.Proofs.Ytodgognfnpcdgaa.Flt Go.Proofs.Ytodgognfnpcdgaa.FltA Go.Proofs.Ytodgognfnpcdgaa.FltB Go.Proofs.Ytodgognfnpcdgaa.FltD Go.Proofs.Ytodgognfnpcdgaa.FltN Go.Proofs.Ytodgognfnpcdgaa.FltO Go.Proofs.Ytodgognfnpcdgaa.FltP Go.Proofs.Ytodgognfnpcdgaa.FltQ Go.Proofs.Ytodgognfnpcdgaa.FltR Go.Proofs.Ytodgognfnpcdgaa.FltT Go.Proofs.Ytodgognfnpcdgaa.FltU Go.Proofs.Ytodgognfnpcdgaa.FltV Go.Proofs.YtodgognfnpcdgaaW.PrintWords Go.Proofs.YtodgognfnpcdgaaW.PrintLast Go.Proofs.YtodgognfnpcdgaaW.PrintMore
set_option linter.unusedVariables false
set_option linter.unusedSimpArgs false
attribute [local go_sem] run_store_float

theorem in_calls (n : Nat) (w : World) (hn : n ≤ 2000000) : Calls Try.prog 40 #[.int .i64 n, .int .i64 1, .int .i64 128] w fun e w' => e = .returned (.bool (decide (1 ≤ n ∧ n ≤ 128))) ∧ w = w' := by
  by_cases h1 : 1 ≤ n
  · have e1 : decide ((1 : Int) ≤ (n : Int)) = true := decide_eq_true (by omega)
    by_cases h2 : n ≤ 128
    · have e2 : decide ((n : Int) ≤ 128) = true := decide_eq_true (by omega)
      have e3 : decide (n ≤ 128) = true := decide_eq_true h2
      rw [decide_eq_true ⟨h1, h2⟩]
      go_enter Try.func40, Try.ntmps40
      go_wp2
      go_ret
      exact ⟨rfl, rfl⟩
    · have e2 : decide ((n : Int) ≤ 128) = false := decide_eq_false (by omega)
      have e3 : decide (n ≤ 128) = false := decide_eq_false h2
      rw [decide_eq_false (fun h => h2 h.2)]
      go_enter Try.func40, Try.ntmps40
      go_wp2
      go_ret
      exact ⟨rfl, rfl⟩
  · obtain rfl : n = 0 := by omega
    rw [decide_eq_false (by omega)]
    go_enter Try.func40, Try.ntmps40
    go_wp2
    go_ret
    exact ⟨rfl, rfl⟩
theorem FOwn.none0 (w : World) : FOwn (w.alloc (.cells #[] 24)) w.heap.size 24 1 (.slice (some ⟨w.heap.size, 0, none⟩) 0 0) 0 [] := ⟨World.ownsRow_made _ #[] 0 (Nat.le_refl _) (by simp [maxLen]) rfl⟩

set_option maxHeartbeats 2000000 in
theorem savg_calls {A : Option Addr} {c n : Nat} {xs : List (List Nat)} (w : World) (hC : rowP.C w A n xs) (hc : n ≤ c) (hs : Small n xs) :
    Calls Try.prog 28 #[.slice A n c] w (RetA (averageC xs n) w) := by
  have hn := hs.few
  have ho0 := FOwn.none0 w
  have hba : Below w.heap.size w (w.alloc (.cells #[] 24)) := below_alloc (Below.refl _ _) _
  by_cases hin : 1 ≤ n ∧ n ≤ 128
  rotate_left
  · go_enter Try.func28, Try.ntmps28
    go_wp2_with fail
    refine (in_calls n _ hn).mono ?_
    rw [decide_eq_false hin]
    rintro e w1 ⟨rfl, rfl⟩
    go_wp2_with fail
    go_ret2
    exact retA_none (average_no (fun h => hin h.1)) ho0 hba
  have hpos : 0 < n := hin.1
  go_enter Try.func28, Try.ntmps28
  go_wp2_with fail
  refine (in_calls n _ hn).mono ?_
  rw [decide_eq_true hin]
  rintro e w1 ⟨rfl, rfl⟩
  generalize hgv : w.heap.size = gv at ho0 ⊢
  obtain ⟨wa, hwa⟩ : ∃ wa, wa = w.alloc (.cells #[] 24) := ⟨_, rfl⟩
  rw [← hwa] at ho0 hba ⊢
  obtain ⟨ad, A0, m0, c0, rfl, hx0, hmc0, hF0⟩ := at_rows (Kd.C_below hC hba) 0 hpos
  rw [Addr.add_zero'] at hx0
  have hw0 : width xs = m0 := by unfold width; have := hF0.1; omega
  have HWA := Lib.hid hwa
  have HGV := Lib.hid hgv
  clear hF0 hmc0 hwa hgv
  go_wp2_with fail
  go_loopw [6] (fun i wr => ∃ j : Nat, j ≤ n ∧ i = .int .i64 j ∧ (∀ q, q < j → GoodI xs q) ∧ Below wa.heap.size wa wr) (fun i _ => n - (intOf i).toNat)
  case atStart => exact ⟨0, Nat.zero_le _, rfl, fun q hq => by omega, Below.refl _ _⟩
  case round =>
    obtain ⟨j, hj, rfl, hgood, hb'⟩ := hrel
    have hb := below_step hba hb'
    have hor := FOwn.below ho0 hb'
    by_cases hlt : j < n
    · obtain ⟨ad', A1, m1, c1, he, hx1, hmc1, hF1⟩ := at_rows (Kd.C_below hC hb) j hlt
      obtain rfl : ad = ad' := by injection he
      have hw1 : (xs.getD j []).length / 2 = m1 := by have := hF1.1; omega
      have hl2 : decide ((j : Int) < (n : Int)) = true := decide_eq_true (by omega)
      have hl3 : decide (j < n) = true := decide_eq_true hlt
      clear hF1 hmc1 he
      by_cases hme : m1 = m0
      · by_cases hm128 : 128 < m0
        · have hmgt : decide ((128 : Int) < (m0 : Int)) = true := decide_eq_true (by omega)
          have hmgt2 : decide (128 < m0) = true := decide_eq_true hm128
          subst hme
          go_wp2_with fail
          go_ret2
          exact retA_none (average_no (fun h => by have := (h.2 j hlt).2; omega)) (HGV.out ▸ hor) hb
        · have hmgt : decide ((128 : Int) < (m0 : Int)) = false := decide_eq_false (by omega)
          have hmgt2 : decide (128 < m0) = false := decide_eq_false hm128
          have hgj : GoodI xs j := ⟨by omega, by omega⟩
          have HG := Lib.hid hgood
          have HW := Lib.hid hw0
          clear hgood hw0 hw1
          subst hme
          go_wp2_with fail
          go_roundw
          case rel => exact ⟨j + 1, by omega, by go_num, fun q hq => by
            by_cases e : q = j
            · rw [e]; exact hgj
            · exact HG.out q (by omega), hb'⟩
          case measure => (simp [intOf]; try omega)
      · have hne : ((m1 : Int) != (m0 : Int)) = true := by simp; omega
        go_wp2_with fail
        go_ret2
        exact retA_none (average_no (fun h => by have := (h.2 j hlt).1; omega)) (HGV.out ▸ hor) hb
    · have hjn : j = n := by omega
      have hl2 : decide ((j : Int) < (n : Int)) = false := decide_eq_false (by omega)
      have hl3 : decide (j < n) = false := decide_eq_false hlt
      have hok : AvOk xs n := ⟨hin, fun i hi => hgood i (by omega)⟩
      have hyes := average_yes hok
      rw [hw0] at hyes
      have hm0 : m0 ≤ 128 := by have := (hok.2 0 hpos).2; omega
      have hrows : ∀ i, i < n → (xs.getD i []).length / 2 = m0 := fun i hi => by have := (hok.2 i hi).1; omega
      have HR := Lib.hid hrows
      have HY := Lib.hid hyes
      have HB := Lib.hid hb
      have HOR := Lib.hid hor
      obtain ⟨w1, rfl⟩ : ∃ w1, w1 = wr := ⟨wr, rfl⟩
      clear hgood hok hyes hrows hjn hw0 hor hb' hx0
      go_wp2_with fail
      go_loopw [4, 7] (fun v i wr => ∃ k : Nat, k ≤ m0 ∧ i = .int .i64 k ∧ Avgs w (avgsC xs n k) v wr) (fun _ i _ => m0 - (intOf i).toNat)
      case atStart => exact ⟨0, Nat.zero_le _, rfl, 0, [], HGV.out ▸ HOR.out, rfl, HB.out⟩
      case round =>
        obtain ⟨k, hk, rfl, hav⟩ := hrel
        by_cases hkl : k < m0
        · have hk2 : decide ((k : Int) < (m0 : Int)) = true := decide_eq_true (by omega)
          have hk3 : decide (k < m0) = true := decide_eq_true hkl
          obtain ⟨w2, rfl⟩ : ∃ w2, w2 = wr := ⟨wr, rfl⟩
          have hb2 : Below w.heap.size w w2 := by obtain ⟨_, _, _, _, h⟩ := hav; exact h
          have HAV := Lib.hid hav
          clear hav
          go_wp2_with fail
          go_loopw [8, 9] (fun s i wr => ∃ j : Nat, j ≤ n ∧ i = .int .i64 j ∧ (∃ r, s = .float .f64 r ∧ cls r = sumC xs k j) ∧ Below w2.heap.size w2 wr) (fun _ i _ => n - (intOf i).toNat)
          case atStart => exact ⟨0, Nat.zero_le _, rfl, ⟨0, rfl, rfl⟩, Below.refl _ _⟩
          case round =>
            obtain ⟨q, hq, rfl, ⟨r, rfl, hr⟩, hb3⟩ := hrel
            have HRS := Lib.hid hr
            clear hr
            by_cases hql : q < n
            · have hq2 : decide ((q : Int) < (n : Int)) = true := decide_eq_true (by omega)
              have hq3 : decide (q < n) = true := decide_eq_true hql
              obtain ⟨ad', A1, m1, c1, he, hx1, hmc1, hF1⟩ := at_rows (Kd.C_below hC (below_step hb2 hb3)) q hql
              obtain rfl : ad = ad' := by injection he
              obtain rfl : m1 = m0 := by have h1 := HR.out q hql; have h2 := hF1.1; omega
              obtain ⟨ar, rfl, hla⟩ := hF1.at2 k hkl
              obtain ⟨l1, l2⟩ := hla _ (Below.refl _ _)
              have hsum : sumC xs k (q + 1) = opC .add (sumC xs k q) (pw2 (cls ((xs.getD q []).getD (k * 2) 0)) (cls ((xs.getD q []).getD (k * 2 + 1) 0))) := rfl
              generalize (xs.getD q []).getD (k * 2) 0 = x at *
              generalize (xs.getD q []).getD (k * 2 + 1) 0 = y at *
              have HSUM := Lib.hid hsum
              clear hla hF1 hmc1 he hsum
              go_wp2_with fail
              refine (spower2_calls x y _).mono ?_
              rintro e w3 ⟨t, rfl, ht, hb4⟩
              obtain ⟨s, nn, o1, h1⟩ := run_any (P := Try.prog) .add (.inl rfl) r t w3
              have hb5 : Below w2.heap.size w2 (w3.drewN nn) := pw_below_drewN (below_step hb3 hb4) nn
              have HS : Go.RowKit.Hid (cls s = sumC xs k (q + 1)) := Lib.hid (by rw [h1, ht, HRS.out, HSUM.out])
              clear hb4 hb3 hx1 l1 l2 h1 ht
              go_wp2_with (simp only [o1])
              go_roundw
              case rel => exact ⟨q + 1, by omega, by go_num, ⟨s, rfl, HS.out⟩, hb5⟩
              case measure => (simp [intOf]; try omega)
            · have hqn : q = n := by omega
              have hq2 : decide ((q : Int) < (n : Int)) = false := decide_eq_false (by omega)
              have hq3 : decide (q < n) = false := decide_eq_false hql
              have hqe : cls r = sumC xs k n := by rw [← hqn]; exact HRS.out
              obtain ⟨s, nn, o1, h1⟩ := run_any (P := Try.prog) .quo (.inr (.inr (.inr rfl))) r (floatOfInt .f64 (n : Int)) wr
              have hb5 : Below w2.heap.size w2 (wr.drewN nn) := pw_below_drewN hb3 nn
              obtain ⟨rs, ho, hrs⟩ := HAV.out.len
              have hlk : (avgsC xs n k).length = k := by simp [avgsC]
              rw [hlk] at ho
              have ho5 := FOwn.below ho hb5
              have hb6 := below_step hb2 hb5
              have HS : Go.RowKit.Hid ((rs ++ [s]).map cls = avgsC xs n (k + 1)) := Lib.hid (by rw [List.map_append, hrs, avgsC_succ, List.map_cons, List.map_nil, h1, hqe])
              clear hb3 hqn hqe h1 hrs ho hlk
              go_wp2_with (first
                | ((with_reducible refine gate_builtin (b := .append) (xs := #[.tmp 59, .tmp 65]) rfl ?_); at_builtin; refine F_append (w0 := w) w.heap.size rfl (.tmp 59) (.tmp 65) rfl _ k rs s rfl rfl ho5 hb6 hb6.size (by omega) ?_; intro v9 w9 ho9 hb9)
                | simp only [o1])
              go_roundw
              case rel => exact ⟨k + 1, by omega, by go_num, k + 1, _, ho9, HS.out, hb9⟩
              case measure => (simp [intOf]; try omega)
        · have hkm : k = m0 := by omega
          have hk2 : decide ((k : Int) < (m0 : Int)) = false := decide_eq_false (by omega)
          have hk3 : decide (k < m0) = false := decide_eq_false hkl
          have HK := Lib.hid hkm
          have HAV := Lib.hid hav
          clear hkm hav
          go_wp2_with fail
          go_ret2
          obtain ⟨nn, rs, ho, hrs, hb2⟩ := HAV.out
          rw [HY.out]
          exact ⟨_, nn, rs, rfl, ho, by rw [hrs, HK.out], hb2⟩
end Go.Proofs.Ytodgognfnpcdgaa.FltW
