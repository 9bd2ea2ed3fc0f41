/- Rows of rows of pairs: their kind; the walks of szPairSS, toPairSS. -/
import Derived.Test.YtodgognfnpcdgaaFltR
import Derived.Test.YtodgognfnpcdgaaWKept
namespace Go.Proofs.Ytodgognfnpcdgaa.FltT
open Go.RowKit Go.Proofs.Ytodgognfnpcdgaa.Flt Go.Proofs.Ytodgognfnpcdgaa.FltA Go.Proofs.Ytodgognfnpcdgaa.FltB Go.Proofs.Ytodgognfnpcdgaa.FltD Go.Proofs.Ytodgognfnpcdgaa.FltN Go.Proofs.Ytodgognfnpcdgaa.FltO Go.Proofs.Ytodgognfnpcdgaa.FltP Go.Proofs.Ytodgognfnpcdgaa.FltQ Go.Proofs.Ytodgognfnpcdgaa.FltR Go.Proofs.YtodgognfnpcdgaaW.PrintWords Go.Proofs.YtodgognfnpcdgaaW.PrintLast Go.Proofs.YtodgognfnpcdgaaW.PrintMore
set_option linter.unusedVariables false
set_option linter.unusedSimpArgs false
attribute [local go_sem] run_store_float

theorem FOwn.lower {w : World} {base base' : Nat} {e : TypeId} {sz n : Nat} {v : Value} {bs : List Nat} (h : FOwn w base e sz v n bs) (hb : base' ≤ base) : FOwn w base' e sz v n bs := ⟨own_weaken h.out hb⟩
theorem FOwn.only {w w1 : World} {base : Nat} {e : TypeId} {sz n : Nat} {v u : Value} {bs : List Nat} (h : FOwn w base e sz v n bs) (ho : Only w w1 u) (hne : ∀ i, v.ownBlock = some i → some i ≠ u.ownBlock) : FOwn w1 base e sz v n bs :=
  ⟨own_move h.out (fun k hk => ho.2 k (own_lt h.out k hk) (hne k hk))⟩
theorem FOwn.len {w : World} {base : Nat} {e : TypeId} {n : Nat} {v : Value} {bs : List Nat} (h : FOwn w base e 1 v n bs) : bs.length = n := by simpa using h.out.1
theorem FOwn.blocks {w : World} {base : Nat} {e : TypeId} {sz n : Nat} {v : Value} {bs : List Nat} (h : FOwn w base e sz v n bs) : ∀ i, v.ownBlock = some i → base ≤ i ∧ i < w.heap.size := fun i hi => ⟨own_base h.out i hi, own_lt h.out i hi⟩

/-- a row of pairs, as an element of a row: its bits -/
def rowP : Kd (List Nat) where
  sz := 1
  E := [26]
  K := fun w bs cs => ∃ A n c, cs = [.slice A n c] ∧ n ≤ c ∧ Flat w A (n * 2) bs
  M := fun w base ok bs cs => ∃ v n, cs = [v] ∧ (∀ k, v.ownBlock = some k → ok k) ∧ FOwn w base 26 2 v n bs
  K_len := by
    rintro w x cs ⟨A, n, c, rfl, _⟩
    rfl
  K_one := by
    rintro w x cs ⟨A, n, c, rfl, _⟩ u hu
    rw [List.mem_singleton.1 hu]
    rfl
  K_below := by
    rintro w w1 x cs hb ⟨A, n, c, rfl, hl, hr⟩
    exact ⟨A, n, c, rfl, hl, hr.below hb⟩
  K_of_M := by
    rintro w base ok x cs ⟨v, n, rfl, _, h⟩
    obtain ⟨A, c, rfl, hl, hr⟩ := h.flat
    exact ⟨A, n, c, rfl, hl, hr⟩
  M_mono := by
    rintro w base ok ok' x cs hok ⟨v, n, rfl, hk, h⟩
    exact ⟨v, n, rfl, fun k e => hok k (hk k e), h⟩
  M_bound := by
    rintro w base ok x cs ⟨v, n, rfl, hk, h⟩
    exact ⟨v, n, rfl, fun k e => ⟨hk k e, own_base h.out k e, own_lt h.out k e, 26, List.mem_singleton.2 rfl, own_typed h.out k e⟩, h⟩
  M_move := by
    rintro w w1 base ok x cs hm ⟨v, n, rfl, hk, h⟩
    exact ⟨v, n, rfl, hk, ⟨own_move h.out (fun k e => hm k (hk k e))⟩⟩
  M_lower := by
    rintro w base base' ok x cs hb ⟨v, n, rfl, hk, h⟩
    exact ⟨v, n, rfl, hk, ⟨own_weaken h.out hb⟩⟩
theorem at_rows {w : World} {A : Option Addr} {n : Nat} {xs : List (List Nat)} (h : rowP.C w A n xs) (i : Nat) (h1 : i < n) :
    ∃ ad A0 m c0, A = some ad ∧ w.cell? (ad.add i) = some (.slice A0 m c0) ∧ m ≤ c0 ∧ Flat w A0 (m * 2) (xs.getD i []) := by
  obtain ⟨ad, c, e, _, hK, hc0⟩ := Kd.C_get h ([] : List Nat) (i : Int) (by omega) (by omega)
  rw [Int.toNat_natCast] at hK hc0
  have hc : ∀ j u, c[j]? = some u → w.cell? (ad.add (i * 1 + j)) = some u := hc0
  obtain ⟨A0, m, c0, rfl, l0, g0⟩ := hK
  exact ⟨ad, A0, m, c0, e, by have hq := hc 0 _ rfl; rwa [Nat.mul_one, Nat.add_zero] at hq, l0, g0⟩
/-- how many pairs lie ahead of row j -/
def offB (xs : List (List Nat)) : Nat → Nat
  | 0 => 0
  | j + 1 => offB xs j + (xs.getD j []).length / 2
theorem offB_le (xs : List (List Nat)) {i j : Nat} (h : i ≤ j) : offB xs i ≤ offB xs j := by
  induction j with
  | zero => rw [Nat.le_zero.1 h]; exact Nat.le_refl _
  | succ j ih =>
    rcases Nat.lt_or_ge i (j + 1) with q | q
    · exact Nat.le_trans (ih (by omega)) (Nat.le_add_right _ _)
    · rw [show i = j + 1 by omega]
      exact Nat.le_refl _
theorem len_le_offB (xs : List (List Nat)) {i n : Nat} (h : i < n) : (xs.getD i []).length / 2 ≤ offB xs n :=
  Nat.le_trans (Nat.le_add_left _ (offB xs i)) (offB_le xs (Nat.succ_le_of_lt h))
/-- the bounds of the rows -/
structure Small (n : Nat) (xs : List (List Nat)) : Prop where
  few : n ≤ 2000000
  o : offB xs n ≤ 2000000
theorem Small.row {n : Nat} {xs : List (List Nat)} (h : Small n xs) {i : Nat} (hi : i < n) : (xs.getD i []).length / 2 ≤ 2000000 := Nat.le_trans (len_le_offB xs hi) h.o

theorem sz_any (A : Option Addr) (c n : Nat) (L : Int) (w : World) (h0 : 0 ≤ L) (h1 : L ≤ 1048576) (hm : n ≤ maxLen) :
    Calls Try.prog 18 #[.slice A n c, .int .i64 L] w fun e w' => e = .returned (.int .i64 (if (n : Int) ≤ L then L - (n : Int) else -1)) ∧ w = w' := by
  unfold maxLen at hm
  by_cases h : (n : Int) ≤ L
  · rw [if_pos h]
    have hlt : decide (L - (n : Int) < 0) = false := decide_eq_false (by omega)
    go_enter Try.func18, Try.ntmps18
    go_wp2
    go_ret
    exact ⟨rfl, rfl⟩
  · rw [if_neg h]
    have hlt : decide (L - (n : Int) < 0) = true := decide_eq_true (by omega)
    go_enter Try.func18, Try.ntmps18
    go_wp2
    go_ret
    exact ⟨rfl, rfl⟩
/-- what is left, or nothing -/
def RetV (n : Nat) (xs : List (List Nat)) (w : World) (e : Ending) (w' : World) : Prop := ∃ v : Int, e = .returned (.int .i64 v) ∧ (0 ≤ v → Small n xs) ∧ Below w.heap.size w w'
set_option maxHeartbeats 1000000 in
theorem szRows_calls {A : Option Addr} {c n : Nat} {xs : List (List Nat)} (w : World) (hC : rowP.C w A n xs) (hc : n ≤ c) (hm : n ≤ maxLen) (hr : ∀ i, i < n → (xs.getD i []).length / 2 ≤ maxLen) :
    Calls Try.prog 27 #[.slice A n c, .int .i64 1048576] w (RetV n xs w) := by
  have hm' := hm
  unfold maxLen at hm'
  by_cases h : n ≤ 1048576
  · have hlt : decide ((1048576 : Int) - (n : Int) < 0) = false := decide_eq_false (by omega)
    go_enter Try.func27, Try.ntmps27
    go_wp2_with fail
    go_loopw [1, 5] (fun a i wr => ∃ j : Nat, j ≤ n ∧ a = .int .i64 (1048576 - (n : Int) - (offB xs j : Int)) ∧ n + offB xs j ≤ 1048576 ∧ i = .int .i64 j ∧ Below w.heap.size w wr) (fun _ i _ => n - (intOf i).toNat)
    case atStart => exact ⟨0, Nat.zero_le _, by simp [offB], by simpa [offB] using h, rfl, Below.refl _ _⟩
    case round =>
      obtain ⟨j, hj, rfl, hoff, rfl, hb⟩ := hrel
      by_cases hl : j < n
      · obtain ⟨ad, A0, m, c0, rfl, hx, hmc, hF⟩ := at_rows (Kd.C_below hC hb) j hl
        have hml : (xs.getD j []).length / 2 = m := by have := hF.1; omega
        have hmm := hr j hl
        rw [hml] at hmm
        have hnext : offB xs (j + 1) = offB xs j + m := by rw [offB, hml]
        have hl2 : decide ((j : Int) < (n : Int)) = true := decide_eq_true (by omega)
        have hl3 : decide (j < n) = true := decide_eq_true hl
        have HN := Lib.hid hnext
        clear hnext hF hmc hml
        go_wp2_with fail
        refine (sz_any A0 c0 m _ _ (by omega) (by omega) hmm).mono ?_
        by_cases hq : (m : Int) ≤ 1048576 - (n : Int) - (offB xs j : Int)
        · rw [if_pos hq]
          rintro e w2 ⟨rfl, rfl⟩
          have hq2 : decide (1048576 - (n : Int) - (offB xs j : Int) - (m : Int) < 0) = false := decide_eq_false (by omega)
          go_wp2_with fail
          go_roundw
          case rel => exact ⟨j + 1, by omega, by rw [HN.out]; go_num; (try omega), by rw [HN.out]; omega, by go_num, hb⟩
          case measure => (simp [intOf]; try omega)
        · rw [if_neg hq]
          rintro e w2 ⟨rfl, rfl⟩
          go_wp2_with fail
          go_ret
          exact ⟨-1, rfl, fun h => by omega, hb⟩
      · have hjn : j = n := by omega
        have hl2 : decide ((j : Int) < (n : Int)) = false := decide_eq_false (by omega)
        have hl3 : decide (j < n) = false := decide_eq_false hl
        have HJ := Lib.hid hjn
        clear hjn
        go_wp2_with fail
        go_ret
        exact ⟨_, rfl, fun _ => ⟨by omega, by rw [← HJ.out]; omega⟩, hb⟩
  · have hlt : decide ((1048576 : Int) - (n : Int) < 0) = true := decide_eq_true (by omega)
    go_enter Try.func27, Try.ntmps27
    go_wp2
    go_ret
    exact ⟨-1, rfl, fun h => by omega, Below.refl _ _⟩
end Go.Proofs.Ytodgognfnpcdgaa.FltT
