/- The walks of gauss and of FnDivided. -/
import Derived.Test.YtodgognfnpcdgaaFltB
namespace Go.Proofs.Ytodgognfnpcdgaa.FltC
open Go.RowKit Go.Proofs.Ytodgognfnpcdgaa.Flt Go.Proofs.Ytodgognfnpcdgaa.FltA Go.Proofs.Ytodgognfnpcdgaa.FltB Go.Proofs.YtodgognfnpcdgaaW.PrintWords Go.Proofs.YtodgognfnpcdgaaW.PrintLast Go.Proofs.Ytodgognfnpcdgaa.PFnDivided
set_option linter.unusedVariables false
set_option linter.unusedSimpArgs false
attribute [local go_sem] run_store_float

theorem w64 {n : Int} (h0 : -9223372036854775808 ≤ n) (h1 : n ≤ 9223372036854775807) : wrap64 n = n := by unfold wrap64; omega
theorem byte_of {x : Int} (h : (Lit.int .u8 x).wf = true) : 0 ≤ x ∧ x ≤ 255 := by
  have h1 : IntKind.u8.min ≤ x ∧ x ≤ IntKind.u8.max := by simpa [Lit.wf] using h
  have e1 : IntKind.u8.min = 0 := by decide
  have e2 : IntKind.u8.max = 255 := by decide
  omega
theorem rd_mem {xs : List Int} {i : Int} (h0 : 0 ≤ i) (h : i < xs.length) : rd xs i ∈ xs := by
  have h1 : i.toNat < xs.length := by omega
  show xs.getD i.toNat 0 ∈ xs
  rw [List.getD_eq_getElem?_getD, List.getElem?_eq_getElem h1]
  exact List.getElem_mem h1
theorem at_ok (b : List Int) (i : Int) (hb : b.length ≤ 140737488351232) (hw : ∀ x ∈ b, (Lit.int .u8 x).wf = true) (h0 : 0 ≤ i) (h1 : i ≤ 1000000) : ∃ v, laws_at.f b i = some v ∧ 0 ≤ v ∧ v ≤ 255 := by
  unfold laws_at.f
  by_cases h : i < (b.length : Int)
  · have := byte_of (hw _ (rd_mem h0 h))
    rw [if_pos h, if_pos h0, w64 (by omega) (by omega)]
    exact ⟨_, rfl, this.1, this.2⟩
  · rw [if_neg h, w64 (n := i * 7) (by omega) (by omega), w64 (by omega) (by omega)]
    exact ⟨_, rfl, Int.tmod_nonneg _ (by omega), by have := Int.tmod_lt_of_pos (i * 7 + (b.length : Int)) (by omega : (0 : Int) < 256); omega⟩

/-- the drawn bytes, in a world that has grown from w -/
structure Code0 (w : World) (A : Option Addr) (c : Nat) (l : List Int) : Prop where
  row : Kd.C (Kd.int .u8) w A l.length l
  cap : l.length ≤ c
  small : l.length ≤ 140737488351232
  wf : ∀ x ∈ l, (Lit.int .u8 x).wf = true

def RetI (lo hi : Int) (w : World) (e : Ending) (w' : World) : Prop := ∃ v n, e = .returned (.int .i64 v) ∧ lo ≤ v ∧ v ≤ hi ∧ w' = w.drewN n
theorem at_calls {A : Option Addr} {c : Nat} {l : List Int} (w0 : World) (h : Code0 w0 A c l) (i : Int) (h0 : 0 ≤ i) (h1 : i ≤ 1000000) (w : World) (hb : Below w0.heap.size w0 w) :
    Calls Try.prog 11 #[.slice A l.length c, .int .i64 i] w (RetI 0 255 w) := by
  obtain ⟨v, hv, h2, h3⟩ := at_ok l i h.small h.wf h0 h1
  refine (laws_at.calls A c l i v w (Kd.C_below h.row hb) h.cap hv).mono ?_
  rintro e w' ⟨rfl, ⟨n, rfl⟩⟩
  exact ⟨v, n, rfl, h2, h3, rfl⟩

def RetJ (lo hi : Int) (w : World) (e : Ending) (w' : World) : Prop := ∃ v, e = .returned (.int .i64 v) ∧ lo ≤ v ∧ v ≤ hi ∧ Below w.heap.size w w'
theorem at_calls' {A : Option Addr} {c : Nat} {l : List Int} (w0 : World) (h : Code0 w0 A c l) (i : Int) (h0 : 0 ≤ i) (h1 : i ≤ 1000000) (w : World) (hb : Below w0.heap.size w0 w) :
    Calls Try.prog 11 #[.slice A l.length c, .int .i64 i] w (RetJ 0 255 w) := by
  refine (at_calls w0 h i h0 h1 w hb).mono ?_
  rintro e w' ⟨v, n, rfl, h2, h3, rfl⟩
  exact ⟨v, rfl, h2, h3, by repeat (first | exact Below.refl _ _ | apply pw_below_drewN)⟩

theorem equal_same (z : Int × Int) (p q r s : Nat) (w : World) (h1 : IsF p z.1) (h2 : IsF q z.2) (h3 : IsF r z.1) (h4 : IsF s z.2) :
    Calls Try.prog 12 #[.agg #[.float .f64 p, .float .f64 q], .agg #[.float .f64 r, .float .f64 s]] w fun e w' => e = .returned (.bool true) ∧ Below w.heap.size w w' := by
  have := equal_calls z z p q r s w h1 h2 h3 h4
  rwa [show eqC z z = true by unfold eqC; simp] at this

def RetG (w : World) (e : Ending) (w' : World) : Prop := ∃ z, Fits z 2 ∧ RetC z w e w'
theorem gauss_calls {A : Option Addr} {c : Nat} {l : List Int} (w0 : World) (h : Code0 w0 A c l) (i : Int) (h0 : 0 ≤ i) (h1 : i ≤ 1000) (w : World) (hb : Below w0.heap.size w0 w) :
    Calls Try.prog 9 #[.slice A l.length c, .int .i64 i] w (RetG w) := by
  go_enter Try.func9, Try.ntmps9
  go_wp2_with fail
  refine (at_calls w0 h i h0 (by omega) _ (by repeat (first | exact hb | apply below_alloc))).mono ?_
  rintro e w1 ⟨v, n, rfl, hv0, hv1, rfl⟩
  go_wp2_with fail
  refine (at_calls w0 h _ (by omega) (by omega) _ (by repeat (first | exact hb | apply below_alloc | apply below_drew1 | apply pw_below_drewN))).mono ?_
  rintro e w1 ⟨u, m, rfl, hu0, hu1, rfl⟩
  go_wp2_with fail
  refine bodyPost_ret (v := .agg #[.float .f64 (floatOfInt .f64 (v % 5 - 2)), .float .f64 (floatOfInt .f64 (u % 5 - 2))]) (by simp [results, Try.results9, go_sem]) rfl ⟨(v % 5 - 2, u % 5 - 2), ⟨by show (v % 5 - 2).natAbs ≤ 2; omega, by show (u % 5 - 2).natAbs ≤ 2; omega⟩, _, _, rfl, of_int _ (by omega), of_int _ (by omega), ?_⟩
  repeat (first | exact Below.refl _ _ | apply below_alloc | apply below_drew1 | apply pw_below_drewN | (refine Below.setCell ?_ (by first | omega | (simp; done) | (simp; omega)) _))

theorem pow2_of {z : Int × Int} (h : Fits z 2) : 0 ≤ pow2C z ∧ pow2C z ≤ 8 := by
  obtain ⟨x, y⟩ := z
  obtain ⟨h1, h2⟩ := h
  simp only at h1 h2
  simp only [pow2C]
  have hx : x = -2 ∨ x = -1 ∨ x = 0 ∨ x = 1 ∨ x = 2 := by omega
  have hy : y = -2 ∨ y = -1 ∨ y = 0 ∨ y = 1 ∨ y = 2 := by omega
  rcases hx with rfl | rfl | rfl | rfl | rfl <;> rcases hy with rfl | rfl | rfl | rfl | rfl <;> decide

/-- what stands before the last two statements: a divisor that is not 0, in its block -/
def Ready (w : World) (B : Nat) (wx : World) : Prop :=
  ∃ b p q, Fits b 2 ∧ pow2C b ≠ 0 ∧ IsF p b.1 ∧ IsF q b.2 ∧ Below w.heap.size w wx ∧ w.heap.size ≤ B ∧ B < wx.heap.size ∧ wx.cell? ⟨B, 0, none⟩ = some (.float .f64 p) ∧ wx.cell? ⟨B, 1, none⟩ = some (.float .f64 q)

set_option maxHeartbeats 1000000 in
theorem divided_calls {A : Option Addr} {c : Nat} {l : List Int} (w : World) (h : Code0 w A c l) :
    Calls Try.prog 3 #[.slice A l.length c] w fun e w' => e = .returned (.bool true) ∧ Below w.heap.size w w' := by
  by_cases hbig : (l.length : Int) > 1048576
  · go_enter Try.func3, Try.ntmps3
    go_wp2_with (go_at_call 8; refine (laws_big.calls A c l true w h.row h.cap (by unfold laws_big.f; rw [decide_eq_true hbig])).mono ?_; rintro e w' ⟨rfl, ⟨n, rfl⟩⟩)
    go_ret
    exact ⟨rfl, by repeat (first | exact Below.refl _ _ | apply below_alloc | apply below_drew1 | apply pw_below_drewN)⟩
  · go_enter Try.func3, Try.ntmps3
    go_wp2_with (go_at_call 8; refine (laws_big.calls A c l false w h.row h.cap (by unfold laws_big.f; rw [decide_eq_false hbig])).mono ?_; rintro e w' ⟨rfl, ⟨n, rfl⟩⟩)
    refine (gauss_calls w h 0 (by omega) (by omega) _ (by repeat (first | exact Below.refl _ _ | apply below_alloc | apply below_drew1 | apply pw_below_drewN))).mono ?_
    rintro e w1 ⟨b, hb2, p, q, rfl, hp, hq, hb1⟩
    go_wp2_with fail
    refine (power2_calls b 2 p q _ hb2 (by omega) hp hq).mono ?_
    rintro e w2 ⟨t, rfl, ht, hw2⟩
    have hN := pow2_of hb2
    have o1 : (FloatKind.f64.format.order t 4607182418800017408 == some .eq) = decide (pow2C b = 1) := order_int ht one_int
    have o2 : (FloatKind.f64.format.order t 4611686018427387904 == some .eq) = decide (pow2C b = 2) := order_int ht two_int
    have o4 : (FloatKind.f64.format.order t 4616189618054758400 == some .eq) = decide (pow2C b = 4) := order_int ht four_int
    have o8 : (FloatKind.f64.format.order t 4620693217682128896 == some .eq) = decide (pow2C b = 8) := order_int ht eight_int
    generalize hy1 : (FloatKind.f64.format.order t 4607182418800017408 == some .eq) = y1 at o1
    generalize hy2 : (FloatKind.f64.format.order t 4611686018427387904 == some .eq) = y2 at o2
    generalize hy4 : (FloatKind.f64.format.order t 4616189618054758400 == some .eq) = y4 at o4
    generalize hy8 : (FloatKind.f64.format.order t 4620693217682128896 == some .eq) = y8 at o8
    have n1 : (FloatKind.f64.format.order t 4607182418800017408 != some .eq) = !y1 := by rw [← hy1]; rfl
    have n2 : (FloatKind.f64.format.order t 4611686018427387904 != some .eq) = !y2 := by rw [← hy2]; rfl
    have n4 : (FloatKind.f64.format.order t 4616189618054758400 != some .eq) = !y4 := by rw [← hy4]; rfl
    have n8 : (FloatKind.f64.format.order t 4620693217682128896 != some .eq) = !y8 := by rw [← hy8]; rfl
    clear hy1 hy2 hy4 hy8
    have hB1 : Below w.heap.size w (w1.alloc (Obj.cells #[.float .f64 p, .float .f64 q] 26)) := by
      refine Below.alloc (bstep (w1 := w.drewN n) ?_ hb1 (by simp)).1 (by have := hb1.size; simp at this; omega) _
      repeat (first | exact Below.refl _ _ | apply below_alloc | apply below_drew1 | apply pw_below_drewN)
    have hB2 := bstep hB1 hw2 hB1.size
    have hz1 : w.heap.size ≤ w1.heap.size := by have := hb1.size; simp at this; omega
    obtain ⟨hB2, hz2⟩ := hB2
    simp at hz2
    have g0 : w2.cell? ⟨w1.heap.size, 0, none⟩ = some (.float .f64 p) := (hw2.cell (by simp)).trans (by simp [go_sem])
    have g1 : w2.cell? ⟨w1.heap.size, 1, none⟩ = some (.float .f64 q) := (hw2.cell (by simp)).trans (by simp [go_sem])
    have f0 : w2.frozen? ⟨w1.heap.size, 0, none⟩ = false := (hw2.frozen (by simp)).trans (by simp [go_sem])
    have f1 : w2.frozen? ⟨w1.heap.size, 1, none⟩ = false := (hw2.frozen (by simp)).trans (by simp [go_sem])
    clear hw2 hb1 hB1
    have hR2 : pow2C b ≠ 0 → Ready w w1.heap.size w2 := fun h0 => ⟨b, p, q, hb2, h0, hp, hq, hB2, hz1, by omega, g0, g1⟩
    by_cases c1 : pow2C b = 1
    · rw [decide_eq_true c1] at o1; subst o1
      have hR := hR2 (by omega)
      clear o2 o4 o8 hR2 hp hq hb2 ht hB2 g0 g1 f0 f1 hN c1
      go_upto_region 7 with fail
      obtain ⟨b, p, q, hb, hN, hp, hq, hB, hz1, hz2, g0, g1⟩ := hR
      go_wp2_with fail
      refine (at_calls' w h 2 (by omega) (by omega) _ hB).mono ?_
      rintro e w3 ⟨v, rfl, hv0, hv1, hb3⟩
      obtain ⟨hB, hz3⟩ := bstep hB hb3 hB.size
      replace g0 := (hb3.cell (by first | omega | (simp; done) | (simp; omega))).trans g0
      replace g1 := (hb3.cell (by first | omega | (simp; done) | (simp; omega))).trans g1
      clear hb3
      go_wp2_with fail
      refine (at_calls' w h 3 (by omega) (by omega) _ hB).mono ?_
      rintro e w4 ⟨u, rfl, hu0, hu1, hb4⟩
      obtain ⟨hB, hz4⟩ := bstep hB hb4 hB.size
      replace g0 := (hb4.cell (by first | omega | (simp; done) | (simp; omega))).trans g0
      replace g1 := (hb4.cell (by first | omega | (simp; done) | (simp; omega))).trans g1
      clear hb4
      go_wp2_with fail
      have ha1 := of_int (v - 128) (by omega)
      have ha2 := of_int (u - 100) (by omega)
      generalize floatOfInt .f64 (v - 128) = fa at *
      generalize floatOfInt .f64 (u - 100) = fb at *
      have k0 : (w4.alloc (Obj.cells #[.float .f64 fa, .float .f64 fb] 26)).cell? ⟨w4.heap.size, 0, none⟩ = some (.float .f64 fa) := by simp [go_sem]
      have k1 : (w4.alloc (Obj.cells #[.float .f64 fa, .float .f64 fb] 26)).cell? ⟨w4.heap.size, 1, none⟩ = some (.float .f64 fb) := by simp [go_sem]
      have k2 : (w4.alloc (Obj.cells #[.float .f64 fa, .float .f64 fb] 26)).cell? ⟨w1.heap.size, 0, none⟩ = some (.float .f64 p) := ((Below.alloc (Below.refl _ w4) (Nat.le_refl _) _).cell (p := ⟨w1.heap.size, 0, none⟩) (by first | omega | (simp; done) | (simp; omega))).trans g0
      have k3 : (w4.alloc (Obj.cells #[.float .f64 fa, .float .f64 fb] 26)).cell? ⟨w1.heap.size, 1, none⟩ = some (.float .f64 q) := ((Below.alloc (Below.refl _ w4) (Nat.le_refl _) _).cell (p := ⟨w1.heap.size, 1, none⟩) (by first | omega | (simp; done) | (simp; omega))).trans g1
      have hz5 : w4.heap.size < (w4.alloc (Obj.cells #[.float .f64 fa, .float .f64 fb] 26)).heap.size := by simp
      replace hB := Below.alloc hB hB.size (Obj.cells #[.float .f64 fa, .float .f64 fb] 26)
      generalize w4.alloc (Obj.cells #[.float .f64 fa, .float .f64 fb] 26) = w5 at *
      have hk0 := fun w' (h : Below w5.heap.size w5 w') => (h.cell (p := ⟨w4.heap.size, 0, none⟩) (by first | omega | (simp; done) | (simp; omega))).trans k0
      have hk1 := fun w' (h : Below w5.heap.size w5 w') => (h.cell (p := ⟨w4.heap.size, 1, none⟩) (by first | omega | (simp; done) | (simp; omega))).trans k1
      have hk2 := fun w' (h : Below w5.heap.size w5 w') => (h.cell (p := ⟨w1.heap.size, 0, none⟩) (by first | omega | (simp; done) | (simp; omega))).trans k2
      have hk3 := fun w' (h : Below w5.heap.size w5 w') => (h.cell (p := ⟨w1.heap.size, 1, none⟩) (by first | omega | (simp; done) | (simp; omega))).trans k3
      clear k0 k1 k2 k3 g0 g1
      have hz0 := Below.refl w5.heap.size w5
      go_region_held3 (fun w' => Below w5.heap.size w5 w') ((repeat (first | assumption | apply Below.drew)))
        (first
          | (go_at_call 14; refine (mul_calls (v - 128, u - 100) b 200 2 fa fb p q _ ⟨by simp only; omega, by simp only; omega⟩ hb (by omega) ha1 ha2 hp hq).mono ?_; rintro e w6 ⟨p6, q6, rfl, hp6, hq6, hb6⟩; obtain ⟨hB6, hz6⟩ := bstep (n := w5.heap.size) (w := w5) (by assumption) hb6 (by simp))
          | (go_at_call 13; refine (div_calls (v - 128, u - 100) b p6 q6 p q _ ⟨by simp only; omega, by simp only; omega⟩ hb hN hp6 hq6 hp hq).mono ?_; rintro e w7 ⟨p7, q7, rfl, hp7, hq7, hb7⟩; obtain ⟨hB7, hz7⟩ := bstep (n := w5.heap.size) (w := w5) (by assumption) hb7 hB6.size)
          | (go_at_call 12; refine (equal_same (v - 128, u - 100) p7 q7 fa fb _ hp7 hq7 ha1 ha2).mono ?_; rintro e w8 ⟨rfl, hb8⟩; obtain ⟨hB8, hz8⟩ := bstep (n := w5.heap.size) (w := w5) (by assumption) hb8 hB7.size))
      go_wp2_with fail
      go_ret
      exact ⟨rfl, below_step hB hB8⟩
    by_cases c2 : pow2C b = 2
    · rw [decide_eq_false c1] at o1; subst o1
      rw [decide_eq_true c2] at o2; subst o2
      have hR := hR2 (by omega)
      clear o4 o8 hR2 hp hq hb2 ht hB2 g0 g1 f0 f1 hN c1 c2
      go_upto_region 7 with fail
      obtain ⟨b, p, q, hb, hN, hp, hq, hB, hz1, hz2, g0, g1⟩ := hR
      go_wp2_with fail
      refine (at_calls' w h 2 (by omega) (by omega) _ hB).mono ?_
      rintro e w3 ⟨v, rfl, hv0, hv1, hb3⟩
      obtain ⟨hB, hz3⟩ := bstep hB hb3 hB.size
      replace g0 := (hb3.cell (by first | omega | (simp; done) | (simp; omega))).trans g0
      replace g1 := (hb3.cell (by first | omega | (simp; done) | (simp; omega))).trans g1
      clear hb3
      go_wp2_with fail
      refine (at_calls' w h 3 (by omega) (by omega) _ hB).mono ?_
      rintro e w4 ⟨u, rfl, hu0, hu1, hb4⟩
      obtain ⟨hB, hz4⟩ := bstep hB hb4 hB.size
      replace g0 := (hb4.cell (by first | omega | (simp; done) | (simp; omega))).trans g0
      replace g1 := (hb4.cell (by first | omega | (simp; done) | (simp; omega))).trans g1
      clear hb4
      go_wp2_with fail
      have ha1 := of_int (v - 128) (by omega)
      have ha2 := of_int (u - 100) (by omega)
      generalize floatOfInt .f64 (v - 128) = fa at *
      generalize floatOfInt .f64 (u - 100) = fb at *
      have k0 : (w4.alloc (Obj.cells #[.float .f64 fa, .float .f64 fb] 26)).cell? ⟨w4.heap.size, 0, none⟩ = some (.float .f64 fa) := by simp [go_sem]
      have k1 : (w4.alloc (Obj.cells #[.float .f64 fa, .float .f64 fb] 26)).cell? ⟨w4.heap.size, 1, none⟩ = some (.float .f64 fb) := by simp [go_sem]
      have k2 : (w4.alloc (Obj.cells #[.float .f64 fa, .float .f64 fb] 26)).cell? ⟨w1.heap.size, 0, none⟩ = some (.float .f64 p) := ((Below.alloc (Below.refl _ w4) (Nat.le_refl _) _).cell (p := ⟨w1.heap.size, 0, none⟩) (by first | omega | (simp; done) | (simp; omega))).trans g0
      have k3 : (w4.alloc (Obj.cells #[.float .f64 fa, .float .f64 fb] 26)).cell? ⟨w1.heap.size, 1, none⟩ = some (.float .f64 q) := ((Below.alloc (Below.refl _ w4) (Nat.le_refl _) _).cell (p := ⟨w1.heap.size, 1, none⟩) (by first | omega | (simp; done) | (simp; omega))).trans g1
      have hz5 : w4.heap.size < (w4.alloc (Obj.cells #[.float .f64 fa, .float .f64 fb] 26)).heap.size := by simp
      replace hB := Below.alloc hB hB.size (Obj.cells #[.float .f64 fa, .float .f64 fb] 26)
      generalize w4.alloc (Obj.cells #[.float .f64 fa, .float .f64 fb] 26) = w5 at *
      have hk0 := fun w' (h : Below w5.heap.size w5 w') => (h.cell (p := ⟨w4.heap.size, 0, none⟩) (by first | omega | (simp; done) | (simp; omega))).trans k0
      have hk1 := fun w' (h : Below w5.heap.size w5 w') => (h.cell (p := ⟨w4.heap.size, 1, none⟩) (by first | omega | (simp; done) | (simp; omega))).trans k1
      have hk2 := fun w' (h : Below w5.heap.size w5 w') => (h.cell (p := ⟨w1.heap.size, 0, none⟩) (by first | omega | (simp; done) | (simp; omega))).trans k2
      have hk3 := fun w' (h : Below w5.heap.size w5 w') => (h.cell (p := ⟨w1.heap.size, 1, none⟩) (by first | omega | (simp; done) | (simp; omega))).trans k3
      clear k0 k1 k2 k3 g0 g1
      have hz0 := Below.refl w5.heap.size w5
      go_region_held3 (fun w' => Below w5.heap.size w5 w') ((repeat (first | assumption | apply Below.drew)))
        (first
          | (go_at_call 14; refine (mul_calls (v - 128, u - 100) b 200 2 fa fb p q _ ⟨by simp only; omega, by simp only; omega⟩ hb (by omega) ha1 ha2 hp hq).mono ?_; rintro e w6 ⟨p6, q6, rfl, hp6, hq6, hb6⟩; obtain ⟨hB6, hz6⟩ := bstep (n := w5.heap.size) (w := w5) (by assumption) hb6 (by simp))
          | (go_at_call 13; refine (div_calls (v - 128, u - 100) b p6 q6 p q _ ⟨by simp only; omega, by simp only; omega⟩ hb hN hp6 hq6 hp hq).mono ?_; rintro e w7 ⟨p7, q7, rfl, hp7, hq7, hb7⟩; obtain ⟨hB7, hz7⟩ := bstep (n := w5.heap.size) (w := w5) (by assumption) hb7 hB6.size)
          | (go_at_call 12; refine (equal_same (v - 128, u - 100) p7 q7 fa fb _ hp7 hq7 ha1 ha2).mono ?_; rintro e w8 ⟨rfl, hb8⟩; obtain ⟨hB8, hz8⟩ := bstep (n := w5.heap.size) (w := w5) (by assumption) hb8 hB7.size))
      go_wp2_with fail
      go_ret
      exact ⟨rfl, below_step hB hB8⟩
    by_cases c4 : pow2C b = 4
    · rw [decide_eq_false c1] at o1; subst o1
      rw [decide_eq_false c2] at o2; subst o2
      rw [decide_eq_true c4] at o4; subst o4
      have hR := hR2 (by omega)
      clear o8 hR2 hp hq hb2 ht hB2 g0 g1 f0 f1 hN c1 c2 c4
      go_upto_region 7 with fail
      obtain ⟨b, p, q, hb, hN, hp, hq, hB, hz1, hz2, g0, g1⟩ := hR
      go_wp2_with fail
      refine (at_calls' w h 2 (by omega) (by omega) _ hB).mono ?_
      rintro e w3 ⟨v, rfl, hv0, hv1, hb3⟩
      obtain ⟨hB, hz3⟩ := bstep hB hb3 hB.size
      replace g0 := (hb3.cell (by first | omega | (simp; done) | (simp; omega))).trans g0
      replace g1 := (hb3.cell (by first | omega | (simp; done) | (simp; omega))).trans g1
      clear hb3
      go_wp2_with fail
      refine (at_calls' w h 3 (by omega) (by omega) _ hB).mono ?_
      rintro e w4 ⟨u, rfl, hu0, hu1, hb4⟩
      obtain ⟨hB, hz4⟩ := bstep hB hb4 hB.size
      replace g0 := (hb4.cell (by first | omega | (simp; done) | (simp; omega))).trans g0
      replace g1 := (hb4.cell (by first | omega | (simp; done) | (simp; omega))).trans g1
      clear hb4
      go_wp2_with fail
      have ha1 := of_int (v - 128) (by omega)
      have ha2 := of_int (u - 100) (by omega)
      generalize floatOfInt .f64 (v - 128) = fa at *
      generalize floatOfInt .f64 (u - 100) = fb at *
      have k0 : (w4.alloc (Obj.cells #[.float .f64 fa, .float .f64 fb] 26)).cell? ⟨w4.heap.size, 0, none⟩ = some (.float .f64 fa) := by simp [go_sem]
      have k1 : (w4.alloc (Obj.cells #[.float .f64 fa, .float .f64 fb] 26)).cell? ⟨w4.heap.size, 1, none⟩ = some (.float .f64 fb) := by simp [go_sem]
      have k2 : (w4.alloc (Obj.cells #[.float .f64 fa, .float .f64 fb] 26)).cell? ⟨w1.heap.size, 0, none⟩ = some (.float .f64 p) := ((Below.alloc (Below.refl _ w4) (Nat.le_refl _) _).cell (p := ⟨w1.heap.size, 0, none⟩) (by first | omega | (simp; done) | (simp; omega))).trans g0
      have k3 : (w4.alloc (Obj.cells #[.float .f64 fa, .float .f64 fb] 26)).cell? ⟨w1.heap.size, 1, none⟩ = some (.float .f64 q) := ((Below.alloc (Below.refl _ w4) (Nat.le_refl _) _).cell (p := ⟨w1.heap.size, 1, none⟩) (by first | omega | (simp; done) | (simp; omega))).trans g1
      have hz5 : w4.heap.size < (w4.alloc (Obj.cells #[.float .f64 fa, .float .f64 fb] 26)).heap.size := by simp
      replace hB := Below.alloc hB hB.size (Obj.cells #[.float .f64 fa, .float .f64 fb] 26)
      generalize w4.alloc (Obj.cells #[.float .f64 fa, .float .f64 fb] 26) = w5 at *
      have hk0 := fun w' (h : Below w5.heap.size w5 w') => (h.cell (p := ⟨w4.heap.size, 0, none⟩) (by first | omega | (simp; done) | (simp; omega))).trans k0
      have hk1 := fun w' (h : Below w5.heap.size w5 w') => (h.cell (p := ⟨w4.heap.size, 1, none⟩) (by first | omega | (simp; done) | (simp; omega))).trans k1
      have hk2 := fun w' (h : Below w5.heap.size w5 w') => (h.cell (p := ⟨w1.heap.size, 0, none⟩) (by first | omega | (simp; done) | (simp; omega))).trans k2
      have hk3 := fun w' (h : Below w5.heap.size w5 w') => (h.cell (p := ⟨w1.heap.size, 1, none⟩) (by first | omega | (simp; done) | (simp; omega))).trans k3
      clear k0 k1 k2 k3 g0 g1
      have hz0 := Below.refl w5.heap.size w5
      go_region_held3 (fun w' => Below w5.heap.size w5 w') ((repeat (first | assumption | apply Below.drew)))
        (first
          | (go_at_call 14; refine (mul_calls (v - 128, u - 100) b 200 2 fa fb p q _ ⟨by simp only; omega, by simp only; omega⟩ hb (by omega) ha1 ha2 hp hq).mono ?_; rintro e w6 ⟨p6, q6, rfl, hp6, hq6, hb6⟩; obtain ⟨hB6, hz6⟩ := bstep (n := w5.heap.size) (w := w5) (by assumption) hb6 (by simp))
          | (go_at_call 13; refine (div_calls (v - 128, u - 100) b p6 q6 p q _ ⟨by simp only; omega, by simp only; omega⟩ hb hN hp6 hq6 hp hq).mono ?_; rintro e w7 ⟨p7, q7, rfl, hp7, hq7, hb7⟩; obtain ⟨hB7, hz7⟩ := bstep (n := w5.heap.size) (w := w5) (by assumption) hb7 hB6.size)
          | (go_at_call 12; refine (equal_same (v - 128, u - 100) p7 q7 fa fb _ hp7 hq7 ha1 ha2).mono ?_; rintro e w8 ⟨rfl, hb8⟩; obtain ⟨hB8, hz8⟩ := bstep (n := w5.heap.size) (w := w5) (by assumption) hb8 hB7.size))
      go_wp2_with fail
      go_ret
      exact ⟨rfl, below_step hB hB8⟩
    by_cases c8 : pow2C b = 8
    · rw [decide_eq_false c1] at o1; subst o1
      rw [decide_eq_false c2] at o2; subst o2
      rw [decide_eq_false c4] at o4; subst o4
      rw [decide_eq_true c8] at o8; subst o8
      have hR := hR2 (by omega)
      clear hR2 hp hq hb2 ht hB2 g0 g1 f0 f1 hN c1 c2 c4 c8
      go_upto_region 7 with fail
      obtain ⟨b, p, q, hb, hN, hp, hq, hB, hz1, hz2, g0, g1⟩ := hR
      go_wp2_with fail
      refine (at_calls' w h 2 (by omega) (by omega) _ hB).mono ?_
      rintro e w3 ⟨v, rfl, hv0, hv1, hb3⟩
      obtain ⟨hB, hz3⟩ := bstep hB hb3 hB.size
      replace g0 := (hb3.cell (by first | omega | (simp; done) | (simp; omega))).trans g0
      replace g1 := (hb3.cell (by first | omega | (simp; done) | (simp; omega))).trans g1
      clear hb3
      go_wp2_with fail
      refine (at_calls' w h 3 (by omega) (by omega) _ hB).mono ?_
      rintro e w4 ⟨u, rfl, hu0, hu1, hb4⟩
      obtain ⟨hB, hz4⟩ := bstep hB hb4 hB.size
      replace g0 := (hb4.cell (by first | omega | (simp; done) | (simp; omega))).trans g0
      replace g1 := (hb4.cell (by first | omega | (simp; done) | (simp; omega))).trans g1
      clear hb4
      go_wp2_with fail
      have ha1 := of_int (v - 128) (by omega)
      have ha2 := of_int (u - 100) (by omega)
      generalize floatOfInt .f64 (v - 128) = fa at *
      generalize floatOfInt .f64 (u - 100) = fb at *
      have k0 : (w4.alloc (Obj.cells #[.float .f64 fa, .float .f64 fb] 26)).cell? ⟨w4.heap.size, 0, none⟩ = some (.float .f64 fa) := by simp [go_sem]
      have k1 : (w4.alloc (Obj.cells #[.float .f64 fa, .float .f64 fb] 26)).cell? ⟨w4.heap.size, 1, none⟩ = some (.float .f64 fb) := by simp [go_sem]
      have k2 : (w4.alloc (Obj.cells #[.float .f64 fa, .float .f64 fb] 26)).cell? ⟨w1.heap.size, 0, none⟩ = some (.float .f64 p) := ((Below.alloc (Below.refl _ w4) (Nat.le_refl _) _).cell (p := ⟨w1.heap.size, 0, none⟩) (by first | omega | (simp; done) | (simp; omega))).trans g0
      have k3 : (w4.alloc (Obj.cells #[.float .f64 fa, .float .f64 fb] 26)).cell? ⟨w1.heap.size, 1, none⟩ = some (.float .f64 q) := ((Below.alloc (Below.refl _ w4) (Nat.le_refl _) _).cell (p := ⟨w1.heap.size, 1, none⟩) (by first | omega | (simp; done) | (simp; omega))).trans g1
      have hz5 : w4.heap.size < (w4.alloc (Obj.cells #[.float .f64 fa, .float .f64 fb] 26)).heap.size := by simp
      replace hB := Below.alloc hB hB.size (Obj.cells #[.float .f64 fa, .float .f64 fb] 26)
      generalize w4.alloc (Obj.cells #[.float .f64 fa, .float .f64 fb] 26) = w5 at *
      have hk0 := fun w' (h : Below w5.heap.size w5 w') => (h.cell (p := ⟨w4.heap.size, 0, none⟩) (by first | omega | (simp; done) | (simp; omega))).trans k0
      have hk1 := fun w' (h : Below w5.heap.size w5 w') => (h.cell (p := ⟨w4.heap.size, 1, none⟩) (by first | omega | (simp; done) | (simp; omega))).trans k1
      have hk2 := fun w' (h : Below w5.heap.size w5 w') => (h.cell (p := ⟨w1.heap.size, 0, none⟩) (by first | omega | (simp; done) | (simp; omega))).trans k2
      have hk3 := fun w' (h : Below w5.heap.size w5 w') => (h.cell (p := ⟨w1.heap.size, 1, none⟩) (by first | omega | (simp; done) | (simp; omega))).trans k3
      clear k0 k1 k2 k3 g0 g1
      have hz0 := Below.refl w5.heap.size w5
      go_region_held3 (fun w' => Below w5.heap.size w5 w') ((repeat (first | assumption | apply Below.drew)))
        (first
          | (go_at_call 14; refine (mul_calls (v - 128, u - 100) b 200 2 fa fb p q _ ⟨by simp only; omega, by simp only; omega⟩ hb (by omega) ha1 ha2 hp hq).mono ?_; rintro e w6 ⟨p6, q6, rfl, hp6, hq6, hb6⟩; obtain ⟨hB6, hz6⟩ := bstep (n := w5.heap.size) (w := w5) (by assumption) hb6 (by simp))
          | (go_at_call 13; refine (div_calls (v - 128, u - 100) b p6 q6 p q _ ⟨by simp only; omega, by simp only; omega⟩ hb hN hp6 hq6 hp hq).mono ?_; rintro e w7 ⟨p7, q7, rfl, hp7, hq7, hb7⟩; obtain ⟨hB7, hz7⟩ := bstep (n := w5.heap.size) (w := w5) (by assumption) hb7 hB6.size)
          | (go_at_call 12; refine (equal_same (v - 128, u - 100) p7 q7 fa fb _ hp7 hq7 ha1 ha2).mono ?_; rintro e w8 ⟨rfl, hb8⟩; obtain ⟨hB8, hz8⟩ := bstep (n := w5.heap.size) (w := w5) (by assumption) hb8 hB7.size))
      go_wp2_with fail
      go_ret
      exact ⟨rfl, below_step hB hB8⟩
    · rw [decide_eq_false c1] at o1; subst o1
      rw [decide_eq_false c2] at o2; subst o2
      rw [decide_eq_false c4] at o4; subst o4
      rw [decide_eq_false c8] at o8; subst o8
      clear hR2 hp hq hb2 ht hN c1 c2 c4 c8
      go_upto_region 7 with fail
      have hR : Ready w w1.heap.size ((w2.setCell ⟨w1.heap.size, 0, none⟩ (.float .f64 4607182418800017408)).setCell ⟨w1.heap.size, 1, none⟩ (.float .f64 4607182418800017408)) := by
        refine ⟨(1, 1), _, _, ⟨by decide, by decide⟩, by decide, one_int, one_int, (hB2.setCell hz1 _).setCell hz1 _, hz1, by first | omega | (simp; done) | (simp; omega), ?_, ?_⟩ <;> simp [g0, g1, go_sem]
      generalize (w2.setCell ⟨w1.heap.size, 0, none⟩ (.float .f64 4607182418800017408)).setCell ⟨w1.heap.size, 1, none⟩ (.float .f64 4607182418800017408) = w9 at *
      clear g0 g1 f0 f1 hB2 hz2
      obtain ⟨b, p, q, hb, hN, hp, hq, hB, hz1, hz2, g0, g1⟩ := hR
      go_wp2_with fail
      refine (at_calls' w h 2 (by omega) (by omega) _ hB).mono ?_
      rintro e w3 ⟨v, rfl, hv0, hv1, hb3⟩
      obtain ⟨hB, hz3⟩ := bstep hB hb3 hB.size
      replace g0 := (hb3.cell (by first | omega | (simp; done) | (simp; omega))).trans g0
      replace g1 := (hb3.cell (by first | omega | (simp; done) | (simp; omega))).trans g1
      clear hb3
      go_wp2_with fail
      refine (at_calls' w h 3 (by omega) (by omega) _ hB).mono ?_
      rintro e w4 ⟨u, rfl, hu0, hu1, hb4⟩
      obtain ⟨hB, hz4⟩ := bstep hB hb4 hB.size
      replace g0 := (hb4.cell (by first | omega | (simp; done) | (simp; omega))).trans g0
      replace g1 := (hb4.cell (by first | omega | (simp; done) | (simp; omega))).trans g1
      clear hb4
      go_wp2_with fail
      have ha1 := of_int (v - 128) (by omega)
      have ha2 := of_int (u - 100) (by omega)
      generalize floatOfInt .f64 (v - 128) = fa at *
      generalize floatOfInt .f64 (u - 100) = fb at *
      have k0 : (w4.alloc (Obj.cells #[.float .f64 fa, .float .f64 fb] 26)).cell? ⟨w4.heap.size, 0, none⟩ = some (.float .f64 fa) := by simp [go_sem]
      have k1 : (w4.alloc (Obj.cells #[.float .f64 fa, .float .f64 fb] 26)).cell? ⟨w4.heap.size, 1, none⟩ = some (.float .f64 fb) := by simp [go_sem]
      have k2 : (w4.alloc (Obj.cells #[.float .f64 fa, .float .f64 fb] 26)).cell? ⟨w1.heap.size, 0, none⟩ = some (.float .f64 p) := ((Below.alloc (Below.refl _ w4) (Nat.le_refl _) _).cell (p := ⟨w1.heap.size, 0, none⟩) (by first | omega | (simp; done) | (simp; omega))).trans g0
      have k3 : (w4.alloc (Obj.cells #[.float .f64 fa, .float .f64 fb] 26)).cell? ⟨w1.heap.size, 1, none⟩ = some (.float .f64 q) := ((Below.alloc (Below.refl _ w4) (Nat.le_refl _) _).cell (p := ⟨w1.heap.size, 1, none⟩) (by first | omega | (simp; done) | (simp; omega))).trans g1
      have hz5 : w4.heap.size < (w4.alloc (Obj.cells #[.float .f64 fa, .float .f64 fb] 26)).heap.size := by simp
      replace hB := Below.alloc hB hB.size (Obj.cells #[.float .f64 fa, .float .f64 fb] 26)
      generalize w4.alloc (Obj.cells #[.float .f64 fa, .float .f64 fb] 26) = w5 at *
      have hk0 := fun w' (h : Below w5.heap.size w5 w') => (h.cell (p := ⟨w4.heap.size, 0, none⟩) (by first | omega | (simp; done) | (simp; omega))).trans k0
      have hk1 := fun w' (h : Below w5.heap.size w5 w') => (h.cell (p := ⟨w4.heap.size, 1, none⟩) (by first | omega | (simp; done) | (simp; omega))).trans k1
      have hk2 := fun w' (h : Below w5.heap.size w5 w') => (h.cell (p := ⟨w1.heap.size, 0, none⟩) (by first | omega | (simp; done) | (simp; omega))).trans k2
      have hk3 := fun w' (h : Below w5.heap.size w5 w') => (h.cell (p := ⟨w1.heap.size, 1, none⟩) (by first | omega | (simp; done) | (simp; omega))).trans k3
      clear k0 k1 k2 k3 g0 g1
      have hz0 := Below.refl w5.heap.size w5
      go_region_held3 (fun w' => Below w5.heap.size w5 w') ((repeat (first | assumption | apply Below.drew)))
        (first
          | (go_at_call 14; refine (mul_calls (v - 128, u - 100) b 200 2 fa fb p q _ ⟨by simp only; omega, by simp only; omega⟩ hb (by omega) ha1 ha2 hp hq).mono ?_; rintro e w6 ⟨p6, q6, rfl, hp6, hq6, hb6⟩; obtain ⟨hB6, hz6⟩ := bstep (n := w5.heap.size) (w := w5) (by assumption) hb6 (by simp))
          | (go_at_call 13; refine (div_calls (v - 128, u - 100) b p6 q6 p q _ ⟨by simp only; omega, by simp only; omega⟩ hb hN hp6 hq6 hp hq).mono ?_; rintro e w7 ⟨p7, q7, rfl, hp7, hq7, hb7⟩; obtain ⟨hB7, hz7⟩ := bstep (n := w5.heap.size) (w := w5) (by assumption) hb7 hB6.size)
          | (go_at_call 12; refine (equal_same (v - 128, u - 100) p7 q7 fa fb _ hp7 hq7 ha1 ha2).mono ?_; rintro e w8 ⟨rfl, hb8⟩; obtain ⟨hB8, hz8⟩ := bstep (n := w5.heap.size) (w := w5) (by assumption) hb8 hB7.size))
      go_wp2_with fail
      go_ret
      exact ⟨rfl, below_step hB hB8⟩
end Go.Proofs.Ytodgognfnpcdgaa.FltC
