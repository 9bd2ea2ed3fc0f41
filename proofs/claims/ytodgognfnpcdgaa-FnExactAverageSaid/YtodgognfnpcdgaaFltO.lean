/- The walks of sameFloat, eqPair, Power2 (both), toPair: floats that may be NaN. -/
import Derived.Test.YtodgognfnpcdgaaFltN
namespace Go.Proofs.Ytodgognfnpcdgaa.FltO
open Go.RowKit Go.Proofs.Ytodgognfnpcdgaa.Flt Go.Proofs.Ytodgognfnpcdgaa.FltA Go.Proofs.Ytodgognfnpcdgaa.FltB Go.Proofs.Ytodgognfnpcdgaa.FltD Go.Proofs.Ytodgognfnpcdgaa.FltN Go.Proofs.YtodgognfnpcdgaaW.PrintWords
set_option linter.unusedVariables false
set_option linter.unusedSimpArgs false
attribute [local go_sem] run_store_float

def pw2 (p q : Option Nat) : Option Nat := opC .add (opC .mul p p) (opC .mul q q)
/-- a float comes back, in one of the class x -/
def RetX (x : Option Nat) (w : World) (e : Ending) (w' : World) : Prop := ∃ r, e = .returned (.float .f64 r) ∧ cls r = x ∧ Below w.heap.size w w'

theorem ipower2_calls (p q : Nat) (w : World) : Calls Try.prog 10 #[.agg #[.float .f64 p, .float .f64 q]] w (RetX (pw2 (cls p) (cls q)) w) := by
  obtain ⟨r, n, o1, h1⟩ := run_any (P := Try.prog) .mul (.inr (.inr (.inl rfl))) p p (w.alloc (.cells #[.float .f64 p, .float .f64 q] 26))
  obtain ⟨s, m, o2, h2⟩ := run_any (P := Try.prog) .mul (.inr (.inr (.inl rfl))) q q ((w.alloc (.cells #[.float .f64 p, .float .f64 q] 26)).drewN n)
  obtain ⟨t, k, o3, h3⟩ := run_any (P := Try.prog) .add (.inl rfl) r s ((w.alloc (.cells #[.float .f64 p, .float .f64 q] 26)).drewN (n + m))
  refine Calls.mono (R := fun e w' => e = .returned (.float .f64 t) ∧ Below w.heap.size w w') ?_ fun e w' h => ⟨t, h.1, by rw [h3, h2, h1]; rfl, h.2⟩
  clear h1 h2 h3
  go_enter Try.func10, Try.ntmps10
  go_wp2_with (simp only [o1, o2, o3])
  go_ret
  exact ⟨rfl, by repeat (first | exact Below.refl _ _ | apply below_alloc | apply pw_below_drewN)⟩

theorem spower2_calls (p q : Nat) (w : World) : Calls Try.prog 36 #[.agg #[.float .f64 p, .float .f64 q]] w (RetX (pw2 (cls p) (cls q)) w) := by
  obtain ⟨r, n, o1, h1⟩ := run_any (P := Try.prog) .mul (.inr (.inr (.inl rfl))) p p (w.alloc (.cells #[.float .f64 p, .float .f64 q] 26))
  obtain ⟨s, m, o2, h2⟩ := run_any (P := Try.prog) .mul (.inr (.inr (.inl rfl))) q q ((w.alloc (.cells #[.float .f64 p, .float .f64 q] 26)).drewN n)
  obtain ⟨t, k, o3, h3⟩ := run_any (P := Try.prog) .add (.inl rfl) r s ((w.alloc (.cells #[.float .f64 p, .float .f64 q] 26)).drewN (n + m))
  refine Calls.mono (R := fun e w' => e = .returned (.float .f64 t) ∧ Below w.heap.size w w') ?_ fun e w' h => ⟨t, h.1, by rw [h3, h2, h1]; rfl, h.2⟩
  clear h1 h2 h3
  go_enter Try.func36, Try.ntmps36
  go_wp2_with (simp only [o1, o2, o3])
  go_ret
  exact ⟨rfl, by repeat (first | exact Below.refl _ _ | apply below_alloc | apply pw_below_drewN)⟩

theorem toPair_calls (p q : Nat) (w : World) : Calls Try.prog 37 #[.agg #[.float .f64 p, .float .f64 q]] w fun e w' => e = .returned (.agg #[.float .f64 p, .float .f64 q]) ∧ Below w.heap.size w w' := by
  go_enter Try.func37, Try.ntmps37
  go_wp2
  refine bodyPost_ret (v := .agg #[.float .f64 p, .float .f64 q]) (by simp [results, Try.results37, go_sem]) rfl ⟨rfl, ?_⟩
  repeat (first | exact Below.refl _ _ | apply below_alloc | apply pw_below_drewN)

set_option maxHeartbeats 1000000 in
theorem same_calls (a b : Nat) (h : cls a = cls b) (w : World) : Calls Try.prog 38 #[.float .f64 a, .float .f64 b] w fun e w' => e = .returned (.bool true) ∧ Below w.heap.size w w' := by
  cases ha : cls a with
  | none =>
    rw [ha] at h
    have o1 : (FloatKind.f64.format.order a a != some .eq) = true := by rw [order_nan_left ha]; rfl
    have o2 : (FloatKind.f64.format.order b b != some .eq) = true := by rw [order_nan_left h.symm]; rfl
    clear ha h
    go_enter Try.func38, Try.ntmps38
    go_wp2
    go_ret
    exact ⟨rfl, Below.refl _ _⟩
  | some a' =>
    obtain ⟨rfl, hn⟩ := cls_some ha
    rw [ha] at h
    obtain ⟨rfl, _⟩ := cls_some h.symm
    have hs := order_self ha
    have o1 : (FloatKind.f64.format.order a' a' != some .eq) = false := by rw [hs]; rfl
    have o2 : (FloatKind.f64.format.order a' a' == some .eq) = true := by rw [hs]; rfl
    clear hn h hs
    cases hz : (FloatKind.f64.format.order a' 0 == some .eq) with
    | false =>
      go_enter Try.func38, Try.ntmps38
      go_wp2
      go_ret
      exact ⟨rfl, Below.refl _ _⟩
    | true =>
      obtain ⟨r, n, q1, h1⟩ := run_any (P := Try.prog) .quo (.inr (.inr (.inr rfl))) 4607182418800017408 a' w
      obtain ⟨s, m, q2, h2⟩ := run_any (P := Try.prog) .quo (.inr (.inr (.inr rfl))) 4607182418800017408 a' (w.drewN n)
      have hrs : (FloatKind.f64.format.order r 0 == some .gt) = (FloatKind.f64.format.order s 0 == some .gt) := by
        rw [← h1] at h2
        cases hr : cls r with
        | none => rw [hr] at h2; rw [order_nan_left hr, order_nan_left h2]
        | some r' =>
          obtain ⟨rfl, _⟩ := cls_some hr
          rw [hr] at h2
          obtain ⟨rfl, _⟩ := cls_some h2
          rfl
      generalize hy : (FloatKind.f64.format.order s 0 == some .gt) = y at hrs
      clear h1 h2
      go_enter Try.func38, Try.ntmps38
      go_wp2_with (simp only [q1, q2])
      go_ret
      exact ⟨rfl, by repeat (first | exact Below.refl _ _ | apply pw_below_drewN)⟩

theorem eqPair_calls (p q r s : Nat) (h1 : cls p = cls r) (h2 : cls q = cls s) (w : World) :
    Calls Try.prog 39 #[.agg #[.float .f64 p, .float .f64 q], .agg #[.float .f64 r, .float .f64 s]] w fun e w' => e = .returned (.bool true) ∧ Below w.heap.size w w' := by
  go_enter Try.func39, Try.ntmps39
  go_wp2_with fail
  refine (same_calls p r h1 _).mono ?_
  rintro e w1 ⟨rfl, hb1⟩
  have hb : Below w.heap.size w w1 := (bstep (w1 := (w.alloc (.cells #[.float .f64 p, .float .f64 q] 26)).alloc (.cells #[.float .f64 r, .float .f64 s] 26)) (by repeat (first | exact Below.refl _ _ | apply below_alloc)) hb1 (by simp; omega)).1
  have c1 : w1.cell? ⟨w.heap.size, 1, none⟩ = some (.float .f64 q) := (hb1.cell (p := ⟨w.heap.size, 1, none⟩) (by simp; omega)).trans (by simp [go_sem])
  have c2 : w1.cell? ⟨w.heap.size + 1, 1, none⟩ = some (.float .f64 s) := (hb1.cell (p := ⟨w.heap.size + 1, 1, none⟩) (by simp)).trans (by simp [go_sem])
  clear hb1
  go_wp2_with fail
  refine (same_calls q s h2 _).mono ?_
  rintro e w2 ⟨rfl, hb2⟩
  have hb3 := below_step hb hb2
  clear hb hb2 c1 c2
  go_wp2_with fail
  go_ret
  exact ⟨rfl, hb3⟩

/-- the cells of a row of floats that is read -/
def Flat (w : World) (A : Option Addr) (N : Nat) (bs : List Nat) : Prop := bs.length = N ∧ (0 < N → ∃ ad, A = some ad ∧ ∀ j, j < N → w.cell? (ad.add j) = some (.float .f64 (bs.getD j 0)))
theorem Flat.below {w w1 : World} {A : Option Addr} {N : Nat} {bs : List Nat} (h : Flat w A N bs) (hb : Below w.heap.size w w1) : Flat w1 A N bs :=
  ⟨h.1, fun hn => by
    obtain ⟨ad, e, hc⟩ := h.2 hn
    exact ⟨ad, e, fun j hj => (hb.cell (World.block_lt_of_cell? w _ (hc j hj))).trans (hc j hj)⟩⟩
theorem Flat.at1 {w : World} {A : Option Addr} {N : Nat} {bs : List Nat} (h : Flat w A N bs) (j : Nat) (hj : j < N) : ∃ ad, A = some ad ∧ ∀ W, Below w.heap.size w W → W.cell? (ad.add j) = some (.float .f64 (bs.getD j 0)) := by
  obtain ⟨ad, e, hc⟩ := h.2 (by omega)
  exact ⟨ad, e, fun W hb => (hb.cell (World.block_lt_of_cell? w _ (hc j hj))).trans (hc j hj)⟩
theorem Flat.at2 {w : World} {A : Option Addr} {n : Nat} {bs : List Nat} (h : Flat w A (n * 2) bs) (i : Nat) (hi : i < n) : ∃ ad, A = some ad ∧ ∀ W, Below w.heap.size w W → W.cell? (ad.add (i * 2)) = some (.float .f64 (bs.getD (i * 2) 0)) ∧ W.cell? ⟨(ad.add (i * 2)).block, (ad.add (i * 2)).off + 1, none⟩ = some (.float .f64 (bs.getD (i * 2 + 1) 0)) := by
  obtain ⟨ad, e, hc⟩ := h.2 (by omega)
  have c0 := hc (i * 2) (by omega)
  have c1 := hc (i * 2 + 1) (by omega)
  rw [add_field ad (i * 2) 1 (by omega)] at c1
  exact ⟨ad, e, fun W hb => ⟨(hb.cell (World.block_lt_of_cell? w _ c0)).trans c0, (hb.cell (World.block_lt_of_cell? w _ c1)).trans c1⟩⟩
/-- a row of floats of the call's own -/
structure FOwn (w : World) (base : Nat) (e : TypeId) (sz : Nat) (v : Value) (n : Nat) (bs : List Nat) : Prop where mk :: (out : w.ownsRow base e sz v n (bs.map (Value.float .f64)))
theorem FOwn.flat {w : World} {base : Nat} {e : TypeId} {sz : Nat} {v : Value} {n : Nat} {bs : List Nat} (h : FOwn w base e sz v n bs) : ∃ A c, v = .slice A n c ∧ n ≤ c ∧ Flat w A (n * sz) bs := by
  have hl : bs.length = n * sz := by simpa using h.out.1
  rcases Nat.eq_zero_or_pos n with h0 | h0
  · subst h0
    rcases h.out.2 with ⟨h1, h2⟩ | ⟨g, cap, cur, h1, _⟩
    · exact ⟨none, 0, h1, Nat.le_refl _, hl, fun hn => by omega⟩
    · exact ⟨_, cap, h1, Nat.zero_le _, hl, fun hn => by omega⟩
  · rcases h.out.2 with ⟨h1, h2⟩ | ⟨g, cap, cur, rfl, _, _, hcap, _⟩
    · omega
    refine ⟨_, cap, rfl, hcap, hl, fun hn => ⟨_, rfl, fun j hj => ?_⟩⟩
    refine h.out.cells (g := g) rfl j _ ?_
    rw [List.getElem?_map, List.getD_eq_getElem?_getD, List.getElem?_eq_getElem (by omega)]
    rfl
theorem pairwise_eq {xs ys : List Nat} (h : xs.map cls = ys.map cls) (j : Nat) : cls (xs.getD j 0) = cls (ys.getD j 0) := by
  have h1 := congrArg (fun l => l[j]?) h
  simp only [List.getElem?_map] at h1
  rw [List.getD_eq_getElem?_getD, List.getD_eq_getElem?_getD]
  cases ha : xs[j]? <;> cases hb : ys[j]? <;> rw [ha, hb] at h1 <;> simp at h1 ⊢ <;> first | exact h1 | rfl

end Go.Proofs.Ytodgognfnpcdgaa.FltO
