/- The walk of FnExactPush. -/
import Derived.Test.YtlgepbckgfcklaaLawW
namespace Go.Proofs.Ytlgepbckgfcklaa.PushL
open Go.RowKit Go.Proofs.Ytlgepbckgfcklaa.LawW Go.Proofs.Ytlgepbckgfcklaa.PushP Go.Proofs.Ytlgepbckgfcklaa.Base Go.Proofs.YtlgepbckgfcklaaW.PrintWords Go.Proofs.YtlgepbckgfcklaaW.PrintLast Go.Proofs.YtlgepbckgfcklaaW.PrintMore
set_option linter.unusedVariables false
set_option linter.unusedSimpArgs false

theorem bstep {n : Nat} {w w1 w2 : World} (h : Below n w w1) (h' : Below w1.heap.size w1 w2) (hn : n ≤ w1.heap.size) : Below n w w2 ∧ w1.heap.size ≤ w2.heap.size := ⟨h.trans (h'.mono hn), h'.size⟩
set_option maxHeartbeats 8000000 in
set_option maxRecDepth 100000 in
theorem law_calls {A A1 : Option Addr} {n n1 c c1 : Nat} {l l1 : List Int} {p : Int} (w : World) (h : Red w A n c l) (h1 : Red w A1 n1 c1 l1) (hm : l.length ≤ maxLen) (hm1 : l1.length ≤ maxLen) :
    Calls Try.prog 3 #[.agg #[.slice A n c, .int .i64 p], .slice A1 n1 c1] w fun e w' => e = .returned (.bool true) ∧ Below w.heap.size w w' := by
  have hln := h.len
  have hln1 := h1.len
  have e1 : n ≤ l.length := by omega
  have e2 : l.length ≤ n := by omega
  have e3 : n1 ≤ l1.length := by omega
  have e4 : l1.length ≤ n1 := by omega
  clear hln hln1
  unfold maxLen at hm1
  by_cases c1 : n1 ≤ 1048576
  · obtain ⟨v, hv, hsz⟩ := szRing_calls (p := p) w h hm
    go_enter Try.func3, Try.ntmps3
    have hb := Below.refl w.heap.size w
    have h0 := h
    have h10 := h1
    go_upto_region 1 with fail
    have hbn : Below w.heap.size w (w.alloc (.cells #[.slice A n c, .int .i64 p] 24)) := below_alloc (Below.refl _ _) _
    have x2 : (w.alloc (.cells #[.slice A n c, .int .i64 p] 24)).heap[w.heap.size]? = some (.cells #[.slice A n c, .int .i64 p] 24 (0, 0)) := heap_alloc_new w _
    replace h := Red.below h hbn
    replace h1 := Red.below h1 hbn
    have hz0 := hbn.size
    replace hb := below_step hb hbn
    clear hbn
    generalize (w.alloc (.cells #[.slice A n c, .int .i64 p] 24)) = w1 at *
    obtain ⟨y0, y1⟩ := box_cells x2
    go_wp2_with fail
    refine (hsz _ h).mono ?_
    rintro e w2 ⟨rfl, hbn⟩
    replace h := Red.below h hbn
    replace h1 := Red.below h1 hbn
    replace x2 := blk_below x2 hbn
    have hz1 := hbn.size
    replace hb := below_step hb hbn
    clear hbn
    clear y0 y1 hsz
    by_cases hneg : v < 0
    · have hneg2 : decide (v < 0) = true := decide_eq_true hneg
      go_wp2_with fail
      go_ret
      exact ⟨rfl, hb⟩
    have hl := hv (by omega)
    have hneg2 : decide (v < 0) = false := decide_eq_false hneg
    clear hv
    obtain ⟨g1, g2⟩ := pushR_len l p l1 (by omega) (by omega)
    generalize hR : pushR l p l1 = R at *
    have HR := Lib.hid hR
    clear hR
    obtain ⟨r1, r2, r3, r4⟩ := R
    dsimp only at g1 g2
    obtain ⟨y0, y1⟩ := box_cells x2
    go_wp2_with fail
    refine (toRing_calls _ h (by omega)).mono ?_
    rintro e w3 ⟨A3, c3, rfl, o3, hbn⟩
    replace h := Red.below h hbn
    replace h1 := Red.below h1 hbn
    replace x2 := blk_below x2 hbn
    have hz2 := hbn.size
    replace hb := below_step hb hbn
    clear hbn
    have q3 := o3.red
    clear o3 y0 y1
    go_wp2_with fail
    refine (toInts_calls _ h1 (by omega)).mono ?_
    rintro e w4 ⟨A4, c4, rfl, o4, hbn⟩
    replace h := Red.below h hbn
    replace h1 := Red.below h1 hbn
    replace q3 := Red.below q3 hbn
    replace x2 := blk_below x2 hbn
    have hz3 := hbn.size
    replace hb := below_step hb hbn
    clear hbn
    have q4 := o4.red
    clear o4
    go_wp2_with fail
    have hps := spush_calls (p := p) _ q3 q4 (by omega) (by omega)
    rw [HR.out] at hps
    refine hps.mono ?_
    rintro e w5 ⟨As, cs, Bs, ds, rfl, os1, os2, hbn, ds12⟩
    clear hps
    clear q3 q4
    have bs1 := os1.block
    have bs2 := os2.block
    replace h := Red.below h hbn
    replace h1 := Red.below h1 hbn
    replace x2 := blk_below x2 hbn
    have hz4 := hbn.size
    replace hb := below_step hb hbn
    clear hbn
    go_upto_region 8 with fail
    have hbn : Below w5.heap.size w5 (w5.alloc (.cells #[.slice As r1.length cs, .int .i64 r2] 26)) := below_alloc (Below.refl _ _) _
    have x6 : (w5.alloc (.cells #[.slice As r1.length cs, .int .i64 r2] 26)).heap[w5.heap.size]? = some (.cells #[.slice As r1.length cs, .int .i64 r2] 26 (0, 0)) := heap_alloc_new w5 _
    replace os1 := Own.below os1 hbn
    replace os2 := Own.below os2 hbn
    replace h := Red.below h hbn
    replace h1 := Red.below h1 hbn
    replace x2 := blk_below x2 hbn
    have hz5 := hbn.size
    replace hb := below_step hb hbn
    clear hbn
    generalize (w5.alloc (.cells #[.slice As r1.length cs, .int .i64 r2] 26)) = w6 at *
    generalize hB : w5.heap.size = Bx6 at *
    clear hB
    obtain ⟨y0, y1⟩ := box_cells x2
    go_wp2_with fail
    refine (toRing_calls _ h (by omega)).mono ?_
    rintro e w7 ⟨A9, c9, rfl, o9, hbn⟩
    replace os1 := Own.below os1 hbn
    replace os2 := Own.below os2 hbn
    replace h := Red.below h hbn
    replace h1 := Red.below h1 hbn
    replace x2 := blk_below x2 hbn
    replace x6 := blk_below x6 hbn
    have hz6 := hbn.size
    replace hb := below_step hb hbn
    clear hbn
    clear y0 y1
    have b9 := o9.block
    go_upto_region 9 with fail
    have hbn : Below w7.heap.size w7 (w7.alloc (.cells #[.slice A9 l.length c9, .int .i64 p] 26)) := below_alloc (Below.refl _ _) _
    have x9 : (w7.alloc (.cells #[.slice A9 l.length c9, .int .i64 p] 26)).heap[w7.heap.size]? = some (.cells #[.slice A9 l.length c9, .int .i64 p] 26 (0, 0)) := heap_alloc_new w7 _
    replace os1 := Own.below os1 hbn
    replace os2 := Own.below os2 hbn
    replace o9 := Own.below o9 hbn
    replace h := Red.below h hbn
    replace h1 := Red.below h1 hbn
    replace x2 := blk_below x2 hbn
    replace x6 := blk_below x6 hbn
    have hz7 := hbn.size
    replace hb := below_step hb hbn
    clear hbn
    generalize (w7.alloc (.cells #[.slice A9 l.length c9, .int .i64 p] 26)) = w8 at *
    generalize hB : w7.heap.size = Bx9 at *
    clear hB
    go_wp2_with fail
    refine (toInts_calls _ h1 (by omega)).mono ?_
    rintro e w9 ⟨A10, c10, rfl, o10, hbn⟩
    replace os1 := Own.below os1 hbn
    replace os2 := Own.below os2 hbn
    replace o9 := Own.below o9 hbn
    replace h := Red.below h hbn
    replace h1 := Red.below h1 hbn
    replace x2 := blk_below x2 hbn
    replace x6 := blk_below x6 hbn
    replace x9 := blk_below x9 hbn
    have hz8 := hbn.size
    replace hb := below_step hb hbn
    clear hbn
    have b10 := o10.block
    go_upto_region 10 with fail
    obtain ⟨y0, y1⟩ := box_cells x9
    go_wp2_with fail
    have hps := push_calls (p := p) _ o9.red o10.red (by omega) (by omega)
    rw [HR.out] at hps
    refine hps.mono ?_
    rintro e w10 ⟨Ag, cg, Bg, dg, rfl, og1, og2, hbn, dg12⟩
    clear hps y0 y1
    have bg1 := og1.block
    have bg2 := og2.block
    replace os1 := Own.below os1 hbn
    replace os2 := Own.below os2 hbn
    replace o9 := Own.below o9 hbn
    replace o10 := Own.below o10 hbn
    replace h := Red.below h hbn
    replace h1 := Red.below h1 hbn
    replace x2 := blk_below x2 hbn
    replace x6 := blk_below x6 hbn
    replace x9 := blk_below x9 hbn
    have hz9 := hbn.size
    replace hb := below_step hb hbn
    clear hbn
    go_upto_region 11 with fail
    have hbn : Below w10.heap.size w10 (w10.alloc (.cells #[.slice Ag r1.length cg, .int .i64 r2] 26)) := below_alloc (Below.refl _ _) _
    have x11 : (w10.alloc (.cells #[.slice Ag r1.length cg, .int .i64 r2] 26)).heap[w10.heap.size]? = some (.cells #[.slice Ag r1.length cg, .int .i64 r2] 26 (0, 0)) := heap_alloc_new w10 _
    replace os1 := Own.below os1 hbn
    replace os2 := Own.below os2 hbn
    replace o9 := Own.below o9 hbn
    replace o10 := Own.below o10 hbn
    replace og1 := Own.below og1 hbn
    replace og2 := Own.below og2 hbn
    replace h := Red.below h hbn
    replace h1 := Red.below h1 hbn
    replace x2 := blk_below x2 hbn
    replace x6 := blk_below x6 hbn
    replace x9 := blk_below x9 hbn
    have hz10 := hbn.size
    replace hb := below_step hb hbn
    clear hbn
    generalize (w10.alloc (.cells #[.slice Ag r1.length cg, .int .i64 r2] 26)) = w11 at *
    generalize hB : w10.heap.size = Bx11 at *
    clear hB
    obtain ⟨ay0, ay1⟩ := box_cells x11
    obtain ⟨by0, by1⟩ := box_cells x6
    go_wp2_with fail
    refine (eqRing_calls (p := r2) _ og1.red os1.red (by omega)).mono ?_
    rintro e w12 ⟨rfl, hbn⟩
    replace os1 := Own.below os1 hbn
    replace os2 := Own.below os2 hbn
    replace o9 := Own.below o9 hbn
    replace o10 := Own.below o10 hbn
    replace og1 := Own.below og1 hbn
    replace og2 := Own.below og2 hbn
    replace h := Red.below h hbn
    replace h1 := Red.below h1 hbn
    replace x2 := blk_below x2 hbn
    replace x6 := blk_below x6 hbn
    replace x9 := blk_below x9 hbn
    replace x11 := blk_below x11 hbn
    have hz11 := hbn.size
    replace hb := below_step hb hbn
    clear hbn
    clear ay0 ay1 by0 by1
    go_wp2_with fail
    refine (eqInts_calls _ og2.red os2.red (by omega)).mono ?_
    rintro e w13 ⟨rfl, hbn⟩
    replace os1 := Own.below os1 hbn
    replace os2 := Own.below os2 hbn
    replace o9 := Own.below o9 hbn
    replace o10 := Own.below o10 hbn
    replace og1 := Own.below og1 hbn
    replace og2 := Own.below og2 hbn
    replace h := Red.below h hbn
    replace h1 := Red.below h1 hbn
    replace x2 := blk_below x2 hbn
    replace x6 := blk_below x6 hbn
    replace x9 := blk_below x9 hbn
    replace x11 := blk_below x11 hbn
    have hz12 := hbn.size
    replace hb := below_step hb hbn
    clear hbn
    go_wp2_with fail
    refine start_ (n := 5) (S := fun w' => Below w13.heap.size w13 w') (ds := []) #[false, false, false, false, false] (by kernel_rfl) rfl rfl (Below.drew (Below.refl _ _)) (fun hHeld => ?_)
    have hk0 := fun w' (hS : Below w13.heap.size w13 w') => (box_cells (blk_below x9 hS)).1
    have hk1 := fun w' (hS : Below w13.heap.size w13 w') => (box_cells (blk_below x9 hS)).2
    have hk2 := fun w' (hS : Below w13.heap.size w13 w') => (box_cells (blk_below x2 hS)).1
    have hk3 := fun w' (hS : Below w13.heap.size w13 w') => (box_cells (blk_below x2 hS)).2
    generalize w13.drew = w14 at hHeld ⊢
    refine take_ (i := 0) (N := some 63) (v := ?_) (a' := ?_) #[true, false, false, false, false] rfl rfl (by kernel_rfl) (fun _ _ _ h => h) (Or.inl ⟨by rfl, ?_⟩) hHeld ?_ ?_
    rotate_left
    · rintro w' hS_
      go_simp
      with_reducible rfl
    rotate_left
    · simp only [Act.put, List.setIfInBounds_toArray, List.set_cons_zero, List.set_cons_succ, i64_w, i32_w]
      rfl
    refine take_ (i := 1) (N := some 64) (v := ?_) (a' := ?_) #[true, true, false, false, false] rfl rfl (by kernel_rfl) (fun _ _ _ h => h) (Or.inl ⟨by rfl, ?_⟩) hHeld ?_ ?_
    rotate_left
    · rintro w' hS_
      go_simp
      with_reducible rfl
    rotate_left
    · simp only [Act.put, List.setIfInBounds_toArray, List.set_cons_zero, List.set_cons_succ, i64_w, i32_w]
      rfl
    refine one_ (i := 2) (N := some 65) #[true, true, true, false, false] rfl rfl (by kernel_rfl) (by decide) (fun K hK => ?_)
    refine goes_ Try.func8 (by kernel_rfl) rfl #[.agg #[.slice A n c, .int .i64 p]] (by rfl) rfl rfl (by (try simp only [List.map_toArray, List.map_cons, List.map_nil]); first | done | rfl) ?_
    refine (toRing_calls (p := p) _ (h.below hHeld) (by omega)).mono ?_
    rintro e w15 ⟨A12, c12, rfl, o12, hbn⟩
    refine ⟨_, rfl, ?_⟩
    have hB1 := (bstep (n := w13.heap.size) (w := w13) hHeld hbn hHeld.size).1
    clear hbn hHeld
    refine hK.out _ _ hB1 (fun hHeld => ?_)
    clear hK K
    refine norm_ (a' := ?_) ?_ ?_
    rotate_left
    · show Act.put _ (some 65) _ = _
      simp only [Act.put, List.setIfInBounds_toArray, List.set_cons_zero, List.set_cons_succ, i64_w, i32_w]
      rfl
    refine one_ (i := 3) (N := some 66) #[true, true, true, true, false] rfl rfl (by kernel_rfl) (by decide) (fun K hK => ?_)
    refine goes_ Try.func11 (by kernel_rfl) rfl #[.agg #[.slice A9 l.length c9, .int .i64 p], .agg #[.slice A12 l.length c12, .int .i64 p]] (by rfl) rfl rfl (by (try simp only [List.map_toArray, List.map_cons, List.map_nil]); first | done | rfl) ?_
    refine (eqRing_calls (p := p) _ (o9.below hB1).red o12.red (by omega)).mono ?_
    rintro e w16 ⟨rfl, hbn⟩
    refine ⟨_, rfl, ?_⟩
    have hB2 := (bstep (n := w13.heap.size) (w := w13) hB1 hbn hB1.size).1
    clear hbn hB1 o12
    refine hK.out _ _ hB2 (fun hHeld => ?_)
    clear hK K
    refine norm_ (a' := ?_) ?_ ?_
    rotate_left
    · show Act.put _ (some 66) _ = _
      simp only [Act.put, List.setIfInBounds_toArray, List.set_cons_zero, List.set_cons_succ, i64_w, i32_w]
      rfl
    refine pure_ (i := 4) (N := some 67) (v := ?_) (a' := ?_) #[true, true, true, true, true] rfl rfl (by kernel_rfl) (fun _ _ _ h => h) (Or.inl ⟨by rfl, ?_⟩) ?_ ?_
    rotate_left
    · intro w'
      go_simp
      with_reducible rfl
    rotate_left
    · simp only [Act.put, List.setIfInBounds_toArray, List.set_cons_zero, List.set_cons_succ, i64_w, i32_w]
      rfl
    refine done_ (by kernel_rfl) ?_
    clear hk0 hk1 hk2 hk3
    replace os1 := Own.below os1 hHeld
    replace os2 := Own.below os2 hHeld
    replace o9 := Own.below o9 hHeld
    replace o10 := Own.below o10 hHeld
    replace og1 := Own.below og1 hHeld
    replace og2 := Own.below og2 hHeld
    replace h := Red.below h hHeld
    replace h1 := Red.below h1 hHeld
    replace x2 := blk_below x2 hHeld
    replace x6 := blk_below x6 hHeld
    replace x9 := blk_below x9 hHeld
    replace x11 := blk_below x11 hHeld
    have hz13 := hHeld.size
    replace hb := below_step hb hHeld
    clear hHeld
    go_wp2_with fail
    refine (toInts_calls _ h1 (by omega)).mono ?_
    rintro e w17 ⟨A13, c13, rfl, o13, hbn⟩
    replace os1 := Own.below os1 hbn
    replace os2 := Own.below os2 hbn
    replace o9 := Own.below o9 hbn
    replace o10 := Own.below o10 hbn
    replace og1 := Own.below og1 hbn
    replace og2 := Own.below og2 hbn
    replace h := Red.below h hbn
    replace h1 := Red.below h1 hbn
    replace x2 := blk_below x2 hbn
    replace x6 := blk_below x6 hbn
    replace x9 := blk_below x9 hbn
    replace x11 := blk_below x11 hbn
    have hz14 := hbn.size
    replace hb := below_step hb hbn
    clear hbn
    go_wp2_with fail
    refine (eqInts_calls _ o10.red o13.red (by omega)).mono ?_
    rintro e w18 ⟨rfl, hbn⟩
    replace os1 := Own.below os1 hbn
    replace os2 := Own.below os2 hbn
    replace o9 := Own.below o9 hbn
    replace o10 := Own.below o10 hbn
    replace og1 := Own.below og1 hbn
    replace og2 := Own.below og2 hbn
    replace o13 := Own.below o13 hbn
    replace h := Red.below h hbn
    replace h1 := Red.below h1 hbn
    replace x2 := blk_below x2 hbn
    replace x6 := blk_below x6 hbn
    replace x9 := blk_below x9 hbn
    replace x11 := blk_below x11 hbn
    have hz15 := hbn.size
    replace hb := below_step hb hbn
    clear hbn
    clear o13
    clear h h1
    obtain ⟨y0, y1⟩ := box_cells x9
    go_wp2_with fail
    refine (markRing_calls w _ hb (o9.lower (by omega)) (by omega) (by omega) (by omega)).mono ?_
    rintro e w19 ⟨rfl, om, hbm, hon⟩
    replace x2 := box_only x2 (by decide) o9 hon
    replace x6 := box_only x6 (by decide) o9 hon
    replace x9 := box_only x9 (by decide) o9 hon
    replace x11 := box_only x11 (by decide) o9 hon
    replace os1 := os1.only hon (fun i hi hx => by have h1_ := bs1 i hi; have h2_ := b9 i hx.symm; omega)
    replace os2 := os2.only hon (fun i hi hx => by have h1_ := bs2 i hi; have h2_ := b9 i hx.symm; omega)
    replace o10 := o10.only hon (fun i hi hx => by have h1_ := b10 i hi; have h2_ := b9 i hx.symm; omega)
    replace og1 := og1.only hon (fun i hi hx => by have h1_ := bg1 i hi; have h2_ := b9 i hx.symm; omega)
    replace og2 := og2.only hon (fun i hi hx => by have h1_ := bg2 i hi; have h2_ := b9 i hx.symm; omega)
    have hz16 := hon.out.1
    replace hb := hbm
    clear hbm hon o9
    have o9 := om
    clear om
    clear y0 y1
    go_wp2_with fail
    refine (markInts_calls w _ hb (o10.lower (by omega)) (by omega) (by omega) (by omega)).mono ?_
    rintro e w20 ⟨rfl, om, hbm, hon⟩
    replace x2 := box_only x2 (by decide) o10 hon
    replace x6 := box_only x6 (by decide) o10 hon
    replace x9 := box_only x9 (by decide) o10 hon
    replace x11 := box_only x11 (by decide) o10 hon
    replace os1 := os1.only hon (fun i hi hx => by have h1_ := bs1 i hi; have h2_ := b10 i hx.symm; omega)
    replace os2 := os2.only hon (fun i hi hx => by have h1_ := bs2 i hi; have h2_ := b10 i hx.symm; omega)
    replace o9 := o9.only hon (fun i hi hx => by have h1_ := b9 i hi; have h2_ := b10 i hx.symm; omega)
    replace og1 := og1.only hon (fun i hi hx => by have h1_ := bg1 i hi; have h2_ := b10 i hx.symm; omega)
    replace og2 := og2.only hon (fun i hi hx => by have h1_ := bg2 i hi; have h2_ := b10 i hx.symm; omega)
    have hz17 := hon.out.1
    replace hb := hbm
    clear hbm hon o10
    have o10 := om
    clear om
    clear o9 o10 b9 b10
    obtain ⟨ay0, ay1⟩ := box_cells x11
    obtain ⟨by0, by1⟩ := box_cells x6
    go_wp2_with fail
    refine (eqRing_calls (p := r2) _ og1.red os1.red (by omega)).mono ?_
    rintro e w21 ⟨rfl, hbn⟩
    replace os1 := Own.below os1 hbn
    replace os2 := Own.below os2 hbn
    replace og1 := Own.below og1 hbn
    replace og2 := Own.below og2 hbn
    replace x2 := blk_below x2 hbn
    replace x6 := blk_below x6 hbn
    replace x9 := blk_below x9 hbn
    replace x11 := blk_below x11 hbn
    have hz18 := hbn.size
    replace hb := below_step hb hbn
    clear hbn
    clear ay0 ay1 by0 by1
    go_wp2_with fail
    refine (eqInts_calls _ og2.red os2.red (by omega)).mono ?_
    rintro e w22 ⟨rfl, hbn⟩
    replace os1 := Own.below os1 hbn
    replace os2 := Own.below os2 hbn
    replace og1 := Own.below og1 hbn
    replace og2 := Own.below og2 hbn
    replace x2 := blk_below x2 hbn
    replace x6 := blk_below x6 hbn
    replace x9 := blk_below x9 hbn
    replace x11 := blk_below x11 hbn
    have hz19 := hbn.size
    replace hb := below_step hb hbn
    clear hbn
    obtain ⟨y0, y1⟩ := box_cells x11
    go_wp2_with fail
    refine (markRing_calls w _ hb (og1.lower (by omega)) (by omega) (by omega) (by omega)).mono ?_
    rintro e w23 ⟨rfl, om, hbm, hon⟩
    replace x2 := box_only x2 (by decide) og1 hon
    replace x6 := box_only x6 (by decide) og1 hon
    replace x9 := box_only x9 (by decide) og1 hon
    replace x11 := box_only x11 (by decide) og1 hon
    replace os1 := os1.only hon (fun i hi hx => by have h1_ := bs1 i hi; have h2_ := bg1 i hx.symm; omega)
    replace os2 := os2.only hon (fun i hi hx => by have h1_ := bs2 i hi; have h2_ := bg1 i hx.symm; omega)
    replace og2 := og2.only hon (fun i hi hx => dg12 i hx.symm hi.symm)
    have hz20 := hon.out.1
    replace hb := hbm
    clear hbm hon og1
    have og1 := om
    clear om
    clear y0 y1
    go_wp2_with fail
    refine (markInts_calls w _ hb (og2.lower (by omega)) (by omega) (by omega) (by omega)).mono ?_
    rintro e w24 ⟨rfl, om, hbm, hon⟩
    replace x2 := box_only x2 (by decide) og2 hon
    replace x6 := box_only x6 (by decide) og2 hon
    replace x9 := box_only x9 (by decide) og2 hon
    replace x11 := box_only x11 (by decide) og2 hon
    replace os1 := os1.only hon (fun i hi hx => by have h1_ := bs1 i hi; have h2_ := bg2 i hx.symm; omega)
    replace os2 := os2.only hon (fun i hi hx => by have h1_ := bs2 i hi; have h2_ := bg2 i hx.symm; omega)
    replace og1 := og1.only hon (fun i hi hx => dg12 i hi hx)
    have hz21 := hon.out.1
    replace hb := hbm
    clear hbm hon og2
    have og2 := om
    clear om
    obtain ⟨y0, y1⟩ := box_cells x11
    go_wp2_with fail
    refine (heldRing_calls (p := r2) _ og1.red g1 (by omega) (by omega)).mono ?_
    rintro e w25 ⟨rfl, hbn⟩
    replace os1 := Own.below os1 hbn
    replace os2 := Own.below os2 hbn
    replace og1 := Own.below og1 hbn
    replace og2 := Own.below og2 hbn
    replace x2 := blk_below x2 hbn
    replace x6 := blk_below x6 hbn
    replace x9 := blk_below x9 hbn
    replace x11 := blk_below x11 hbn
    have hz22 := hbn.size
    replace hb := below_step hb hbn
    clear hbn
    clear y0 y1
    go_wp2_with fail
    refine (heldInts_calls _ og2.red g2 (by omega) (by omega)).mono ?_
    rintro e w26 ⟨rfl, hbn⟩
    replace os1 := Own.below os1 hbn
    replace os2 := Own.below os2 hbn
    replace og1 := Own.below og1 hbn
    replace og2 := Own.below og2 hbn
    replace x2 := blk_below x2 hbn
    replace x6 := blk_below x6 hbn
    replace x9 := blk_below x9 hbn
    replace x11 := blk_below x11 hbn
    have hz23 := hbn.size
    replace hb := below_step hb hbn
    clear hbn
    obtain ⟨y0, y1⟩ := box_cells x2
    go_wp2_with fail
    refine (toRing_calls _ (h0.below hb) (by omega)).mono ?_
    rintro e w27 ⟨A14, c14, rfl, o14, hbn⟩
    replace os1 := Own.below os1 hbn
    replace os2 := Own.below os2 hbn
    replace og1 := Own.below og1 hbn
    replace og2 := Own.below og2 hbn
    replace x2 := blk_below x2 hbn
    replace x6 := blk_below x6 hbn
    replace x9 := blk_below x9 hbn
    replace x11 := blk_below x11 hbn
    have hz24 := hbn.size
    replace hb := below_step hb hbn
    clear hbn
    have q14 := o14.red
    clear o14 y0 y1
    go_wp2_with fail
    refine (toInts_calls _ (h10.below hb) (by omega)).mono ?_
    rintro e w28 ⟨A15, c15, rfl, o15, hbn⟩
    replace os1 := Own.below os1 hbn
    replace os2 := Own.below os2 hbn
    replace og1 := Own.below og1 hbn
    replace og2 := Own.below og2 hbn
    replace q14 := Red.below q14 hbn
    replace x2 := blk_below x2 hbn
    replace x6 := blk_below x6 hbn
    replace x9 := blk_below x9 hbn
    replace x11 := blk_below x11 hbn
    have hz25 := hbn.size
    replace hb := below_step hb hbn
    clear hbn
    have q15 := o15.red
    clear o15
    go_wp2_with fail
    have hps := push_calls (p := p) _ q14 q15 (by omega) (by omega)
    rw [HR.out] at hps
    refine hps.mono ?_
    rintro e w29 ⟨Ah, ch, Bh, dh, rfl, oh1, oh2, hbn, dh12⟩
    clear hps
    clear q14 q15 dh12
    replace os1 := Own.below os1 hbn
    replace os2 := Own.below os2 hbn
    replace og1 := Own.below og1 hbn
    replace og2 := Own.below og2 hbn
    replace x2 := blk_below x2 hbn
    replace x6 := blk_below x6 hbn
    replace x9 := blk_below x9 hbn
    replace x11 := blk_below x11 hbn
    have hz26 := hbn.size
    replace hb := below_step hb hbn
    clear hbn
    go_upto_region 35 with fail
    have hbn : Below w29.heap.size w29 (w29.alloc (.cells #[.slice Ah r1.length ch, .int .i64 r2] 26)) := below_alloc (Below.refl _ _) _
    have x17 : (w29.alloc (.cells #[.slice Ah r1.length ch, .int .i64 r2] 26)).heap[w29.heap.size]? = some (.cells #[.slice Ah r1.length ch, .int .i64 r2] 26 (0, 0)) := heap_alloc_new w29 _
    replace os1 := Own.below os1 hbn
    replace os2 := Own.below os2 hbn
    replace og1 := Own.below og1 hbn
    replace og2 := Own.below og2 hbn
    replace oh1 := Own.below oh1 hbn
    replace oh2 := Own.below oh2 hbn
    replace x2 := blk_below x2 hbn
    replace x6 := blk_below x6 hbn
    replace x9 := blk_below x9 hbn
    replace x11 := blk_below x11 hbn
    have hz27 := hbn.size
    replace hb := below_step hb hbn
    clear hbn
    generalize (w29.alloc (.cells #[.slice Ah r1.length ch, .int .i64 r2] 26)) = w30 at *
    generalize hB : w29.heap.size = Bx17 at *
    clear hB
    obtain ⟨ay0, ay1⟩ := box_cells x17
    obtain ⟨by0, by1⟩ := box_cells x6
    go_wp2_with fail
    refine (eqRing_calls (p := r2) _ oh1.red os1.red (by omega)).mono ?_
    rintro e w31 ⟨rfl, hbn⟩
    replace os1 := Own.below os1 hbn
    replace os2 := Own.below os2 hbn
    replace og1 := Own.below og1 hbn
    replace og2 := Own.below og2 hbn
    replace oh1 := Own.below oh1 hbn
    replace oh2 := Own.below oh2 hbn
    replace x2 := blk_below x2 hbn
    replace x6 := blk_below x6 hbn
    replace x9 := blk_below x9 hbn
    replace x11 := blk_below x11 hbn
    replace x17 := blk_below x17 hbn
    have hz28 := hbn.size
    replace hb := below_step hb hbn
    clear hbn
    clear ay0 ay1 by0 by1
    go_wp2_with fail
    refine (eqInts_calls _ oh2.red os2.red (by omega)).mono ?_
    rintro e w32 ⟨rfl, hbn⟩
    replace os1 := Own.below os1 hbn
    replace os2 := Own.below os2 hbn
    replace og1 := Own.below og1 hbn
    replace og2 := Own.below og2 hbn
    replace oh1 := Own.below oh1 hbn
    replace oh2 := Own.below oh2 hbn
    replace x2 := blk_below x2 hbn
    replace x6 := blk_below x6 hbn
    replace x9 := blk_below x9 hbn
    replace x11 := blk_below x11 hbn
    replace x17 := blk_below x17 hbn
    have hz29 := hbn.size
    replace hb := below_step hb hbn
    clear hbn
    obtain ⟨y0, y1⟩ := box_cells x11
    go_wp2_with fail
    refine (heldRing_calls (p := r2) _ og1.red g1 (by omega) (by omega)).mono ?_
    rintro e w33 ⟨rfl, hbn⟩
    replace os1 := Own.below os1 hbn
    replace os2 := Own.below os2 hbn
    replace og1 := Own.below og1 hbn
    replace og2 := Own.below og2 hbn
    replace oh1 := Own.below oh1 hbn
    replace oh2 := Own.below oh2 hbn
    replace x2 := blk_below x2 hbn
    replace x6 := blk_below x6 hbn
    replace x9 := blk_below x9 hbn
    replace x11 := blk_below x11 hbn
    replace x17 := blk_below x17 hbn
    have hz30 := hbn.size
    replace hb := below_step hb hbn
    clear hbn
    clear y0 y1
    go_wp2_with fail
    refine (heldInts_calls _ og2.red g2 (by omega) (by omega)).mono ?_
    rintro e w34 ⟨rfl, hbn⟩
    replace os1 := Own.below os1 hbn
    replace os2 := Own.below os2 hbn
    replace og1 := Own.below og1 hbn
    replace og2 := Own.below og2 hbn
    replace oh1 := Own.below oh1 hbn
    replace oh2 := Own.below oh2 hbn
    replace x2 := blk_below x2 hbn
    replace x6 := blk_below x6 hbn
    replace x9 := blk_below x9 hbn
    replace x11 := blk_below x11 hbn
    replace x17 := blk_below x17 hbn
    have hz31 := hbn.size
    replace hb := below_step hb hbn
    clear hbn
    go_wp2_with fail
    go_ret
    exact ⟨rfl, hb⟩
  · have hgt : decide ((1048576 : Int) < (n1 : Int)) = true := decide_eq_true (by omega)
    have hgt2 : decide (1048576 < n1) = true := decide_eq_true (by omega)
    go_enter Try.func3, Try.ntmps3
    go_wp2_with fail
    go_ret
    exact ⟨rfl, below_alloc (Below.refl _ _) _⟩
end Go.Proofs.Ytlgepbckgfcklaa.PushL
