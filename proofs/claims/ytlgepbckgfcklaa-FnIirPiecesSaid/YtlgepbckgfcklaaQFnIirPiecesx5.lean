-- Laid by wip/own_print.py: the kit's printer, run with hand-made parts (see NOTES.md).
import Derived.Test.YtlgepbckgfcklaaQFnIirPiecesx0
import Derived.Test.YtlgepbckgfcklaaQFnIirPiecesx3
import Derived.Test.YtlgepbckgfcklaaQFnIirPiecesx4
namespace Go.Proofs.Ytlgepbckgfcklaa.QFnIirPieces
open Go.RowKit Go.Proofs.YtlgepbckgfcklaaW.PrintWords Go.Proofs.YtlgepbckgfcklaaW.PrintLast Go.Proofs.YtlgepbckgfcklaaW.PrintMore
attribute [local go_sem] max2_int min2_int max_two min_two max_three min_three max_four min_four   -- for this text's walks alone
set_option linter.unusedVariables false
set_option linter.unusedSimpArgs false

/-! ### spec_DrawIir: function 23 -/
def spec_DrawIir.j0 : Nat → List Int → List Int → Int → Int → Int → Int → Int → Int → Int → Option (Int × Int × Int × Int × Int × Int × Int × Int × Int × Int × List Int)
 | 0, _, _, _, _, _, _, _, _, _ => none
 | k + 1, x0, x267000, x267001, x267002, x268000, x268001, x268002, x268003, x268004 => (spec_l1Below.f x267000 x267001 x267002 25).bind fun bt286 => (if bt286.1 = 0 then ((spec_l1PickInt.f x267000 bt286.2.1 bt286.2.2 (([1000000, (-1000000), 1000001] : List Int))).bind fun bt292 => ((spec_l10DrawSection.f k x267000 bt292.2.1 bt292.2.2).bind fun bt295 => ((spec_l1Size.f x0 30).bind fun t302 => ((spec_l7DrawSmall.f k x267000 bt295.2.2.2.2.2.1 bt295.2.2.2.2.2.2 t302).bind fun bt303 => (some (bt295.1, bt295.2.1, bt295.2.2.1, bt295.2.2.2.1, bt295.2.2.2.2.1, x268000, x268001, bt292.1, x268003, x268004, bt303.1)))))) else (if bt286.1 = 1 then ((spec_l1PickInt.f x267000 bt286.2.1 bt286.2.2 (([(-1), 16384] : List Int))).bind fun bt311 => ((spec_l10DrawSection.f k x267000 bt311.2.1 bt311.2.2).bind fun bt314 => ((spec_l1Size.f x0 30).bind fun t321 => ((spec_l7DrawSmall.f k x267000 bt314.2.2.2.2.2.1 bt314.2.2.2.2.2.2 t321).bind fun bt322 => (some (bt314.1, bt314.2.1, bt314.2.2.1, bt314.2.2.2.1, bt314.2.2.2.2.1, x268000, x268001, x268002, x268003, bt311.1, bt322.1)))))) else ((spec_l10DrawSection.f k x267000 bt286.2.1 bt286.2.2).bind fun bt327 => ((spec_l1Size.f x0 30).bind fun t334 => ((spec_l7DrawSmall.f k x267000 bt327.2.2.2.2.2.1 bt327.2.2.2.2.2.2 t334).bind fun bt335 => (some (bt327.1, bt327.2.1, bt327.2.2.1, bt327.2.2.2.1, bt327.2.2.2.2.1, x268000, x268001, x268002, x268003, x268004, bt335.1)))))))
def spec_DrawIir.f (k : Nat) (l0 : List Int) : Option (Int × Int × Int × Int × Int × Int × Int × Int × Int × Int × List Int) := (spec_l1New.f k l0).bind fun bt263 => ((spec_l1Once.f bt263.1 bt263.2.1 bt263.2.2 2).bind fun bt268 => (if bt268.1 = true then ((spec_l1Below.f bt263.1 bt268.2.1 bt268.2.2 200).bind fun bt271 => ((spec_l1Below.f bt263.1 bt271.2.1 bt271.2.2 200).bind fun bt274 => ((spec_l1Below.f bt263.1 bt274.2.1 bt274.2.2 2000).bind fun bt277 => ((spec_l1Below.f bt263.1 bt277.2.1 bt277.2.2 2000).bind fun bt280 => ((spec_l1Below.f bt263.1 bt280.2.1 bt280.2.2 16384).bind fun bt283 => (spec_DrawIir.j0 k l0 bt263.1 bt283.2.1 bt283.2.2 (wrap64 (bt271.1 - 100)) (wrap64 (bt274.1 - 100)) (wrap64 (bt277.1 - 1000)) (wrap64 (bt280.1 - 1000)) bt283.1)))))) else (spec_DrawIir.j0 k l0 bt263.1 bt268.2.1 bt268.2.2 0 0 0 0 0)))
theorem spec_DrawIir.mono_l : ∀ k, (∀ y0 y1 y2 y3 y4 y5 y6 y7 y8, LeO (spec_DrawIir.j0 k y0 y1 y2 y3 y4 y5 y6 y7 y8) (spec_DrawIir.j0 (k + 1) y0 y1 y2 y3 y4 y5 y6 y7 y8))
 | 0 => fun _ _ _ _ _ _ _ _ _ r h => by simp [spec_DrawIir.j0] at h
 | k + 1 => by
  have ih0 := spec_DrawIir.mono_l k
  ·intro y0 y1 y2 y3 y4 y5 y6 y7 y8
   unfold spec_DrawIir.j0
   repeat' first
   | (with_reducible exact ih0 _ _ _ _ _ _ _ _ _)
   | (with_reducible exact spec_l10DrawSection.mono _ _ _ _)
   | (with_reducible exact spec_l1New.mono _ _)
   | (with_reducible exact spec_l7DrawSmall.mono _ _ _ _ _)
   | (with_reducible exact LeO.refl _)
   | (with_reducible exact LeO.none _)
   | (with_reducible refine LeO.ite ?_ ?_)
   | (with_reducible refine LeO.bind ?_ (fun _ => ?_))
   | exact ih0 _ _ _ _ _ _ _ _ _
   | exact spec_l10DrawSection.mono _ _ _ _
   | exact spec_l1New.mono _ _
   | exact spec_l7DrawSmall.mono _ _ _ _ _
   | exact LeO.none _
   | refine LeO.ite ?_ ?_
   | refine LeO.bind ?_ (fun _ => ?_)
theorem spec_DrawIir.mono : ∀ a0 k, LeO (spec_DrawIir.f k a0) (spec_DrawIir.f (k + 1) a0) := by
 intro a0 k
 have ih0 := spec_DrawIir.mono_l k
 unfold spec_DrawIir.f
 repeat' first
   | (with_reducible exact ih0 _ _ _ _ _ _ _ _ _)
   | (with_reducible exact spec_l10DrawSection.mono _ _ _ _)
   | (with_reducible exact spec_l1New.mono _ _)
   | (with_reducible exact spec_l7DrawSmall.mono _ _ _ _ _)
   | (with_reducible exact LeO.refl _)
   | (with_reducible exact LeO.none _)
   | (with_reducible refine LeO.ite ?_ ?_)
   | (with_reducible refine LeO.bind ?_ (fun _ => ?_))
   | exact ih0 _ _ _ _ _ _ _ _ _
   | exact spec_l10DrawSection.mono _ _ _ _
   | exact spec_l1New.mono _ _
   | exact spec_l7DrawSmall.mono _ _ _ _ _
   | exact LeO.none _
   | refine LeO.ite ?_ ?_
   | refine LeO.bind ?_ (fun _ => ?_)
def spec_DrawIir.T10 : Bool × List (List Nat × List Nat) := (true, [([], []), ([0], [0]), ([], []), ([], []), ([], []), ([4, 1], [4]), ([3, 5, 5], [3, 5]), ([1, 6, 0, 1], [1]), ([2, 7, 0, 1, 2, 7], [2]), ([6, 8, 0, 1, 2, 3, 4, 5, 6, 7, 8], [6])])
def spec_DrawIir.B10 : List Nat := [0, 1, 0, 0, 0, 19, 59, 123, 255, 511]
theorem spec_DrawIir.tab10 : rtab .any (opsOf Try.f23 10) = spec_DrawIir.T10 := by kernel_rfl
theorem spec_DrawIir.bits10 : waitsOk spec_DrawIir.T10.2 spec_DrawIir.B10 = true := by kernel_rfl
set_option maxHeartbeats 8000000 in
set_option maxRecDepth 100000 in
theorem spec_DrawIir.calls (k : Nat) (A0 : Option Addr) (c0 : Nat) (l0 : List Int) (r1 : Int) (r2 : Int) (r3 : Int) (r4 : Int) (r5 : Int) (r6 : Int) (r7 : Int) (r8 : Int) (r9 : Int) (r10 : Int) (r11 : List Int) (w : World) (hr0 : Kd.C (Kd.int .u8) w A0 l0.length l0) (hc0 : l0.length ≤ c0) (h : spec_DrawIir.f k l0 = some (r1, r2, r3, r4, r5, r6, r7, r8, r9, r10, r11)) :
  Calls Try.prog 23 #[.slice A0 l0.length c0] w fun e w' => ∃ v10_ : Value, e = .returned (.tuple #[.agg #[.int .i64 r1, .int .i64 r2, .int .i64 r3, .int .i64 r4, .int .i64 r5], .agg #[.int .i64 r6, .int .i64 r7, .int .i64 r8, .int .i64 r9, .int .i64 r10], v10_]) ∧ Kd.R (Kd.int .i64) 3 w' w.heap.size (fun _ => True) v10_ r11 ∧ Below w.heap.size w w' := by
 have hu43 := Try.underlying43
 have hu40 := Try.underlying40
 have HR0 := Aside0.mk hr0
 have HC0 := Aside0.mk hc0
 clear hr0 hc0
 have HB := Aside0.mk (Below.refl w.heap.size w)
 have H : ((spec_l1New.f k l0).bind fun bt263 => ((spec_l1Once.f bt263.1 bt263.2.1 bt263.2.2 2).bind fun bt268 => (if bt268.1 = true then ((spec_l1Below.f bt263.1 bt268.2.1 bt268.2.2 200).bind fun bt271 => ((spec_l1Below.f bt263.1 bt271.2.1 bt271.2.2 200).bind fun bt274 => ((spec_l1Below.f bt263.1 bt274.2.1 bt274.2.2 2000).bind fun bt277 => ((spec_l1Below.f bt263.1 bt277.2.1 bt277.2.2 2000).bind fun bt280 => ((spec_l1Below.f bt263.1 bt280.2.1 bt280.2.2 16384).bind fun bt283 => (spec_DrawIir.j0 k l0 bt263.1 bt283.2.1 bt283.2.2 (wrap64 (bt271.1 - 100)) (wrap64 (bt274.1 - 100)) (wrap64 (bt277.1 - 1000)) (wrap64 (bt280.1 - 1000)) bt283.1)))))) else (spec_DrawIir.j0 k l0 bt263.1 bt268.2.1 bt268.2.2 0 0 0 0 0)))) = some (r1, r2, r3, r4, r5, r6, r7, r8, r9, r10, r11) := h
 clear h
 replace H := Option.bind_eq_some_iff.mp H
 obtain ⟨⟨t263, t264, t265⟩, A20, H⟩ := H
 (try dsimp only at H)
 have A2 := Aside0.mk A20
 clear A20
 replace H := Option.bind_eq_some_iff.mp H
 obtain ⟨⟨t268, t269, t270⟩, A30, H⟩ := H
 (try dsimp only at H)
 have A3 := Aside0.mk A30
 clear A30
 have HC4 := Aside0.mk H
 clear H
 go_enter Try.func23, Try.ntmps23
 go_upto_if 11 with (first | ((with_reducible refine gate_dst (N := 2) rfl ?_); refine box_event ?hg (N := 2) ?hd (cs := #[.int .i64 0, .int .i64 0, .int .i64 0, .int .i64 0, .int .i64 0]) (t := 43) ?hr ?_; (case hd => rfl); (case hg => rfl); (case hr => first | (go_simp; done) | (go_simp; rfl)); intro gb261 hg w5 hbox hb; have n0_ := Aside0.mk (below_step (by repeat (first | (with_reducible first | exact HB.out | apply below_alloc | apply pw_below_drewN | apply below_drew1) | exact HB.out)) hb); have n1_ := Aside0.mk (hbox); have n2_ := Aside0.mk ((by rw [hg]; exact (below_size (by repeat (first | (with_reducible first | exact HB.out | apply below_alloc | apply pw_below_drewN | apply below_drew1) | exact HB.out))) : w.heap.size ≤ gb261)); have n3_ := Aside0.mk ((by rw [hg]; exact (below_size (by repeat (first | (with_reducible first | exact HB.out | apply below_alloc | apply pw_below_drewN | apply below_drew1) | exact HB.out))) : w.heap.size ≤ gb261)); clear HB; have HB := n0_; have BK261 := n1_; have GW261 := n2_; have GE261 := n3_; clear n0_ n1_ n2_ n3_; clear hb hbox hg) | ((with_reducible refine gate_dst (N := 3) rfl ?_); refine box_event ?hg (N := 3) ?hd (cs := #[.int .i64 0, .int .i64 0, .int .i64 0, .int .i64 0, .int .i64 0]) (t := 40) ?hr ?_; (case hd => rfl); (case hg => rfl); (case hr => first | (go_simp; done) | (go_simp; rfl)); intro gb262 hg w6 hbox hb; have n0_ := Aside0.mk (blk_below (g := gb261) (o := .cells #[.int .i64 0, .int .i64 0, .int .i64 0, .int .i64 0, .int .i64 0] 43 (0, 0)) (by (with_reducible repeat (first | refine blk_drewN ?_ _ | refine blk_drew ?_ | refine blk_alloc ?_ _)); exact BK261.out) hb); have n1_ := Aside0.mk (below_step (by repeat (first | (with_reducible first | exact HB.out | apply below_alloc | apply pw_below_drewN | apply below_drew1 | refine below_set ?_ GE261.out) | exact HB.out)) hb); have n2_ := Aside0.mk (hbox); have n3_ := Aside0.mk ((by rw [hg]; exact (below_size (by repeat (first | (with_reducible first | exact HB.out | apply below_alloc | apply pw_below_drewN | apply below_drew1 | refine below_set ?_ GE261.out) | exact HB.out))) : w.heap.size ≤ gb262)); have n4_ := Aside0.mk ((by rw [hg]; exact (below_size (by repeat (first | (with_reducible first | exact HB.out | apply below_alloc | apply pw_below_drewN | apply below_drew1 | refine below_set ?_ GE261.out) | exact HB.out))) : w.heap.size ≤ gb262)); have n5_ := Aside0.mk ((by rw [hg]; exact Nat.ne_of_lt (blk_lt (g := gb261) (o := .cells #[.int .i64 0, .int .i64 0, .int .i64 0, .int .i64 0, .int .i64 0] 43 (0, 0)) (by (with_reducible repeat (first | refine blk_drewN ?_ _ | refine blk_drew ?_ | refine blk_alloc ?_ _)); exact BK261.out)) : gb261 ≠ gb262)); have n6_ := Aside0.mk ((by rw [hg]; exact Nat.ne_of_gt (blk_lt (g := gb261) (o := .cells #[.int .i64 0, .int .i64 0, .int .i64 0, .int .i64 0, .int .i64 0] 43 (0, 0)) (by (with_reducible repeat (first | refine blk_drewN ?_ _ | refine blk_drew ?_ | refine blk_alloc ?_ _)); exact BK261.out)) : gb262 ≠ gb261)); clear BK261; clear HB; have BK261 := n0_; have HB := n1_; have BK262 := n2_; have GW262 := n3_; have GE262 := n4_; have NB261_262 := n5_; have NB262_261 := n6_; clear n0_ n1_ n2_ n3_ n4_ n5_ n6_; clear hb hbox hg) | ((with_reducible refine gate_callee (f := 39) rfl ?_); refine goesL_ (some 8) rfl rfl Try.func39 (by kernel_rfl) rfl #[.slice A0 l0.length c0] rfl (by (try simp only [List.map_toArray, List.map_cons, List.map_nil]); first | done | rfl | (simp only [List.length_drop, List.length_take]; rfl)) ?_; (with_reducible refine (spec_l1New.calls k _ _ l0 t263 t264 t265 w _ ?side1 ?side2 ?side3 A2.out).mono ?_); (case side1 => repeat (first | (with_reducible first | exact HB.out | apply below_alloc | apply pw_below_drewN | apply below_drew1 | refine below_set ?_ GE261.out | refine below_set ?_ GE262.out) | exact HB.out)); (case side2 => exact HR0.out); (case side3 => exact HC0.out); rintro e w7 ⟨g266, rfl, hi, hb, hb2⟩; refine ⟨_, rfl, ?_⟩; have n0_ := Aside0.mk (blk_below (g := gb261) (o := .cells #[.int .i64 0, .int .i64 0, .int .i64 0, .int .i64 0, .int .i64 0] 43 (0, 0)) (by (with_reducible repeat (first | refine blk_drewN ?_ _ | refine blk_drew ?_ | refine blk_alloc ?_ _)); exact BK261.out) hb2); have n1_ := Aside0.mk (blk_below (g := gb262) (o := .cells #[.int .i64 0, .int .i64 0, .int .i64 0, .int .i64 0, .int .i64 0] 40 (0, 0)) (by (with_reducible repeat (first | refine blk_drewN ?_ _ | refine blk_drew ?_ | refine blk_alloc ?_ _)); exact BK262.out) hb2); have n2_ := Aside0.mk (hb); have n3_ := Aside0.mk (hi); have n4_ := Aside0.mk (IsS75.ne_blk hi (blk_below (g := gb261) (o := .cells #[.int .i64 0, .int .i64 0, .int .i64 0, .int .i64 0, .int .i64 0] 43 (0, 0)) (by (with_reducible repeat (first | refine blk_drewN ?_ _ | refine blk_drew ?_ | refine blk_alloc ?_ _)); exact BK261.out) hb2) (by decide)); have n5_ := Aside0.mk (Ne.symm (IsS75.ne_blk hi (blk_below (g := gb261) (o := .cells #[.int .i64 0, .int .i64 0, .int .i64 0, .int .i64 0, .int .i64 0] 43 (0, 0)) (by (with_reducible repeat (first | refine blk_drewN ?_ _ | refine blk_drew ?_ | refine blk_alloc ?_ _)); exact BK261.out) hb2) (by decide))); have n6_ := Aside0.mk (IsS75.ne_blk hi (blk_below (g := gb262) (o := .cells #[.int .i64 0, .int .i64 0, .int .i64 0, .int .i64 0, .int .i64 0] 40 (0, 0)) (by (with_reducible repeat (first | refine blk_drewN ?_ _ | refine blk_drew ?_ | refine blk_alloc ?_ _)); exact BK262.out) hb2) (by decide)); have n7_ := Aside0.mk (Ne.symm (IsS75.ne_blk hi (blk_below (g := gb262) (o := .cells #[.int .i64 0, .int .i64 0, .int .i64 0, .int .i64 0, .int .i64 0] 40 (0, 0)) (by (with_reducible repeat (first | refine blk_drewN ?_ _ | refine blk_drew ?_ | refine blk_alloc ?_ _)); exact BK262.out) hb2) (by decide))); clear BK261; clear BK262; clear HB; have BK261 := n0_; have BK262 := n1_; have HB := n2_; have HI266 := n3_; have NB266_261 := n4_; have NB261_266 := n5_; have NB266_262 := n6_; have NB262_266 := n7_; clear n0_ n1_ n2_ n3_ n4_ n5_ n6_ n7_; (try clear hb); (try clear hb2); (try clear hk); (try clear hi)) | ((with_reducible refine gate_dst (N := 6) rfl ?_); refine box_event ?hg (N := 6) ?hd (cs := #[.int .i64 0, .int .i64 0, .int .i64 0, .int .i64 0, .int .i64 0]) (t := 40) ?hr ?_; (case hd => rfl); (case hg => rfl); (case hr => first | (go_simp; done) | (go_simp; rfl)); intro gb267 hg w8 hbox hb; have n0_ := Aside0.mk (blk_below (g := gb261) (o := .cells #[.int .i64 0, .int .i64 0, .int .i64 0, .int .i64 0, .int .i64 0] 43 (0, 0)) (by (with_reducible repeat (first | refine blk_drewN ?_ _ | refine blk_drew ?_ | refine blk_alloc ?_ _)); exact BK261.out) hb); have n1_ := Aside0.mk (blk_below (g := gb262) (o := .cells #[.int .i64 0, .int .i64 0, .int .i64 0, .int .i64 0, .int .i64 0] 40 (0, 0)) (by (with_reducible repeat (first | refine blk_drewN ?_ _ | refine blk_drew ?_ | refine blk_alloc ?_ _)); exact BK262.out) hb); have n2_ := Aside0.mk (IsS75.below (by repeat (first | (with_reducible first | exact HI266.out | apply IsS75.alloc | apply IsS75.drewN | apply IsS75.drew | apply IsS75.set_1 | apply IsS75.set_2 | refine IsS75.far ?_ NB266_261.out _ | refine IsS75.far ?_ NB266_262.out _) | exact HI266.out)) hb); have n3_ := Aside0.mk (below_step (by repeat (first | (with_reducible first | exact HB.out | apply below_alloc | apply pw_below_drewN | apply below_drew1 | refine below_set ?_ (IsS75.ge HI266.out) | refine below_set ?_ GE261.out | refine below_set ?_ GE262.out) | exact HB.out)) hb); have n4_ := Aside0.mk (hbox); have n5_ := Aside0.mk ((by rw [hg]; exact (below_size (by repeat (first | (with_reducible first | exact HB.out | apply below_alloc | apply pw_below_drewN | apply below_drew1 | refine below_set ?_ (IsS75.ge HI266.out) | refine below_set ?_ GE261.out | refine below_set ?_ GE262.out) | exact HB.out))) : w.heap.size ≤ gb267)); have n6_ := Aside0.mk ((by rw [hg]; exact (below_size (by repeat (first | (with_reducible first | exact HB.out | apply below_alloc | apply pw_below_drewN | apply below_drew1 | refine below_set ?_ (IsS75.ge HI266.out) | refine below_set ?_ GE261.out | refine below_set ?_ GE262.out) | exact HB.out))) : w.heap.size ≤ gb267)); have n7_ := Aside0.mk ((by rw [hg]; exact Nat.ne_of_lt (blk_lt (g := gb261) (o := .cells #[.int .i64 0, .int .i64 0, .int .i64 0, .int .i64 0, .int .i64 0] 43 (0, 0)) (by (with_reducible repeat (first | refine blk_drewN ?_ _ | refine blk_drew ?_ | refine blk_alloc ?_ _)); exact BK261.out)) : gb261 ≠ gb267)); have n8_ := Aside0.mk ((by rw [hg]; exact Nat.ne_of_gt (blk_lt (g := gb261) (o := .cells #[.int .i64 0, .int .i64 0, .int .i64 0, .int .i64 0, .int .i64 0] 43 (0, 0)) (by (with_reducible repeat (first | refine blk_drewN ?_ _ | refine blk_drew ?_ | refine blk_alloc ?_ _)); exact BK261.out)) : gb267 ≠ gb261)); have n9_ := Aside0.mk ((by rw [hg]; exact Nat.ne_of_lt (blk_lt (g := gb262) (o := .cells #[.int .i64 0, .int .i64 0, .int .i64 0, .int .i64 0, .int .i64 0] 40 (0, 0)) (by (with_reducible repeat (first | refine blk_drewN ?_ _ | refine blk_drew ?_ | refine blk_alloc ?_ _)); exact BK262.out)) : gb262 ≠ gb267)); have n10_ := Aside0.mk ((by rw [hg]; exact Nat.ne_of_gt (blk_lt (g := gb262) (o := .cells #[.int .i64 0, .int .i64 0, .int .i64 0, .int .i64 0, .int .i64 0] 40 (0, 0)) (by (with_reducible repeat (first | refine blk_drewN ?_ _ | refine blk_drew ?_ | refine blk_alloc ?_ _)); exact BK262.out)) : gb267 ≠ gb262)); have n11_ := Aside0.mk ((by rw [hg]; exact Nat.ne_of_lt (IsS75.lt (show IsS75 w _ g266 t263 t264 t265 from by repeat (first | (with_reducible first | exact HI266.out | apply IsS75.alloc | apply IsS75.drewN | apply IsS75.drew | apply IsS75.set_1 | apply IsS75.set_2 | refine IsS75.far ?_ NB266_261.out _ | refine IsS75.far ?_ NB266_262.out _) | exact HI266.out))) : g266 ≠ gb267)); have n12_ := Aside0.mk ((by rw [hg]; exact Nat.ne_of_gt (IsS75.lt (show IsS75 w _ g266 t263 t264 t265 from by repeat (first | (with_reducible first | exact HI266.out | apply IsS75.alloc | apply IsS75.drewN | apply IsS75.drew | apply IsS75.set_1 | apply IsS75.set_2 | refine IsS75.far ?_ NB266_261.out _ | refine IsS75.far ?_ NB266_262.out _) | exact HI266.out))) : gb267 ≠ g266)); clear BK261; clear BK262; clear HI266; clear HB; have BK261 := n0_; have BK262 := n1_; have HI266 := n2_; have HB := n3_; have BK267 := n4_; have GW267 := n5_; have GE267 := n6_; have NB261_267 := n7_; have NB267_261 := n8_; have NB262_267 := n9_; have NB267_262 := n10_; have NB266_267 := n11_; have NB267_266 := n12_; clear n0_ n1_ n2_ n3_ n4_ n5_ n6_ n7_ n8_ n9_ n10_ n11_ n12_; clear hb hbox hg; have hnb9 := NB267_261.out; have hnc9 := NB261_267.out; have hnb10 := NB267_262.out; have hnc10 := NB262_267.out; have hnb11 := NB267_266.out; have hnc11 := NB266_267.out; have hcz12_0 : w8.cell? ⟨gb267, 0, none⟩ = some (.int .i64 0) := (blk_cell BK267.out 0).trans rfl; have hcz12_1 : w8.cell? ⟨gb267, 1, none⟩ = some (.int .i64 0) := (blk_cell BK267.out 1).trans rfl; have hcz12_2 : w8.cell? ⟨gb267, 2, none⟩ = some (.int .i64 0) := (blk_cell BK267.out 2).trans rfl; have hcz12_3 : w8.cell? ⟨gb267, 3, none⟩ = some (.int .i64 0) := (blk_cell BK267.out 3).trans rfl; have hcz12_4 : w8.cell? ⟨gb267, 4, none⟩ = some (.int .i64 0) := (blk_cell BK267.out 4).trans rfl; have hfz12_0 := blk_frozen BK267.out 0; have hfz12_1 := blk_frozen BK267.out 1; have hfz12_2 := blk_frozen BK267.out 2; have hfz12_3 := blk_frozen BK267.out 3; have hfz12_4 := blk_frozen BK267.out 4) | ((with_reducible refine gate_callee (f := 40) rfl ?_); refine goesL_ (some 11) rfl rfl Try.func40 (by kernel_rfl) rfl #[.pointer (some ⟨g266, 0, none⟩), .int .i64 2] rfl (by (try simp only [List.map_toArray, List.map_cons, List.map_nil]); first | done | rfl | (simp only [List.length_drop, List.length_take]; rfl)) ?_; (with_reducible refine (spec_l1Once.calls g266 t263 t264 t265 2 t268 t269 t270 w _ ?side1 ?side2 A3.out).mono ?_); (case side1 => repeat (first | (with_reducible first | exact HI266.out | apply IsS75.alloc | apply IsS75.drewN | apply IsS75.drew | apply IsS75.set_1 | apply IsS75.set_2 | refine IsS75.far ?_ NB266_261.out _ | refine IsS75.far ?_ NB266_262.out _ | refine IsS75.far ?_ NB266_267.out _) | exact HI266.out)); (case side2 => repeat (first | (with_reducible first | exact HB.out | apply below_alloc | apply pw_below_drewN | apply below_drew1 | refine below_set ?_ (IsS75.ge HI266.out) | refine below_set ?_ GE261.out | refine below_set ?_ GE262.out | refine below_set ?_ GE267.out) | exact HB.out)); rintro e w13 ⟨rfl, hi, hb, hk⟩; refine ⟨_, rfl, ?_⟩; have n0_ := Aside0.mk (KeepBut.blk hk (g' := gb261) (o := .cells #[.int .i64 0, .int .i64 0, .int .i64 0, .int .i64 0, .int .i64 0] 43 (0, 0)) (by (with_reducible repeat (first | refine blk_drewN ?_ _ | refine blk_drew ?_ | refine blk_alloc ?_ _)); refine blk_far ?_ NB261_267.out _; refine blk_far ?_ NB261_267.out _; refine blk_far ?_ NB261_267.out _; refine blk_far ?_ NB261_267.out _; refine blk_far ?_ NB261_267.out _; (with_reducible repeat (first | refine blk_drewN ?_ _ | refine blk_drew ?_ | refine blk_alloc ?_ _)); exact BK261.out) NB261_266.out (by simp)); have n1_ := Aside0.mk (KeepBut.blk hk (g' := gb262) (o := .cells #[.int .i64 0, .int .i64 0, .int .i64 0, .int .i64 0, .int .i64 0] 40 (0, 0)) (by (with_reducible repeat (first | refine blk_drewN ?_ _ | refine blk_drew ?_ | refine blk_alloc ?_ _)); refine blk_far ?_ NB262_267.out _; refine blk_far ?_ NB262_267.out _; refine blk_far ?_ NB262_267.out _; refine blk_far ?_ NB262_267.out _; refine blk_far ?_ NB262_267.out _; (with_reducible repeat (first | refine blk_drewN ?_ _ | refine blk_drew ?_ | refine blk_alloc ?_ _)); exact BK262.out) NB262_266.out (by simp)); have n2_ := Aside0.mk (KeepBut.blk hk (g' := gb267) (o := .cells #[.int .i64 0, .int .i64 0, .int .i64 0, .int .i64 0, .int .i64 0] 40 (0, 0)) (by (with_reducible repeat (first | refine blk_drewN ?_ _ | refine blk_drew ?_ | refine blk_alloc ?_ _)); refine blk_put (cs := #[.int .i64 0, .int .i64 0, .int .i64 0, .int .i64 0, .int .i64 0]) ?_ 4 _ rfl; refine blk_put (cs := #[.int .i64 0, .int .i64 0, .int .i64 0, .int .i64 0, .int .i64 0]) ?_ 3 _ rfl; refine blk_put (cs := #[.int .i64 0, .int .i64 0, .int .i64 0, .int .i64 0, .int .i64 0]) ?_ 2 _ rfl; refine blk_put (cs := #[.int .i64 0, .int .i64 0, .int .i64 0, .int .i64 0, .int .i64 0]) ?_ 1 _ rfl; refine blk_put (cs := #[.int .i64 0, .int .i64 0, .int .i64 0, .int .i64 0, .int .i64 0]) ?_ 0 _ rfl; (with_reducible repeat (first | refine blk_drewN ?_ _ | refine blk_drew ?_ | refine blk_alloc ?_ _)); exact BK267.out) NB267_266.out (by simp)); have n3_ := Aside0.mk (hb); have n4_ := Aside0.mk (hi); clear BK261; clear BK262; clear BK267; clear HB; clear HI266; have BK261 := n0_; have BK262 := n1_; have BK267 := n2_; have HB := n3_; have HI266 := n4_; clear n0_ n1_ n2_ n3_ n4_; (try clear hb); (try clear hb2); (try clear hk); (try clear hi)))
 (try simp only [Act.put, List.setIfInBounds_toArray, List.set_cons_zero, List.set_cons_succ])
 go_cut [] (fun wc => ∃ (kq : Nat) (x267001_3 : Int) (x267002_3 : Int) (x268000_3 : Int) (x268001_3 : Int) (x268002_3 : Int) (x268003_3 : Int) (x268004_3 : Int), Aside0 (spec_DrawIir.j0 kq l0 t263 x267001_3 x267002_3 x268000_3 x268001_3 x268002_3 x268003_3 x268004_3 = some (r1, r2, r3, r4, r5, r6, r7, r8, r9, r10, r11)) ∧ Aside0 (kq ≤ k) ∧ Aside0 (wc.heap[gb261]? = some (.cells #[.int .i64 0, .int .i64 0, .int .i64 0, .int .i64 0, .int .i64 0] 43 (0, 0))) ∧ Aside0 (wc.heap[gb262]? = some (.cells #[.int .i64 0, .int .i64 0, .int .i64 0, .int .i64 0, .int .i64 0] 40 (0, 0))) ∧ Aside0 (wc.heap[gb267]? = some (.cells #[.int .i64 x268000_3, .int .i64 x268001_3, .int .i64 x268002_3, .int .i64 x268003_3, .int .i64 x268004_3] 40 (0, 0))) ∧ Aside0 (IsS75 w wc g266 t263 x267001_3 x267002_3) ∧ Aside0 (Below w.heap.size w wc))
 case first =>
  have H := HC4.out
  clear HC4
  by_cases c14 : t268 = true
  ·subst c14
   have H1 : ((spec_l1Below.f t263 t269 t270 200).bind fun bt271 => ((spec_l1Below.f t263 bt271.2.1 bt271.2.2 200).bind fun bt274 => ((spec_l1Below.f t263 bt274.2.1 bt274.2.2 2000).bind fun bt277 => ((spec_l1Below.f t263 bt277.2.1 bt277.2.2 2000).bind fun bt280 => ((spec_l1Below.f t263 bt280.2.1 bt280.2.2 16384).bind fun bt283 => (spec_DrawIir.j0 k l0 t263 bt283.2.1 bt283.2.2 (wrap64 (bt271.1 - 100)) (wrap64 (bt274.1 - 100)) (wrap64 (bt277.1 - 1000)) (wrap64 (bt280.1 - 1000)) bt283.1)))))) = some (r1, r2, r3, r4, r5, r6, r7, r8, r9, r10, r11) := by rw [if_pos rfl] at H; exact H
   clear H
   have H := H1
   clear H1
   replace H := Option.bind_eq_some_iff.mp H
   obtain ⟨⟨t271, t272, t273⟩, A150, H⟩ := H
   (try dsimp only at H)
   have A15 := Aside0.mk A150
   clear A150
   replace H := Option.bind_eq_some_iff.mp H
   obtain ⟨⟨t274, t275, t276⟩, A160, H⟩ := H
   replace H : ((spec_l1Below.f t263 t275 t276 2000).bind fun bt277 => ((spec_l1Below.f t263 bt277.2.1 bt277.2.2 2000).bind fun bt280 => ((spec_l1Below.f t263 bt280.2.1 bt280.2.2 16384).bind fun bt283 => (spec_DrawIir.j0 k l0 t263 bt283.2.1 bt283.2.2 (wrap64 (t271 - 100)) (wrap64 (t274 - 100)) (wrap64 (bt277.1 - 1000)) (wrap64 (bt280.1 - 1000)) bt283.1)))) = some (r1, r2, r3, r4, r5, r6, r7, r8, r9, r10, r11) := H
   have A16 := Aside0.mk A160
   clear A160
   replace H := Option.bind_eq_some_iff.mp H
   obtain ⟨⟨t277, t278, t279⟩, A170, H⟩ := H
   replace H : ((spec_l1Below.f t263 t278 t279 2000).bind fun bt280 => ((spec_l1Below.f t263 bt280.2.1 bt280.2.2 16384).bind fun bt283 => (spec_DrawIir.j0 k l0 t263 bt283.2.1 bt283.2.2 (wrap64 (t271 - 100)) (wrap64 (t274 - 100)) (wrap64 (t277 - 1000)) (wrap64 (bt280.1 - 1000)) bt283.1))) = some (r1, r2, r3, r4, r5, r6, r7, r8, r9, r10, r11) := H
   have A17 := Aside0.mk A170
   clear A170
   replace H := Option.bind_eq_some_iff.mp H
   obtain ⟨⟨t280, t281, t282⟩, A180, H⟩ := H
   replace H : ((spec_l1Below.f t263 t281 t282 16384).bind fun bt283 => (spec_DrawIir.j0 k l0 t263 bt283.2.1 bt283.2.2 (wrap64 (t271 - 100)) (wrap64 (t274 - 100)) (wrap64 (t277 - 1000)) (wrap64 (t280 - 1000)) bt283.1)) = some (r1, r2, r3, r4, r5, r6, r7, r8, r9, r10, r11) := H
   have A18 := Aside0.mk A180
   clear A180
   replace H := Option.bind_eq_some_iff.mp H
   obtain ⟨⟨t283, t284, t285⟩, A190, H⟩ := H
   replace H : (spec_DrawIir.j0 k l0 t263 t284 t285 (wrap64 (t271 - 100)) (wrap64 (t274 - 100)) (wrap64 (t277 - 1000)) (wrap64 (t280 - 1000)) t283) = some (r1, r2, r3, r4, r5, r6, r7, r8, r9, r10, r11) := H
   have A19 := Aside0.mk A190
   clear A190
   have H' := Aside0.mk H
   clear H
   go_wp2_with (first | ((with_reducible refine gate_callee (f := 41) rfl ?_); refine goesL_ (some 13) rfl rfl Try.func41 (by kernel_rfl) rfl #[.pointer (some ⟨g266, 0, none⟩), .int .i64 200] rfl (by (try simp only [List.map_toArray, List.map_cons, List.map_nil]); first | done | rfl | (simp only [List.length_drop, List.length_take]; rfl)) ?_; (with_reducible refine (spec_l1Below.calls g266 t263 t269 t270 200 t271 t272 t273 w _ ?side1 ?side2 A15.out).mono ?_); (case side1 => repeat (first | (with_reducible first | exact HI266.out | apply IsS75.alloc | apply IsS75.drewN | apply IsS75.drew | apply IsS75.set_1 | apply IsS75.set_2 | refine IsS75.far ?_ NB266_261.out _ | refine IsS75.far ?_ NB266_262.out _ | refine IsS75.far ?_ NB266_267.out _) | exact HI266.out)); (case side2 => repeat (first | (with_reducible first | exact HB.out | apply below_alloc | apply pw_below_drewN | apply below_drew1 | refine below_set ?_ (IsS75.ge HI266.out) | refine below_set ?_ GE261.out | refine below_set ?_ GE262.out | refine below_set ?_ GE267.out) | exact HB.out)); rintro e w20 ⟨rfl, hi, hb, hk⟩; refine ⟨_, rfl, ?_⟩; have n0_ := Aside0.mk (KeepBut.blk hk (g' := gb261) (o := .cells #[.int .i64 0, .int .i64 0, .int .i64 0, .int .i64 0, .int .i64 0] 43 (0, 0)) (by (with_reducible repeat (first | refine blk_drewN ?_ _ | refine blk_drew ?_ | refine blk_alloc ?_ _)); exact BK261.out) NB261_266.out (by simp)); have n1_ := Aside0.mk (KeepBut.blk hk (g' := gb262) (o := .cells #[.int .i64 0, .int .i64 0, .int .i64 0, .int .i64 0, .int .i64 0] 40 (0, 0)) (by (with_reducible repeat (first | refine blk_drewN ?_ _ | refine blk_drew ?_ | refine blk_alloc ?_ _)); exact BK262.out) NB262_266.out (by simp)); have n2_ := Aside0.mk (KeepBut.blk hk (g' := gb267) (o := .cells #[.int .i64 0, .int .i64 0, .int .i64 0, .int .i64 0, .int .i64 0] 40 (0, 0)) (by (with_reducible repeat (first | refine blk_drewN ?_ _ | refine blk_drew ?_ | refine blk_alloc ?_ _)); exact BK267.out) NB267_266.out (by simp)); have n3_ := Aside0.mk (hb); have n4_ := Aside0.mk (hi); clear BK261; clear BK262; clear BK267; clear HB; clear HI266; have BK261 := n0_; have BK262 := n1_; have BK267 := n2_; have HB := n3_; have HI266 := n4_; clear n0_ n1_ n2_ n3_ n4_; (try clear hb); (try clear hb2); (try clear hk); (try clear hi)) | ((with_reducible refine gate_callee (f := 41) rfl ?_); refine goesL_ (some 16) rfl rfl Try.func41 (by kernel_rfl) rfl #[.pointer (some ⟨g266, 0, none⟩), .int .i64 200] rfl (by (try simp only [List.map_toArray, List.map_cons, List.map_nil]); first | done | rfl | (simp only [List.length_drop, List.length_take]; rfl)) ?_; (with_reducible refine (spec_l1Below.calls g266 t263 t272 t273 200 t274 t275 t276 w _ ?side1 ?side2 A16.out).mono ?_); (case side1 => repeat (first | (with_reducible first | exact HI266.out | apply IsS75.alloc | apply IsS75.drewN | apply IsS75.drew | apply IsS75.set_1 | apply IsS75.set_2 | refine IsS75.far ?_ NB266_261.out _ | refine IsS75.far ?_ NB266_262.out _ | refine IsS75.far ?_ NB266_267.out _) | exact HI266.out)); (case side2 => repeat (first | (with_reducible first | exact HB.out | apply below_alloc | apply pw_below_drewN | apply below_drew1 | refine below_set ?_ (IsS75.ge HI266.out) | refine below_set ?_ GE261.out | refine below_set ?_ GE262.out | refine below_set ?_ GE267.out) | exact HB.out)); rintro e w21 ⟨rfl, hi, hb, hk⟩; refine ⟨_, rfl, ?_⟩; have n0_ := Aside0.mk (KeepBut.blk hk (g' := gb261) (o := .cells #[.int .i64 0, .int .i64 0, .int .i64 0, .int .i64 0, .int .i64 0] 43 (0, 0)) (by (with_reducible repeat (first | refine blk_drewN ?_ _ | refine blk_drew ?_ | refine blk_alloc ?_ _)); exact BK261.out) NB261_266.out (by simp)); have n1_ := Aside0.mk (KeepBut.blk hk (g' := gb262) (o := .cells #[.int .i64 0, .int .i64 0, .int .i64 0, .int .i64 0, .int .i64 0] 40 (0, 0)) (by (with_reducible repeat (first | refine blk_drewN ?_ _ | refine blk_drew ?_ | refine blk_alloc ?_ _)); exact BK262.out) NB262_266.out (by simp)); have n2_ := Aside0.mk (KeepBut.blk hk (g' := gb267) (o := .cells #[.int .i64 0, .int .i64 0, .int .i64 0, .int .i64 0, .int .i64 0] 40 (0, 0)) (by (with_reducible repeat (first | refine blk_drewN ?_ _ | refine blk_drew ?_ | refine blk_alloc ?_ _)); exact BK267.out) NB267_266.out (by simp)); have n3_ := Aside0.mk (hb); have n4_ := Aside0.mk (hi); clear BK261; clear BK262; clear BK267; clear HB; clear HI266; have BK261 := n0_; have BK262 := n1_; have BK267 := n2_; have HB := n3_; have HI266 := n4_; clear n0_ n1_ n2_ n3_ n4_; (try clear hb); (try clear hb2); (try clear hk); (try clear hi)) | ((with_reducible refine gate_callee (f := 41) rfl ?_); refine goesL_ (some 19) rfl rfl Try.func41 (by kernel_rfl) rfl #[.pointer (some ⟨g266, 0, none⟩), .int .i64 2000] rfl (by (try simp only [List.map_toArray, List.map_cons, List.map_nil]); first | done | rfl | (simp only [List.length_drop, List.length_take]; rfl)) ?_; (with_reducible refine (spec_l1Below.calls g266 t263 t275 t276 2000 t277 t278 t279 w _ ?side1 ?side2 A17.out).mono ?_); (case side1 => repeat (first | (with_reducible first | exact HI266.out | apply IsS75.alloc | apply IsS75.drewN | apply IsS75.drew | apply IsS75.set_1 | apply IsS75.set_2 | refine IsS75.far ?_ NB266_261.out _ | refine IsS75.far ?_ NB266_262.out _ | refine IsS75.far ?_ NB266_267.out _) | exact HI266.out)); (case side2 => repeat (first | (with_reducible first | exact HB.out | apply below_alloc | apply pw_below_drewN | apply below_drew1 | refine below_set ?_ (IsS75.ge HI266.out) | refine below_set ?_ GE261.out | refine below_set ?_ GE262.out | refine below_set ?_ GE267.out) | exact HB.out)); rintro e w22 ⟨rfl, hi, hb, hk⟩; refine ⟨_, rfl, ?_⟩; have n0_ := Aside0.mk (KeepBut.blk hk (g' := gb261) (o := .cells #[.int .i64 0, .int .i64 0, .int .i64 0, .int .i64 0, .int .i64 0] 43 (0, 0)) (by (with_reducible repeat (first | refine blk_drewN ?_ _ | refine blk_drew ?_ | refine blk_alloc ?_ _)); exact BK261.out) NB261_266.out (by simp)); have n1_ := Aside0.mk (KeepBut.blk hk (g' := gb262) (o := .cells #[.int .i64 0, .int .i64 0, .int .i64 0, .int .i64 0, .int .i64 0] 40 (0, 0)) (by (with_reducible repeat (first | refine blk_drewN ?_ _ | refine blk_drew ?_ | refine blk_alloc ?_ _)); exact BK262.out) NB262_266.out (by simp)); have n2_ := Aside0.mk (KeepBut.blk hk (g' := gb267) (o := .cells #[.int .i64 0, .int .i64 0, .int .i64 0, .int .i64 0, .int .i64 0] 40 (0, 0)) (by (with_reducible repeat (first | refine blk_drewN ?_ _ | refine blk_drew ?_ | refine blk_alloc ?_ _)); exact BK267.out) NB267_266.out (by simp)); have n3_ := Aside0.mk (hb); have n4_ := Aside0.mk (hi); clear BK261; clear BK262; clear BK267; clear HB; clear HI266; have BK261 := n0_; have BK262 := n1_; have BK267 := n2_; have HB := n3_; have HI266 := n4_; clear n0_ n1_ n2_ n3_ n4_; (try clear hb); (try clear hb2); (try clear hk); (try clear hi)) | ((with_reducible refine gate_callee (f := 41) rfl ?_); refine goesL_ (some 22) rfl rfl Try.func41 (by kernel_rfl) rfl #[.pointer (some ⟨g266, 0, none⟩), .int .i64 2000] rfl (by (try simp only [List.map_toArray, List.map_cons, List.map_nil]); first | done | rfl | (simp only [List.length_drop, List.length_take]; rfl)) ?_; (with_reducible refine (spec_l1Below.calls g266 t263 t278 t279 2000 t280 t281 t282 w _ ?side1 ?side2 A18.out).mono ?_); (case side1 => repeat (first | (with_reducible first | exact HI266.out | apply IsS75.alloc | apply IsS75.drewN | apply IsS75.drew | apply IsS75.set_1 | apply IsS75.set_2 | refine IsS75.far ?_ NB266_261.out _ | refine IsS75.far ?_ NB266_262.out _ | refine IsS75.far ?_ NB266_267.out _) | exact HI266.out)); (case side2 => repeat (first | (with_reducible first | exact HB.out | apply below_alloc | apply pw_below_drewN | apply below_drew1 | refine below_set ?_ (IsS75.ge HI266.out) | refine below_set ?_ GE261.out | refine below_set ?_ GE262.out | refine below_set ?_ GE267.out) | exact HB.out)); rintro e w23 ⟨rfl, hi, hb, hk⟩; refine ⟨_, rfl, ?_⟩; have n0_ := Aside0.mk (KeepBut.blk hk (g' := gb261) (o := .cells #[.int .i64 0, .int .i64 0, .int .i64 0, .int .i64 0, .int .i64 0] 43 (0, 0)) (by (with_reducible repeat (first | refine blk_drewN ?_ _ | refine blk_drew ?_ | refine blk_alloc ?_ _)); exact BK261.out) NB261_266.out (by simp)); have n1_ := Aside0.mk (KeepBut.blk hk (g' := gb262) (o := .cells #[.int .i64 0, .int .i64 0, .int .i64 0, .int .i64 0, .int .i64 0] 40 (0, 0)) (by (with_reducible repeat (first | refine blk_drewN ?_ _ | refine blk_drew ?_ | refine blk_alloc ?_ _)); exact BK262.out) NB262_266.out (by simp)); have n2_ := Aside0.mk (KeepBut.blk hk (g' := gb267) (o := .cells #[.int .i64 0, .int .i64 0, .int .i64 0, .int .i64 0, .int .i64 0] 40 (0, 0)) (by (with_reducible repeat (first | refine blk_drewN ?_ _ | refine blk_drew ?_ | refine blk_alloc ?_ _)); exact BK267.out) NB267_266.out (by simp)); have n3_ := Aside0.mk (hb); have n4_ := Aside0.mk (hi); clear BK261; clear BK262; clear BK267; clear HB; clear HI266; have BK261 := n0_; have BK262 := n1_; have BK267 := n2_; have HB := n3_; have HI266 := n4_; clear n0_ n1_ n2_ n3_ n4_; (try clear hb); (try clear hb2); (try clear hk); (try clear hi)) | ((with_reducible refine gate_callee (f := 41) rfl ?_); refine goesL_ (some 25) rfl rfl Try.func41 (by kernel_rfl) rfl #[.pointer (some ⟨g266, 0, none⟩), .int .i64 16384] rfl (by (try simp only [List.map_toArray, List.map_cons, List.map_nil]); first | done | rfl | (simp only [List.length_drop, List.length_take]; rfl)) ?_; (with_reducible refine (spec_l1Below.calls g266 t263 t281 t282 16384 t283 t284 t285 w _ ?side1 ?side2 A19.out).mono ?_); (case side1 => repeat (first | (with_reducible first | exact HI266.out | apply IsS75.alloc | apply IsS75.drewN | apply IsS75.drew | apply IsS75.set_1 | apply IsS75.set_2 | refine IsS75.far ?_ NB266_261.out _ | refine IsS75.far ?_ NB266_262.out _ | refine IsS75.far ?_ NB266_267.out _) | exact HI266.out)); (case side2 => repeat (first | (with_reducible first | exact HB.out | apply below_alloc | apply pw_below_drewN | apply below_drew1 | refine below_set ?_ (IsS75.ge HI266.out) | refine below_set ?_ GE261.out | refine below_set ?_ GE262.out | refine below_set ?_ GE267.out) | exact HB.out)); rintro e w24 ⟨rfl, hi, hb, hk⟩; refine ⟨_, rfl, ?_⟩; have n0_ := Aside0.mk (KeepBut.blk hk (g' := gb261) (o := .cells #[.int .i64 0, .int .i64 0, .int .i64 0, .int .i64 0, .int .i64 0] 43 (0, 0)) (by (with_reducible repeat (first | refine blk_drewN ?_ _ | refine blk_drew ?_ | refine blk_alloc ?_ _)); exact BK261.out) NB261_266.out (by simp)); have n1_ := Aside0.mk (KeepBut.blk hk (g' := gb262) (o := .cells #[.int .i64 0, .int .i64 0, .int .i64 0, .int .i64 0, .int .i64 0] 40 (0, 0)) (by (with_reducible repeat (first | refine blk_drewN ?_ _ | refine blk_drew ?_ | refine blk_alloc ?_ _)); exact BK262.out) NB262_266.out (by simp)); have n2_ := Aside0.mk (KeepBut.blk hk (g' := gb267) (o := .cells #[.int .i64 0, .int .i64 0, .int .i64 0, .int .i64 0, .int .i64 0] 40 (0, 0)) (by (with_reducible repeat (first | refine blk_drewN ?_ _ | refine blk_drew ?_ | refine blk_alloc ?_ _)); exact BK267.out) NB267_266.out (by simp)); have n3_ := Aside0.mk (hb); have n4_ := Aside0.mk (hi); clear BK261; clear BK262; clear BK267; clear HB; clear HI266; have BK261 := n0_; have BK262 := n1_; have BK267 := n2_; have HB := n3_; have HI266 := n4_; clear n0_ n1_ n2_ n3_ n4_; (try clear hb); (try clear hb2); (try clear hk); (try clear hi); have hnb25 := NB267_261.out; have hnc25 := NB261_267.out; have hnb26 := NB267_262.out; have hnc26 := NB262_267.out; have hnb27 := NB267_266.out; have hnc27 := NB266_267.out; have hcz28_0 : w24.cell? ⟨gb267, 0, none⟩ = some (.int .i64 0) := (blk_cell BK267.out 0).trans rfl; have hcz28_1 : w24.cell? ⟨gb267, 1, none⟩ = some (.int .i64 0) := (blk_cell BK267.out 1).trans rfl; have hcz28_2 : w24.cell? ⟨gb267, 2, none⟩ = some (.int .i64 0) := (blk_cell BK267.out 2).trans rfl; have hcz28_3 : w24.cell? ⟨gb267, 3, none⟩ = some (.int .i64 0) := (blk_cell BK267.out 3).trans rfl; have hcz28_4 : w24.cell? ⟨gb267, 4, none⟩ = some (.int .i64 0) := (blk_cell BK267.out 4).trans rfl; have hfz28_0 := blk_frozen BK267.out 0; have hfz28_1 := blk_frozen BK267.out 1; have hfz28_2 := blk_frozen BK267.out 2; have hfz28_3 := blk_frozen BK267.out 3; have hfz28_4 := blk_frozen BK267.out 4))
   go_meet
   case rel => exact ⟨_, (t284), (t285), (wrap64 (t271 - 100)), (wrap64 (t274 - 100)), (wrap64 (t277 - 1000)), (wrap64 (t280 - 1000)), (t283), H', ⟨by first | omega | exact Nat.le_refl _⟩, ⟨by (with_reducible repeat (first | refine blk_drewN ?_ _ | refine blk_drew ?_ | refine blk_alloc ?_ _)); refine blk_far ?_ NB261_267.out _; refine blk_far ?_ NB261_267.out _; refine blk_far ?_ NB261_267.out _; refine blk_far ?_ NB261_267.out _; refine blk_far ?_ NB261_267.out _; (with_reducible repeat (first | refine blk_drewN ?_ _ | refine blk_drew ?_ | refine blk_alloc ?_ _)); exact BK261.out⟩, ⟨by (with_reducible repeat (first | refine blk_drewN ?_ _ | refine blk_drew ?_ | refine blk_alloc ?_ _)); refine blk_far ?_ NB262_267.out _; refine blk_far ?_ NB262_267.out _; refine blk_far ?_ NB262_267.out _; refine blk_far ?_ NB262_267.out _; refine blk_far ?_ NB262_267.out _; (with_reducible repeat (first | refine blk_drewN ?_ _ | refine blk_drew ?_ | refine blk_alloc ?_ _)); exact BK262.out⟩, ⟨by (with_reducible repeat (first | refine blk_drewN ?_ _ | refine blk_drew ?_ | refine blk_alloc ?_ _)); refine blk_put (cs := #[.int .i64 (wrap64 (t271 - 100)), .int .i64 (wrap64 (t274 - 100)), .int .i64 (wrap64 (t277 - 1000)), .int .i64 (wrap64 (t280 - 1000)), .int .i64 0]) ?_ 4 _ rfl; refine blk_put (cs := #[.int .i64 (wrap64 (t271 - 100)), .int .i64 (wrap64 (t274 - 100)), .int .i64 (wrap64 (t277 - 1000)), .int .i64 0, .int .i64 0]) ?_ 3 _ rfl; refine blk_put (cs := #[.int .i64 (wrap64 (t271 - 100)), .int .i64 (wrap64 (t274 - 100)), .int .i64 0, .int .i64 0, .int .i64 0]) ?_ 2 _ rfl; refine blk_put (cs := #[.int .i64 (wrap64 (t271 - 100)), .int .i64 0, .int .i64 0, .int .i64 0, .int .i64 0]) ?_ 1 _ rfl; refine blk_put (cs := #[.int .i64 0, .int .i64 0, .int .i64 0, .int .i64 0, .int .i64 0]) ?_ 0 _ rfl; (with_reducible repeat (first | refine blk_drewN ?_ _ | refine blk_drew ?_ | refine blk_alloc ?_ _)); exact BK267.out⟩, ⟨by repeat (first | (with_reducible first | exact HI266.out | apply IsS75.alloc | apply IsS75.drewN | apply IsS75.drew | apply IsS75.set_1 | apply IsS75.set_2 | refine IsS75.far ?_ NB266_261.out _ | refine IsS75.far ?_ NB266_262.out _ | refine IsS75.far ?_ NB266_267.out _) | exact HI266.out)⟩, ⟨by repeat (first | (with_reducible first | exact HB.out | apply below_alloc | apply pw_below_drewN | apply below_drew1 | refine below_set ?_ (IsS75.ge HI266.out) | refine below_set ?_ GE261.out | refine below_set ?_ GE262.out | refine below_set ?_ GE267.out) | exact HB.out)⟩⟩
  ·replace c14 := Bool.eq_false_iff.mpr c14
   subst c14
   have H1 : (spec_DrawIir.j0 k l0 t263 t269 t270 0 0 0 0 0) = some (r1, r2, r3, r4, r5, r6, r7, r8, r9, r10, r11) := by rw [if_neg (show ¬ (false = true) by decide)] at H; exact H
   clear H
   have H := H1
   clear H1
   have H' := Aside0.mk H
   clear H
   go_wp2
   go_meet
   case rel => exact ⟨_, (t269), (t270), (0), (0), (0), (0), (0), H', ⟨by first | omega | exact Nat.le_refl _⟩, ⟨by (with_reducible repeat (first | refine blk_drewN ?_ _ | refine blk_drew ?_ | refine blk_alloc ?_ _)); exact BK261.out⟩, ⟨by (with_reducible repeat (first | refine blk_drewN ?_ _ | refine blk_drew ?_ | refine blk_alloc ?_ _)); exact BK262.out⟩, ⟨by (with_reducible repeat (first | refine blk_drewN ?_ _ | refine blk_drew ?_ | refine blk_alloc ?_ _)); exact BK267.out⟩, ⟨by repeat (first | (with_reducible first | exact HI266.out | apply IsS75.alloc | apply IsS75.drewN | apply IsS75.drew | apply IsS75.set_1 | apply IsS75.set_2 | refine IsS75.far ?_ NB266_261.out _ | refine IsS75.far ?_ NB266_262.out _ | refine IsS75.far ?_ NB266_267.out _) | exact HI266.out)⟩, ⟨by repeat (first | (with_reducible first | exact HB.out | apply below_alloc | apply pw_below_drewN | apply below_drew1 | refine below_set ?_ (IsS75.ge HI266.out) | refine below_set ?_ GE261.out | refine below_set ?_ GE262.out | refine below_set ?_ GE267.out) | exact HB.out)⟩⟩
 case rest =>
  clear HC4
  try clear c1
  try clear c2
  try clear p2
  try clear c3
  try clear c4
  try clear p6
  try clear c9
  try clear c10
  try clear c11
  try clear c14
  try clear c23
  try clear c25
  try clear c26
  try clear c27
  try clear hcz12_0
  try clear hcz12_1
  try clear hcz12_2
  try clear hcz12_3
  try clear hcz12_4
  try clear hcz28_0
  try clear hcz28_1
  try clear hcz28_2
  try clear hcz28_3
  try clear hcz28_4
  try clear hfz12_0
  try clear hfz12_1
  try clear hfz12_2
  try clear hfz12_3
  try clear hfz12_4
  try clear hfz28_0
  try clear hfz28_1
  try clear hfz28_2
  try clear hfz28_3
  try clear hfz28_4
  obtain ⟨kq, x267001_3, x267002_3, x268000_3, x268001_3, x268002_3, x268003_3, x268004_3, HA, HJ3, BK261, BK262, BK267, HI266, HB⟩ := hcut
  cases kq with
  | zero => exact absurd HA.out (by simp [spec_DrawIir.j0])
  | succ kj3 =>
   have H := HA.out
   clear HA
   simp only [spec_DrawIir.j0] at H
   replace H := Option.bind_eq_some_iff.mp H
   obtain ⟨⟨t286, t287, t288⟩, A290, H⟩ := H
   (try dsimp only at H)
   have A29 := Aside0.mk A290
   clear A290
   by_cases c30 : t286 = 0
   ·rw [if_pos c30] at H
    have c30b0 : (t286 == 0) = true := beq_iff_eq.mpr c30
    have c30b1 : (t286 != 0) = false := bne_eq_false_iff_eq.mpr c30
    clear c30
    obtain ⟨y289, hy289⟩ : ∃ y_ : List Int, y_ = (([1000000, (-1000000), 1000001] : List Int)) := ⟨_, rfl⟩
    replace H : ((spec_l1PickInt.f t263 t287 t288 y289).bind fun bt292 => ((spec_l10DrawSection.f kj3 t263 bt292.2.1 bt292.2.2).bind fun bt295 => ((spec_l1Size.f l0 30).bind fun t302 => ((spec_l7DrawSmall.f kj3 t263 bt295.2.2.2.2.2.1 bt295.2.2.2.2.2.2 t302).bind fun bt303 => (some (bt295.1, bt295.2.1, bt295.2.2.1, bt295.2.2.2.1, bt295.2.2.2.2.1, x268000_3, x268001_3, bt292.1, x268003_3, x268004_3, bt303.1)))))) = some (r1, r2, r3, r4, r5, r6, r7, r8, r9, r10, r11) := by first | (rw [hy289]; with_reducible exact H) | (have H2_ := (Option.bind_some _ _).symm.trans H; rw [hy289]; with_reducible exact H2_) | (have H2_ := (Option.bind_some _ _).symm.trans H; with_reducible exact H2_) | with_reducible exact H | (rw [hy289]; exact H) | exact H
    have Ny289 := Aside0.mk hy289
    clear hy289
    replace H := Option.bind_eq_some_iff.mp H
    obtain ⟨⟨t292, t293, t294⟩, A310, H⟩ := H
    replace H : ((spec_l10DrawSection.f kj3 t263 t293 t294).bind fun bt295 => ((spec_l1Size.f l0 30).bind fun t302 => ((spec_l7DrawSmall.f kj3 t263 bt295.2.2.2.2.2.1 bt295.2.2.2.2.2.2 t302).bind fun bt303 => (some (bt295.1, bt295.2.1, bt295.2.2.1, bt295.2.2.2.1, bt295.2.2.2.2.1, x268000_3, x268001_3, t292, x268003_3, x268004_3, bt303.1))))) = some (r1, r2, r3, r4, r5, r6, r7, r8, r9, r10, r11) := H
    have A31 := Aside0.mk A310
    clear A310
    replace H := Option.bind_eq_some_iff.mp H
    obtain ⟨⟨t295, t296, t297, t298, t299, t300, t301⟩, A320, H⟩ := H
    replace H : ((spec_l1Size.f l0 30).bind fun t302 => ((spec_l7DrawSmall.f kj3 t263 t300 t301 t302).bind fun bt303 => (some (t295, t296, t297, t298, t299, x268000_3, x268001_3, t292, x268003_3, x268004_3, bt303.1)))) = some (r1, r2, r3, r4, r5, r6, r7, r8, r9, r10, r11) := H
    have A32 := Aside0.mk A320
    clear A320
    replace H := Option.bind_eq_some_iff.mp H
    obtain ⟨t302, A330, H⟩ := H
    replace H : ((spec_l7DrawSmall.f kj3 t263 t300 t301 t302).bind fun bt303 => (some (t295, t296, t297, t298, t299, x268000_3, x268001_3, t292, x268003_3, x268004_3, bt303.1))) = some (r1, r2, r3, r4, r5, r6, r7, r8, r9, r10, r11) := H
    have A33 := Aside0.mk A330
    clear A330
    replace H := Option.bind_eq_some_iff.mp H
    obtain ⟨⟨t303, t306, t307⟩, A340, H⟩ := H
    replace H : (some (t295, t296, t297, t298, t299, x268000_3, x268001_3, t292, x268003_3, x268004_3, t303)) = some (r1, r2, r3, r4, r5, r6, r7, r8, r9, r10, r11) := H
    have A34 := Aside0.mk A340
    clear A340
    simp only [Option.some.injEq, Prod.mk.injEq] at H
    obtain ⟨rfl, rfl, rfl, rfl, rfl, rfl, rfl, rfl, rfl, rfl, rfl⟩ := H
    try go_wp2_with (first | ((with_reducible refine gate_callee (f := 41) rfl ?_); refine goesL_ (some 28) rfl rfl Try.func41 (by kernel_rfl) rfl #[.pointer (some ⟨g266, 0, none⟩), .int .i64 25] rfl (by (try simp only [List.map_toArray, List.map_cons, List.map_nil]); first | done | rfl | (simp only [List.length_drop, List.length_take]; rfl)) ?_; (with_reducible refine (spec_l1Below.calls g266 t263 x267001_3 x267002_3 25 t286 t287 t288 w _ ?side1 ?side2 A29.out).mono ?_); (case side1 => repeat (first | (with_reducible first | exact HI266.out | apply IsS75.alloc | apply IsS75.drewN | apply IsS75.drew | apply IsS75.set_1 | apply IsS75.set_2 | refine IsS75.far ?_ NB266_261.out _ | refine IsS75.far ?_ NB266_262.out _ | refine IsS75.far ?_ NB266_267.out _) | exact HI266.out)); (case side2 => repeat (first | (with_reducible first | exact HB.out | apply below_alloc | apply pw_below_drewN | apply below_drew1 | refine below_set ?_ (IsS75.ge HI266.out) | refine below_set ?_ GE261.out | refine below_set ?_ GE262.out | refine below_set ?_ GE267.out) | exact HB.out)); rintro e w35 ⟨rfl, hi, hb, hk⟩; refine ⟨_, rfl, ?_⟩; have n0_ := Aside0.mk (KeepBut.blk hk (g' := gb261) (o := .cells #[.int .i64 0, .int .i64 0, .int .i64 0, .int .i64 0, .int .i64 0] 43 (0, 0)) (by (with_reducible repeat (first | refine blk_drewN ?_ _ | refine blk_drew ?_ | refine blk_alloc ?_ _)); exact BK261.out) NB261_266.out (by simp)); have n1_ := Aside0.mk (KeepBut.blk hk (g' := gb262) (o := .cells #[.int .i64 0, .int .i64 0, .int .i64 0, .int .i64 0, .int .i64 0] 40 (0, 0)) (by (with_reducible repeat (first | refine blk_drewN ?_ _ | refine blk_drew ?_ | refine blk_alloc ?_ _)); exact BK262.out) NB262_266.out (by simp)); have n2_ := Aside0.mk (KeepBut.blk hk (g' := gb267) (o := .cells #[.int .i64 x268000_3, .int .i64 x268001_3, .int .i64 x268002_3, .int .i64 x268003_3, .int .i64 x268004_3] 40 (0, 0)) (by (with_reducible repeat (first | refine blk_drewN ?_ _ | refine blk_drew ?_ | refine blk_alloc ?_ _)); exact BK267.out) NB267_266.out (by simp)); have n3_ := Aside0.mk (hb); have n4_ := Aside0.mk (hi); clear BK261; clear BK262; clear BK267; clear HB; clear HI266; have BK261 := n0_; have BK262 := n1_; have BK267 := n2_; have HB := n3_; have HI266 := n4_; clear n0_ n1_ n2_ n3_ n4_; (try clear hb); (try clear hb2); (try clear hk); (try clear hi)) | ((with_reducible refine gate_dst (N := 32) rfl ?_); refine Kd.R_lit (Kd.int .i64) _ 3 ?hg (N := 32) ?hd (xs := ([1000000, (-1000000), 1000001] : List Int)) (inner := [.int .i64 1000000, .int .i64 (-1000000), .int .i64 1000001]) (ok := fun _ => True) (okp := fun _ => True) ?hr ?hp (fun _ hk => hk) trivial (Below.refl _ _) (Nat.le_refl _) (by simp) ?_; (case hd => rfl); (case hg => rfl); (case hr => first | (go_simp; done) | (go_simp; rfl)); (case hp => exact (Reps.one (show Kd.M (Kd.int .i64) _ _ _ 1000000 [.int .i64 1000000] from rfl) (Reps.one (show Kd.M (Kd.int .i64) _ _ _ (-1000000) [.int .i64 (-1000000)] from rfl) (Reps.one (show Kd.M (Kd.int .i64) _ _ _ 1000001 [.int .i64 1000001] from rfl) (Reps.none _ _))))); intro v290 w36 ho37 hb hg_ hnew_; clear hg_ hnew_; (first | rw [← Ny289.out] at ho37 | (simp only [Int.reduceToNat] at ho37; rw [← Ny289.out] at ho37)); have n0_ := Aside0.mk (Kd.R_lower ho37 (below_size (by repeat (first | (with_reducible first | exact HB.out | apply below_alloc | apply pw_below_drewN | apply below_drew1 | refine below_set ?_ (IsS75.ge HI266.out) | refine below_set ?_ GE261.out | refine below_set ?_ GE262.out | refine below_set ?_ GE267.out) | exact HB.out)))); have n1_ := Aside0.mk (blk_below (g := gb261) (o := .cells #[.int .i64 0, .int .i64 0, .int .i64 0, .int .i64 0, .int .i64 0] 43 (0, 0)) (by (with_reducible repeat (first | refine blk_drewN ?_ _ | refine blk_drew ?_ | refine blk_alloc ?_ _)); exact BK261.out) hb); have n2_ := Aside0.mk (blk_below (g := gb262) (o := .cells #[.int .i64 0, .int .i64 0, .int .i64 0, .int .i64 0, .int .i64 0] 40 (0, 0)) (by (with_reducible repeat (first | refine blk_drewN ?_ _ | refine blk_drew ?_ | refine blk_alloc ?_ _)); exact BK262.out) hb); have n3_ := Aside0.mk (blk_below (g := gb267) (o := .cells #[.int .i64 x268000_3, .int .i64 x268001_3, .int .i64 x268002_3, .int .i64 x268003_3, .int .i64 x268004_3] 40 (0, 0)) (by (with_reducible repeat (first | refine blk_drewN ?_ _ | refine blk_drew ?_ | refine blk_alloc ?_ _)); exact BK267.out) hb); have n4_ := Aside0.mk (IsS75.below (by repeat (first | (with_reducible first | exact HI266.out | apply IsS75.alloc | apply IsS75.drewN | apply IsS75.drew | apply IsS75.set_1 | apply IsS75.set_2 | refine IsS75.far ?_ NB266_261.out _ | refine IsS75.far ?_ NB266_262.out _ | refine IsS75.far ?_ NB266_267.out _) | exact HI266.out)) hb); have n5_ := Aside0.mk (below_step (by repeat (first | (with_reducible first | exact HB.out | apply below_alloc | apply pw_below_drewN | apply below_drew1 | refine below_set ?_ (IsS75.ge HI266.out) | refine below_set ?_ GE261.out | refine below_set ?_ GE262.out | refine below_set ?_ GE267.out) | exact HB.out)) hb); clear BK261; clear BK262; clear BK267; clear HI266; clear HB; have HO291 := n0_; have BK261 := n1_; have BK262 := n2_; have BK267 := n3_; have HI266 := n4_; have HB := n5_; clear n0_ n1_ n2_ n3_ n4_ n5_; clear hb ho37; obtain ⟨Ao38, co38, eo38⟩ := Kd.R_slice HO291.out; subst eo38) | ((with_reducible refine gate_callee (f := 42) rfl ?_); refine goesL_ (some 33) rfl rfl Try.func42 (by kernel_rfl) rfl #[.pointer (some ⟨g266, 0, none⟩), .slice Ao38 y289.length co38] rfl (by (try simp only [List.map_toArray, List.map_cons, List.map_nil]); first | done | rfl | (simp only [List.length_drop, List.length_take]; rfl)) ?_; (with_reducible refine (spec_l1PickInt.calls g266 t263 t287 t288 _ _ y289 t292 t293 t294 w _ ?side1 ?side2 ?side3 ?side4 ?side5 A31.out).mono ?_); (case side1 => repeat (first | (with_reducible first | exact HI266.out | apply IsS75.alloc | apply IsS75.drewN | apply IsS75.drew | apply IsS75.set_1 | apply IsS75.set_2 | refine IsS75.far ?_ NB266_261.out _ | refine IsS75.far ?_ NB266_262.out _ | refine IsS75.far ?_ NB266_267.out _) | exact HI266.out)); (case side2 => repeat (first | (with_reducible first | exact HB.out | apply below_alloc | apply pw_below_drewN | apply below_drew1 | refine below_set ?_ (IsS75.ge HI266.out) | refine below_set ?_ GE261.out | refine below_set ?_ GE262.out | refine below_set ?_ GE267.out) | exact HB.out)); (case side3 => repeat (first | exact (Kd.R_reads' HO291.out).2.2 | (with_reducible refine Kd.C_alloc ?_ _) | (with_reducible refine Kd.C_drewN ?_ _) | (with_reducible refine Kd.C_drew ?_))); (case side4 => exact (Kd.R_reads' HO291.out).2.1); (case side5 => exact far_slice (IsS75.own_ne HI266.out HO291.out (by decide))); rintro e w39 ⟨rfl, hi, hb, hk⟩; refine ⟨_, rfl, ?_⟩; have n0_ := Aside0.mk (KeepBut.blk hk (g' := gb261) (o := .cells #[.int .i64 0, .int .i64 0, .int .i64 0, .int .i64 0, .int .i64 0] 43 (0, 0)) (by (with_reducible repeat (first | refine blk_drewN ?_ _ | refine blk_drew ?_ | refine blk_alloc ?_ _)); exact BK261.out) NB261_266.out (by simp)); have n1_ := Aside0.mk (KeepBut.blk hk (g' := gb262) (o := .cells #[.int .i64 0, .int .i64 0, .int .i64 0, .int .i64 0, .int .i64 0] 40 (0, 0)) (by (with_reducible repeat (first | refine blk_drewN ?_ _ | refine blk_drew ?_ | refine blk_alloc ?_ _)); exact BK262.out) NB262_266.out (by simp)); have n2_ := Aside0.mk (KeepBut.blk hk (g' := gb267) (o := .cells #[.int .i64 x268000_3, .int .i64 x268001_3, .int .i64 x268002_3, .int .i64 x268003_3, .int .i64 x268004_3] 40 (0, 0)) (by (with_reducible repeat (first | refine blk_drewN ?_ _ | refine blk_drew ?_ | refine blk_alloc ?_ _)); exact BK267.out) NB267_266.out (by simp)); have n3_ := Aside0.mk (Kd.R_mono (Kd.R_keep (IsS75.apart (show IsS75 w _ g266 t263 t287 t288 from by repeat (first | (with_reducible first | exact HI266.out | apply IsS75.alloc | apply IsS75.drewN | apply IsS75.drew | apply IsS75.set_1 | apply IsS75.set_2 | refine IsS75.far ?_ NB266_261.out _ | refine IsS75.far ?_ NB266_262.out _ | refine IsS75.far ?_ NB266_267.out _) | exact HI266.out)) (by (with_reducible repeat (first | apply Kd.R_alloc | apply Kd.R_drewN | apply Kd.R_drew)); exact HO291.out) (by decide)) hk (fun _ h => h.2)) (fun _ h => h.1)); have n4_ := Aside0.mk (hb); have n5_ := Aside0.mk (hi); clear BK261; clear BK262; clear BK267; clear HO291; clear HB; clear HI266; have BK261 := n0_; have BK262 := n1_; have BK267 := n2_; have HO291 := n3_; have HB := n4_; have HI266 := n5_; clear n0_ n1_ n2_ n3_ n4_ n5_; (try clear hb); (try clear hb2); (try clear hk); (try clear hi); have hnb40 := NB267_261.out; have hnc40 := NB261_267.out; have hnb41 := NB267_262.out; have hnc41 := NB262_267.out; have hnb42 := NB267_266.out; have hnc42 := NB266_267.out; have hcz43_0 : w39.cell? ⟨gb267, 0, none⟩ = some (.int .i64 x268000_3) := (blk_cell BK267.out 0).trans rfl; have hcz43_1 : w39.cell? ⟨gb267, 1, none⟩ = some (.int .i64 x268001_3) := (blk_cell BK267.out 1).trans rfl; have hcz43_2 : w39.cell? ⟨gb267, 2, none⟩ = some (.int .i64 x268002_3) := (blk_cell BK267.out 2).trans rfl; have hcz43_3 : w39.cell? ⟨gb267, 3, none⟩ = some (.int .i64 x268003_3) := (blk_cell BK267.out 3).trans rfl; have hcz43_4 : w39.cell? ⟨gb267, 4, none⟩ = some (.int .i64 x268004_3) := (blk_cell BK267.out 4).trans rfl; have hfz43_0 := blk_frozen BK267.out 0; have hfz43_1 := blk_frozen BK267.out 1; have hfz43_2 := blk_frozen BK267.out 2; have hfz43_3 := blk_frozen BK267.out 3; have hfz43_4 := blk_frozen BK267.out 4))
    have n0_ : Aside0 (Kd.R (Kd.int .i64) 3 (w39.setCell ⟨gb267, 2, none⟩ (.int .i64 t292)) w.heap.size (fun _ => True) (.slice Ao38 y289.length co38) y289) := ⟨by (with_reducible repeat (first | apply Kd.R_alloc | apply Kd.R_drewN | apply Kd.R_drew)); exact Kd.R_mono (Kd.R_far (p := ⟨gb267, 2, none⟩) (Kd.R_types HO291.out BK267.out (by decide)) (fun _ hk => hk.2) (.int .i64 t292)) (fun _ hk => trivial)⟩
    have n1_ : Aside0 ((w39.setCell ⟨gb267, 2, none⟩ (.int .i64 t292)).heap[gb261]? = some (.cells #[.int .i64 0, .int .i64 0, .int .i64 0, .int .i64 0, .int .i64 0] 43 (0, 0))) := ⟨by (with_reducible repeat (first | refine blk_drewN ?_ _ | refine blk_drew ?_ | refine blk_alloc ?_ _)); refine blk_far ?_ NB261_267.out _; (with_reducible repeat (first | refine blk_drewN ?_ _ | refine blk_drew ?_ | refine blk_alloc ?_ _)); exact BK261.out⟩
    have n2_ : Aside0 ((w39.setCell ⟨gb267, 2, none⟩ (.int .i64 t292)).heap[gb262]? = some (.cells #[.int .i64 0, .int .i64 0, .int .i64 0, .int .i64 0, .int .i64 0] 40 (0, 0))) := ⟨by (with_reducible repeat (first | refine blk_drewN ?_ _ | refine blk_drew ?_ | refine blk_alloc ?_ _)); refine blk_far ?_ NB262_267.out _; (with_reducible repeat (first | refine blk_drewN ?_ _ | refine blk_drew ?_ | refine blk_alloc ?_ _)); exact BK262.out⟩
    have n3_ : Aside0 ((w39.setCell ⟨gb267, 2, none⟩ (.int .i64 t292)).heap[gb267]? = some (.cells #[.int .i64 x268000_3, .int .i64 x268001_3, .int .i64 t292, .int .i64 x268003_3, .int .i64 x268004_3] 40 (0, 0))) := ⟨by (with_reducible repeat (first | refine blk_drewN ?_ _ | refine blk_drew ?_ | refine blk_alloc ?_ _)); refine blk_put (cs := #[.int .i64 x268000_3, .int .i64 x268001_3, .int .i64 x268002_3, .int .i64 x268003_3, .int .i64 x268004_3]) ?_ 2 _ rfl; (with_reducible repeat (first | refine blk_drewN ?_ _ | refine blk_drew ?_ | refine blk_alloc ?_ _)); exact BK267.out⟩
    have n4_ : Aside0 (IsS75 w (w39.setCell ⟨gb267, 2, none⟩ (.int .i64 t292)) g266 t263 t293 t294) := ⟨by repeat (first | (with_reducible first | exact HI266.out | apply IsS75.alloc | apply IsS75.drewN | apply IsS75.drew | apply IsS75.set_1 | apply IsS75.set_2 | refine IsS75.far ?_ NB266_261.out _ | refine IsS75.far ?_ NB266_262.out _ | refine IsS75.far ?_ NB266_267.out _) | exact HI266.out)⟩
    have n5_ : Aside0 (Below w.heap.size w (w39.setCell ⟨gb267, 2, none⟩ (.int .i64 t292))) := ⟨by repeat (first | (with_reducible first | exact HB.out | apply below_alloc | apply pw_below_drewN | apply below_drew1 | refine below_set ?_ (IsS75.ge HI266.out) | refine below_set ?_ GE261.out | refine below_set ?_ GE262.out | refine below_set ?_ GE267.out) | exact HB.out)⟩
    (try clear HO291)
    (try clear BK261)
    (try clear BK262)
    (try clear BK267)
    (try clear HI266)
    (try clear HB)
    generalize (w39.setCell ⟨gb267, 2, none⟩ (.int .i64 t292)) = w44 at n0_ n1_ n2_ n3_ n4_ n5_ ⊢
    have HO291 := n0_
    have BK261 := n1_
    have BK262 := n2_
    have BK267 := n3_
    have HI266 := n4_
    have HB := n5_
    clear n0_ n1_ n2_ n3_ n4_ n5_
    have n0_ := Aside0.mk (Kd.R_drew HO291.out)
    have n1_ := Aside0.mk (blk_drew BK261.out)
    have n2_ := Aside0.mk (blk_drew BK262.out)
    have n3_ := Aside0.mk (blk_drew BK267.out)
    have n4_ := Aside0.mk (IsS75.drew HI266.out)
    have n5_ := Aside0.mk (below_drew1 HB.out)
    clear HO291
    clear BK261
    clear BK262
    clear BK267
    clear HI266
    clear HB
    have HO291 := n0_
    have BK261 := n1_
    have BK262 := n2_
    have BK267 := n3_
    have HI266 := n4_
    have HB := n5_
    clear n0_ n1_ n2_ n3_ n4_ n5_
    refine start_ (n := 10) (S := fun w' => w'.cell? ⟨gb267, 0, none⟩ = some (.int .i64 x268000_3) ∧ w'.cell? ⟨gb267, 1, none⟩ = some (.int .i64 x268001_3) ∧ w'.cell? ⟨gb267, 2, none⟩ = some (.int .i64 t292) ∧ w'.cell? ⟨gb267, 3, none⟩ = some (.int .i64 x268003_3) ∧ w'.cell? ⟨gb267, 4, none⟩ = some (.int .i64 x268004_3)) (ds := []) #[false, false, false, false, false, false, false, false, false, false] (by kernel_rfl) rfl rfl ⟨(blk_cell BK267.out 0).trans rfl, (blk_cell BK267.out 1).trans rfl, (blk_cell BK267.out 2).trans rfl, (blk_cell BK267.out 3).trans rfl, (blk_cell BK267.out 4).trans rfl⟩ (fun hHeld => ?_); refine with_tabW spec_DrawIir.tab10 spec_DrawIir.bits10 (fun HT_ HW_ => ?_)
    generalize w44.drew = w45 at HO291 BK261 BK262 BK267 HI266 HB hHeld ⊢
    refine pure_ (i := 0) (N := some 41) (v := ?_) (a' := ?_) #[true, false, false, false, false, false, false, false, false, false] rfl rfl (any_of HT_.out (by kernel_rfl)) (fun _ _ _ h => h) (Or.inl ⟨by rfl, ?_⟩) ?_ ?_
    rotate_left
    ·intro w'
     go_simp
     with_reducible rfl
    rotate_left
    ·simp only [Act.put, List.setIfInBounds_toArray, List.set_cons_zero, List.set_cons_succ, i64_w, i32_w]
     rfl
    refine pure_ (i := 3) (N := some 44) (v := ?_) (a' := ?_) #[true, false, false, true, false, false, false, false, false, false] rfl rfl (any_of HT_.out (by kernel_rfl)) (fun _ _ _ h => h) (Or.inl ⟨by rfl, ?_⟩) ?_ ?_
    rotate_left
    ·intro w'
     go_simp
     with_reducible rfl
    rotate_left
    ·simp only [Act.put, List.setIfInBounds_toArray, List.set_cons_zero, List.set_cons_succ, i64_w, i32_w]
     rfl
    refine pure_ (i := 4) (N := some 45) (v := ?_) (a' := ?_) #[true, false, false, true, true, false, false, false, false, false] rfl rfl (any_of HT_.out (by kernel_rfl)) (fun _ _ _ h => h) (Or.inl ⟨by rfl, ?_⟩) ?_ ?_
    rotate_left
    ·intro w'
     go_simp
     with_reducible rfl
    rotate_left
    ·simp only [Act.put, List.setIfInBounds_toArray, List.set_cons_zero, List.set_cons_succ, i64_w, i32_w]
     rfl
    refine take_ (i := 2) (N := some 43) (v := ?_) (a' := ?_) #[true, false, true, true, true, false, false, false, false, false] rfl rfl (take_ofW HT_.out HW_.out (by kernel_rfl)) (fun _ _ _ h => h) (Or.inl ⟨by rfl, ?_⟩) hHeld ?_ ?_
    rotate_left
    ·rintro w' ⟨s0, s1, s2, s3, s4⟩
     go_simp
     with_reducible rfl
    rotate_left
    ·simp only [Act.put, List.setIfInBounds_toArray, List.set_cons_zero, List.set_cons_succ, i64_w, i32_w]
     rfl
    refine one_ (i := 1) (N := some 42) #[true, true, true, true, true, false, false, false, false, false] rfl rfl (one_of HT_.out (by kernel_rfl)) (by decide) (fun K hK => ?_)
    refine goes_ Try.func43 (by kernel_rfl) rfl #[.pointer (some ⟨g266, 0, none⟩)] (by rfl) rfl rfl (by (try simp only [List.map_toArray, List.map_cons, List.map_nil]); first | done | rfl | (simp only [List.length_drop, List.length_take]; rfl)) ?_
    with_reducible refine (spec_l10DrawSection.calls kj3 g266 t263 t293 t294 t295 t296 t297 t298 t299 t300 t301 w _ ?side1 ?side2 A32.out).mono ?_
    (case side1 => repeat (first | (with_reducible first | exact HI266.out | apply IsS75.alloc | apply IsS75.drewN | apply IsS75.drew | apply IsS75.set_1 | apply IsS75.set_2 | refine IsS75.far ?_ NB266_261.out _ | refine IsS75.far ?_ NB266_262.out _ | refine IsS75.far ?_ NB266_267.out _) | exact HI266.out))
    (case side2 => repeat (first | (with_reducible first | exact HB.out | apply below_alloc | apply pw_below_drewN | apply below_drew1 | refine below_set ?_ (IsS75.ge HI266.out) | refine below_set ?_ GE261.out | refine below_set ?_ GE262.out | refine below_set ?_ GE267.out) | exact HB.out))
    rintro e w46 ⟨rfl, hi, hb, hk⟩
    refine ⟨_, rfl, ?_⟩
    have n0_ := Aside0.mk (KeepBut.blk hk (g' := gb261) (o := .cells #[.int .i64 0, .int .i64 0, .int .i64 0, .int .i64 0, .int .i64 0] 43 (0, 0)) (by (with_reducible repeat (first | refine blk_drewN ?_ _ | refine blk_drew ?_ | refine blk_alloc ?_ _)); exact BK261.out) NB261_266.out (by simp))
    have n1_ := Aside0.mk (KeepBut.blk hk (g' := gb262) (o := .cells #[.int .i64 0, .int .i64 0, .int .i64 0, .int .i64 0, .int .i64 0] 40 (0, 0)) (by (with_reducible repeat (first | refine blk_drewN ?_ _ | refine blk_drew ?_ | refine blk_alloc ?_ _)); exact BK262.out) NB262_266.out (by simp))
    have n2_ := Aside0.mk (KeepBut.blk hk (g' := gb267) (o := .cells #[.int .i64 x268000_3, .int .i64 x268001_3, .int .i64 t292, .int .i64 x268003_3, .int .i64 x268004_3] 40 (0, 0)) (by (with_reducible repeat (first | refine blk_drewN ?_ _ | refine blk_drew ?_ | refine blk_alloc ?_ _)); exact BK267.out) NB267_266.out (by simp))
    have n3_ := Aside0.mk (Kd.R_mono (Kd.R_keep (IsS75.apart (show IsS75 w _ g266 t263 t293 t294 from by repeat (first | (with_reducible first | exact HI266.out | apply IsS75.alloc | apply IsS75.drewN | apply IsS75.drew | apply IsS75.set_1 | apply IsS75.set_2 | refine IsS75.far ?_ NB266_261.out _ | refine IsS75.far ?_ NB266_262.out _ | refine IsS75.far ?_ NB266_267.out _) | exact HI266.out)) (by (with_reducible repeat (first | apply Kd.R_alloc | apply Kd.R_drewN | apply Kd.R_drew)); exact HO291.out) (by decide)) hk (fun _ h => h.2)) (fun _ h => h.1))
    have n4_ := Aside0.mk (hb)
    have n5_ := Aside0.mk (hi)
    clear BK261
    clear BK262
    clear BK267
    clear HO291
    clear HB
    clear HI266
    have BK261 := n0_
    have BK262 := n1_
    have BK267 := n2_
    have HO291 := n3_
    have HB := n4_
    have HI266 := n5_
    clear n0_ n1_ n2_ n3_ n4_ n5_
    (try clear hb)
    (try clear hb2)
    (try clear hk)
    (try clear hi)
    refine hK.out _ _ ⟨(blk_cell BK267.out 0).trans rfl, (blk_cell BK267.out 1).trans rfl, (blk_cell BK267.out 2).trans rfl, (blk_cell BK267.out 3).trans rfl, (blk_cell BK267.out 4).trans rfl⟩ (fun hHeld => ?_)
    clear hK K
    refine norm_ (a' := ?_) ?_ ?_
    rotate_left
    ·show Act.put _ (some 42) _ = _
     simp only [Act.put, List.setIfInBounds_toArray, List.set_cons_zero, List.set_cons_succ, i64_w, i32_w]
     rfl
    refine one_ (i := 5) (N := some 46) #[true, true, true, true, true, true, false, false, false, false] rfl rfl (one_of HT_.out (by kernel_rfl)) (by decide) (fun K hK => ?_)
    refine goes_ Try.func45 (by kernel_rfl) rfl #[.slice A0 l0.length c0, .int .i64 30] (by rfl) rfl rfl (by (try simp only [List.map_toArray, List.map_cons, List.map_nil]); first | done | rfl | (simp only [List.length_drop, List.length_take]; rfl)) ?_
    with_reducible refine (spec_l1Size.calls _ _ l0 30 t302 _ ?side1 ?side2 A33.out).mono ?_
    (case side1 => repeat (first | exact (Kd.C_below HR0.out HB.out) | (with_reducible refine Kd.C_alloc ?_ _) | (with_reducible refine Kd.C_drewN ?_ _) | (with_reducible refine Kd.C_drew ?_)))
    (case side2 => exact HC0.out)
    rintro e w' ⟨rfl, ⟨nd, rfl⟩⟩
    refine ⟨_, rfl, ?_⟩
    refine hK.out _ _ ⟨(blk_cell BK267.out 0).trans rfl, (blk_cell BK267.out 1).trans rfl, (blk_cell BK267.out 2).trans rfl, (blk_cell BK267.out 3).trans rfl, (blk_cell BK267.out 4).trans rfl⟩ (fun hHeld => ?_)
    clear hK K
    refine norm_ (a' := ?_) ?_ ?_
    rotate_left
    ·show Act.put _ (some 46) _ = _
     simp only [Act.put, List.setIfInBounds_toArray, List.set_cons_zero, List.set_cons_succ, i64_w, i32_w]
     rfl
    refine one_ (i := 6) (N := some 47) #[true, true, true, true, true, true, true, false, false, false] rfl rfl (one_of HT_.out (by kernel_rfl)) (by decide) (fun K hK => ?_)
    refine goes_ Try.func44 (by kernel_rfl) rfl #[.pointer (some ⟨g266, 0, none⟩), .int .i64 t302] (by rfl) rfl rfl (by (try simp only [List.map_toArray, List.map_cons, List.map_nil]); first | done | rfl | (simp only [List.length_drop, List.length_take]; rfl)) ?_
    with_reducible refine (spec_l7DrawSmall.calls kj3 g266 t263 t300 t301 t302 t303 t306 t307 w _ ?side1 ?side2 A34.out).mono ?_
    (case side1 => repeat (first | (with_reducible first | exact HI266.out | apply IsS75.alloc | apply IsS75.drewN | apply IsS75.drew | apply IsS75.set_1 | apply IsS75.set_2 | refine IsS75.far ?_ NB266_261.out _ | refine IsS75.far ?_ NB266_262.out _ | refine IsS75.far ?_ NB266_267.out _) | exact HI266.out))
    (case side2 => repeat (first | (with_reducible first | exact HB.out | apply below_alloc | apply pw_below_drewN | apply below_drew1 | refine below_set ?_ (IsS75.ge HI266.out) | refine below_set ?_ GE261.out | refine below_set ?_ GE262.out | refine below_set ?_ GE267.out) | exact HB.out))
    rintro e w47 ⟨v304, rfl, ho0, hi, hb, hk⟩
    refine ⟨_, rfl, ?_⟩
    have n0_ := Aside0.mk (KeepBut.blk hk (g' := gb261) (o := .cells #[.int .i64 0, .int .i64 0, .int .i64 0, .int .i64 0, .int .i64 0] 43 (0, 0)) (by (with_reducible repeat (first | refine blk_drewN ?_ _ | refine blk_drew ?_ | refine blk_alloc ?_ _)); exact BK261.out) NB261_266.out (by simp))
    have n1_ := Aside0.mk (KeepBut.blk hk (g' := gb262) (o := .cells #[.int .i64 0, .int .i64 0, .int .i64 0, .int .i64 0, .int .i64 0] 40 (0, 0)) (by (with_reducible repeat (first | refine blk_drewN ?_ _ | refine blk_drew ?_ | refine blk_alloc ?_ _)); exact BK262.out) NB262_266.out (by simp))
    have n2_ := Aside0.mk (KeepBut.blk hk (g' := gb267) (o := .cells #[.int .i64 x268000_3, .int .i64 x268001_3, .int .i64 t292, .int .i64 x268003_3, .int .i64 x268004_3] 40 (0, 0)) (by (with_reducible repeat (first | refine blk_drewN ?_ _ | refine blk_drew ?_ | refine blk_alloc ?_ _)); exact BK267.out) NB267_266.out (by simp))
    have n3_ := Aside0.mk (Kd.R_mono (Kd.R_told (Kd.R_oldK (IsS75.apart (show IsS75 w _ g266 t263 t300 t301 from by repeat (first | (with_reducible first | exact HI266.out | apply IsS75.alloc | apply IsS75.drewN | apply IsS75.drew | apply IsS75.set_1 | apply IsS75.set_2 | refine IsS75.far ?_ NB266_261.out _ | refine IsS75.far ?_ NB266_262.out _ | refine IsS75.far ?_ NB266_267.out _) | exact HI266.out)) (by (with_reducible repeat (first | apply Kd.R_alloc | apply Kd.R_drewN | apply Kd.R_drew)); exact HO291.out) (by decide)) hk) (Kd.R_base ho0)) (fun _ h_ => h_.1))
    have n4_ := Aside0.mk (Kd.R_lower (Kd.R_new' ho0 (Kd.R_lt (by (with_reducible repeat (first | apply Kd.R_alloc | apply Kd.R_drewN | apply Kd.R_drew)); exact HO291.out))) (below_size (by repeat (first | (with_reducible first | exact HB.out | apply below_alloc | apply pw_below_drewN | apply below_drew1 | refine below_set ?_ (IsS75.ge HI266.out) | refine below_set ?_ GE261.out | refine below_set ?_ GE262.out | refine below_set ?_ GE267.out) | exact HB.out))))
    have n5_ := Aside0.mk (hb)
    have n6_ := Aside0.mk (hi)
    clear BK261
    clear BK262
    clear BK267
    clear HO291
    clear HB
    clear HI266
    have BK261 := n0_
    have BK262 := n1_
    have BK267 := n2_
    have HO291 := n3_
    have HO305 := n4_
    have HB := n5_
    have HI266 := n6_
    clear n0_ n1_ n2_ n3_ n4_ n5_ n6_
    (try clear hb)
    (try clear hb2)
    (try clear hk)
    (try clear hi)
    (try clear ho0)
    refine hK.out _ _ ⟨(blk_cell BK267.out 0).trans rfl, (blk_cell BK267.out 1).trans rfl, (blk_cell BK267.out 2).trans rfl, (blk_cell BK267.out 3).trans rfl, (blk_cell BK267.out 4).trans rfl⟩ (fun hHeld => ?_)
    clear hK K
    refine norm_ (a' := ?_) ?_ ?_
    rotate_left
    ·show Act.put _ (some 47) _ = _
     simp only [Act.put, List.setIfInBounds_toArray, List.set_cons_zero, List.set_cons_succ, i64_w, i32_w]
     rfl
    refine one_ (i := 7) (N := none) #[true, true, true, true, true, true, true, true, false, false] rfl rfl (one_of HT_.out (by kernel_rfl)) (by decide) (fun K hK => ?_)
    have hs48 : w47.cell? ⟨gb261, 0, none⟩ = some (.int .i64 0) := (blk_cell BK261.out 0).trans rfl
    have hfs48 := blk_frozen BK261.out 0
    have hns48_1 := NB262_261.out
    have hns48_2 := NB267_261.out
    have hms48_1 := NB261_262.out
    have hms48_2 := NB261_267.out
    have hs49 : w47.cell? ⟨gb261, 1, none⟩ = some (.int .i64 0) := (blk_cell BK261.out 1).trans rfl
    have hfs49 := blk_frozen BK261.out 1
    have hns49_1 := NB262_261.out
    have hns49_2 := NB267_261.out
    have hms49_1 := NB261_262.out
    have hms49_2 := NB261_267.out
    have hs50 : w47.cell? ⟨gb261, 2, none⟩ = some (.int .i64 0) := (blk_cell BK261.out 2).trans rfl
    have hfs50 := blk_frozen BK261.out 2
    have hns50_1 := NB262_261.out
    have hns50_2 := NB267_261.out
    have hms50_1 := NB261_262.out
    have hms50_2 := NB261_267.out
    have hs51 : w47.cell? ⟨gb261, 3, none⟩ = some (.int .i64 0) := (blk_cell BK261.out 3).trans rfl
    have hfs51 := blk_frozen BK261.out 3
    have hns51_1 := NB262_261.out
    have hns51_2 := NB267_261.out
    have hms51_1 := NB261_262.out
    have hms51_2 := NB261_267.out
    have hs52 : w47.cell? ⟨gb261, 4, none⟩ = some (.int .i64 0) := (blk_cell BK261.out 4).trans rfl
    have hfs52 := blk_frozen BK261.out 4
    have hns52_1 := NB262_261.out
    have hns52_2 := NB267_261.out
    have hms52_1 := NB261_262.out
    have hms52_2 := NB261_267.out
    refine skip_ (w1 := ?_) (by rfl) rfl ?_ ?_
    rotate_left
    ·go_simp
     rfl
    refine hK.out _ _ ⟨((cell_far (p := ⟨gb261, _, none⟩) NB267_261.out _).trans (((cell_far (p := ⟨gb261, _, none⟩) NB267_261.out _).trans (((cell_far (p := ⟨gb261, _, none⟩) NB267_261.out _).trans (((cell_far (p := ⟨gb261, _, none⟩) NB267_261.out _).trans (((cell_far (p := ⟨gb261, _, none⟩) NB267_261.out _).trans (hHeld.1)))))))))), ((cell_far (p := ⟨gb261, _, none⟩) NB267_261.out _).trans (((cell_far (p := ⟨gb261, _, none⟩) NB267_261.out _).trans (((cell_far (p := ⟨gb261, _, none⟩) NB267_261.out _).trans (((cell_far (p := ⟨gb261, _, none⟩) NB267_261.out _).trans (((cell_far (p := ⟨gb261, _, none⟩) NB267_261.out _).trans (hHeld.2.1)))))))))), ((cell_far (p := ⟨gb261, _, none⟩) NB267_261.out _).trans (((cell_far (p := ⟨gb261, _, none⟩) NB267_261.out _).trans (((cell_far (p := ⟨gb261, _, none⟩) NB267_261.out _).trans (((cell_far (p := ⟨gb261, _, none⟩) NB267_261.out _).trans (((cell_far (p := ⟨gb261, _, none⟩) NB267_261.out _).trans (hHeld.2.2.1)))))))))), ((cell_far (p := ⟨gb261, _, none⟩) NB267_261.out _).trans (((cell_far (p := ⟨gb261, _, none⟩) NB267_261.out _).trans (((cell_far (p := ⟨gb261, _, none⟩) NB267_261.out _).trans (((cell_far (p := ⟨gb261, _, none⟩) NB267_261.out _).trans (((cell_far (p := ⟨gb261, _, none⟩) NB267_261.out _).trans (hHeld.2.2.2.1)))))))))), ((cell_far (p := ⟨gb261, _, none⟩) NB267_261.out _).trans (((cell_far (p := ⟨gb261, _, none⟩) NB267_261.out _).trans (((cell_far (p := ⟨gb261, _, none⟩) NB267_261.out _).trans (((cell_far (p := ⟨gb261, _, none⟩) NB267_261.out _).trans (((cell_far (p := ⟨gb261, _, none⟩) NB267_261.out _).trans (hHeld.2.2.2.2))))))))))⟩ (fun hHeld => ?_)
    clear hK K
    refine one_ (i := 8) (N := none) #[true, true, true, true, true, true, true, true, true, false] rfl rfl (one_of HT_.out (by kernel_rfl)) (by decide) (fun K hK => ?_)
    have hs53 : w47.cell? ⟨gb262, 0, none⟩ = some (.int .i64 0) := (blk_cell BK262.out 0).trans rfl
    have hfs53 := blk_frozen BK262.out 0
    have hns53_0 := NB261_262.out
    have hns53_2 := NB267_262.out
    have hms53_0 := NB262_261.out
    have hms53_2 := NB262_267.out
    have hs54 : w47.cell? ⟨gb262, 1, none⟩ = some (.int .i64 0) := (blk_cell BK262.out 1).trans rfl
    have hfs54 := blk_frozen BK262.out 1
    have hns54_0 := NB261_262.out
    have hns54_2 := NB267_262.out
    have hms54_0 := NB262_261.out
    have hms54_2 := NB262_267.out
    have hs55 : w47.cell? ⟨gb262, 2, none⟩ = some (.int .i64 0) := (blk_cell BK262.out 2).trans rfl
    have hfs55 := blk_frozen BK262.out 2
    have hns55_0 := NB261_262.out
    have hns55_2 := NB267_262.out
    have hms55_0 := NB262_261.out
    have hms55_2 := NB262_267.out
    have hs56 : w47.cell? ⟨gb262, 3, none⟩ = some (.int .i64 0) := (blk_cell BK262.out 3).trans rfl
    have hfs56 := blk_frozen BK262.out 3
    have hns56_0 := NB261_262.out
    have hns56_2 := NB267_262.out
    have hms56_0 := NB262_261.out
    have hms56_2 := NB262_267.out
    have hs57 : w47.cell? ⟨gb262, 4, none⟩ = some (.int .i64 0) := (blk_cell BK262.out 4).trans rfl
    have hfs57 := blk_frozen BK262.out 4
    have hns57_0 := NB261_262.out
    have hns57_2 := NB267_262.out
    have hms57_0 := NB262_261.out
    have hms57_2 := NB262_267.out
    refine skip_ (w1 := ?_) (by rfl) rfl ?_ ?_
    rotate_left
    ·go_simp
     rfl
    refine hK.out _ _ ⟨((cell_far (p := ⟨gb262, _, none⟩) NB267_262.out _).trans (((cell_far (p := ⟨gb262, _, none⟩) NB267_262.out _).trans (((cell_far (p := ⟨gb262, _, none⟩) NB267_262.out _).trans (((cell_far (p := ⟨gb262, _, none⟩) NB267_262.out _).trans (((cell_far (p := ⟨gb262, _, none⟩) NB267_262.out _).trans (hHeld.1)))))))))), ((cell_far (p := ⟨gb262, _, none⟩) NB267_262.out _).trans (((cell_far (p := ⟨gb262, _, none⟩) NB267_262.out _).trans (((cell_far (p := ⟨gb262, _, none⟩) NB267_262.out _).trans (((cell_far (p := ⟨gb262, _, none⟩) NB267_262.out _).trans (((cell_far (p := ⟨gb262, _, none⟩) NB267_262.out _).trans (hHeld.2.1)))))))))), ((cell_far (p := ⟨gb262, _, none⟩) NB267_262.out _).trans (((cell_far (p := ⟨gb262, _, none⟩) NB267_262.out _).trans (((cell_far (p := ⟨gb262, _, none⟩) NB267_262.out _).trans (((cell_far (p := ⟨gb262, _, none⟩) NB267_262.out _).trans (((cell_far (p := ⟨gb262, _, none⟩) NB267_262.out _).trans (hHeld.2.2.1)))))))))), ((cell_far (p := ⟨gb262, _, none⟩) NB267_262.out _).trans (((cell_far (p := ⟨gb262, _, none⟩) NB267_262.out _).trans (((cell_far (p := ⟨gb262, _, none⟩) NB267_262.out _).trans (((cell_far (p := ⟨gb262, _, none⟩) NB267_262.out _).trans (((cell_far (p := ⟨gb262, _, none⟩) NB267_262.out _).trans (hHeld.2.2.2.1)))))))))), ((cell_far (p := ⟨gb262, _, none⟩) NB267_262.out _).trans (((cell_far (p := ⟨gb262, _, none⟩) NB267_262.out _).trans (((cell_far (p := ⟨gb262, _, none⟩) NB267_262.out _).trans (((cell_far (p := ⟨gb262, _, none⟩) NB267_262.out _).trans (((cell_far (p := ⟨gb262, _, none⟩) NB267_262.out _).trans (hHeld.2.2.2.2))))))))))⟩ (fun hHeld => ?_)
    clear hK K
    refine pure_ (i := 9) (N := some 4) (v := ?_) (a' := ?_) #[true, true, true, true, true, true, true, true, true, true] rfl rfl (any_of HT_.out (by kernel_rfl)) (fun _ _ _ h => h) (Or.inl ⟨by rfl, ?_⟩) ?_ ?_
    rotate_left
    ·intro w'
     go_simp
     with_reducible rfl
    rotate_left
    ·simp only [Act.put, List.setIfInBounds_toArray, List.set_cons_zero, List.set_cons_succ, i64_w, i32_w]
     rfl
    refine done_ (done_of HT_.out (by kernel_rfl)) ?_
    try go_wp2
    refine bodyPost_ret (results_list (rs := [.cell 2 43, .cell 3 40, .tmp 4]) rfl (by simp) (.cell gb261 43 #[.int .i64 t295, .int .i64 t296, .int .i64 t297, .int .i64 t298, .int .i64 t299] (0, 0) _ rfl (by (with_reducible repeat (first | refine blk_drewN ?_ _ | refine blk_drew ?_ | refine blk_alloc ?_ _)); refine blk_far ?_ NB261_262.out _; refine blk_far ?_ NB261_262.out _; refine blk_far ?_ NB261_262.out _; refine blk_far ?_ NB261_262.out _; refine blk_far ?_ NB261_262.out _; (with_reducible repeat (first | refine blk_drewN ?_ _ | refine blk_drew ?_ | refine blk_alloc ?_ _)); refine blk_put (cs := #[.int .i64 t295, .int .i64 t296, .int .i64 t297, .int .i64 t298, .int .i64 0]) ?_ 4 _ rfl; refine blk_put (cs := #[.int .i64 t295, .int .i64 t296, .int .i64 t297, .int .i64 0, .int .i64 0]) ?_ 3 _ rfl; refine blk_put (cs := #[.int .i64 t295, .int .i64 t296, .int .i64 0, .int .i64 0, .int .i64 0]) ?_ 2 _ rfl; refine blk_put (cs := #[.int .i64 t295, .int .i64 0, .int .i64 0, .int .i64 0, .int .i64 0]) ?_ 1 _ rfl; refine blk_put (cs := #[.int .i64 0, .int .i64 0, .int .i64 0, .int .i64 0, .int .i64 0]) ?_ 0 _ rfl; (with_reducible repeat (first | refine blk_drewN ?_ _ | refine blk_drew ?_ | refine blk_alloc ?_ _)); exact BK261.out) Try.underlying43 rfl (by kernel_rfl) (.cell gb262 40 #[.int .i64 x268000_3, .int .i64 x268001_3, .int .i64 t292, .int .i64 x268003_3, .int .i64 x268004_3] (0, 0) _ rfl (by (with_reducible repeat (first | refine blk_drewN ?_ _ | refine blk_drew ?_ | refine blk_alloc ?_ _)); refine blk_put (cs := #[.int .i64 x268000_3, .int .i64 x268001_3, .int .i64 t292, .int .i64 x268003_3, .int .i64 0]) ?_ 4 _ rfl; refine blk_put (cs := #[.int .i64 x268000_3, .int .i64 x268001_3, .int .i64 t292, .int .i64 0, .int .i64 0]) ?_ 3 _ rfl; refine blk_put (cs := #[.int .i64 x268000_3, .int .i64 x268001_3, .int .i64 0, .int .i64 0, .int .i64 0]) ?_ 2 _ rfl; refine blk_put (cs := #[.int .i64 x268000_3, .int .i64 0, .int .i64 0, .int .i64 0, .int .i64 0]) ?_ 1 _ rfl; refine blk_put (cs := #[.int .i64 0, .int .i64 0, .int .i64 0, .int .i64 0, .int .i64 0]) ?_ 0 _ rfl; (with_reducible repeat (first | refine blk_drewN ?_ _ | refine blk_drew ?_ | refine blk_alloc ?_ _)); refine blk_far ?_ NB262_261.out _; refine blk_far ?_ NB262_261.out _; refine blk_far ?_ NB262_261.out _; refine blk_far ?_ NB262_261.out _; refine blk_far ?_ NB262_261.out _; (with_reducible repeat (first | refine blk_drewN ?_ _ | refine blk_drew ?_ | refine blk_alloc ?_ _)); exact BK262.out) Try.underlying40 rfl (by kernel_rfl) (.tmp .nil)))) rfl ?_
    exact ⟨_, by first | rfl | (simp [errW_none, errW_some] <;> rfl) | (simp [*, errW_none, errW_some] <;> rfl), by (with_reducible repeat (first | apply Kd.R_alloc | apply Kd.R_drewN | apply Kd.R_drew)); exact Kd.R_mono (Kd.R_far (p := ⟨gb262, 4, none⟩) (Kd.R_far (p := ⟨gb262, 3, none⟩) (Kd.R_far (p := ⟨gb262, 2, none⟩) (Kd.R_far (p := ⟨gb262, 1, none⟩) (Kd.R_far (p := ⟨gb262, 0, none⟩) (Kd.R_far (p := ⟨gb261, 4, none⟩) (Kd.R_far (p := ⟨gb261, 3, none⟩) (Kd.R_far (p := ⟨gb261, 2, none⟩) (Kd.R_far (p := ⟨gb261, 1, none⟩) (Kd.R_far (p := ⟨gb261, 0, none⟩) (Kd.R_types (Kd.R_types HO305.out BK261.out (by decide)) BK262.out (by decide)) (fun _ hk => hk.1.2) (.int .i64 t295)) (fun _ hk => hk.1.2) (.int .i64 t296)) (fun _ hk => hk.1.2) (.int .i64 t297)) (fun _ hk => hk.1.2) (.int .i64 t298)) (fun _ hk => hk.1.2) (.int .i64 t299)) (fun _ hk => hk.2) (.int .i64 x268000_3)) (fun _ hk => hk.2) (.int .i64 x268001_3)) (fun _ hk => hk.2) (.int .i64 t292)) (fun _ hk => hk.2) (.int .i64 x268003_3)) (fun _ hk => hk.2) (.int .i64 x268004_3)) (fun _ hk => trivial), by repeat (first | (with_reducible first | exact HB.out | apply below_alloc | apply pw_below_drewN | apply below_drew1 | refine below_set ?_ (IsS75.ge HI266.out) | refine below_set ?_ GE261.out | refine below_set ?_ GE262.out | refine below_set ?_ GE267.out) | exact HB.out)⟩
   ·rw [if_neg c30] at H
    have c30b0 : (t286 == 0) = false := beq_eq_false_iff_ne.mpr c30
    have c30b1 : (t286 != 0) = true := bne_iff_ne.mpr c30
    by_cases c58 : t286 = 1
    ·rw [if_pos c58] at H
     have c58b0 : (t286 == 1) = true := beq_iff_eq.mpr c58
     have c58b1 : (t286 != 1) = false := bne_eq_false_iff_eq.mpr c58
     clear c58
     obtain ⟨y308, hy308⟩ : ∃ y_ : List Int, y_ = (([(-1), 16384] : List Int)) := ⟨_, rfl⟩
     replace H : ((spec_l1PickInt.f t263 t287 t288 y308).bind fun bt311 => ((spec_l10DrawSection.f kj3 t263 bt311.2.1 bt311.2.2).bind fun bt314 => ((spec_l1Size.f l0 30).bind fun t321 => ((spec_l7DrawSmall.f kj3 t263 bt314.2.2.2.2.2.1 bt314.2.2.2.2.2.2 t321).bind fun bt322 => (some (bt314.1, bt314.2.1, bt314.2.2.1, bt314.2.2.2.1, bt314.2.2.2.2.1, x268000_3, x268001_3, x268002_3, x268003_3, bt311.1, bt322.1)))))) = some (r1, r2, r3, r4, r5, r6, r7, r8, r9, r10, r11) := by first | (rw [hy308]; with_reducible exact H) | (have H2_ := (Option.bind_some _ _).symm.trans H; rw [hy308]; with_reducible exact H2_) | (have H2_ := (Option.bind_some _ _).symm.trans H; with_reducible exact H2_) | with_reducible exact H | (rw [hy308]; exact H) | exact H
     have Ny308 := Aside0.mk hy308
     clear hy308
     replace H := Option.bind_eq_some_iff.mp H
     obtain ⟨⟨t311, t312, t313⟩, A590, H⟩ := H
     replace H : ((spec_l10DrawSection.f kj3 t263 t312 t313).bind fun bt314 => ((spec_l1Size.f l0 30).bind fun t321 => ((spec_l7DrawSmall.f kj3 t263 bt314.2.2.2.2.2.1 bt314.2.2.2.2.2.2 t321).bind fun bt322 => (some (bt314.1, bt314.2.1, bt314.2.2.1, bt314.2.2.2.1, bt314.2.2.2.2.1, x268000_3, x268001_3, x268002_3, x268003_3, t311, bt322.1))))) = some (r1, r2, r3, r4, r5, r6, r7, r8, r9, r10, r11) := H
     have A59 := Aside0.mk A590
     clear A590
     replace H := Option.bind_eq_some_iff.mp H
     obtain ⟨⟨t314, t315, t316, t317, t318, t319, t320⟩, A600, H⟩ := H
     replace H : ((spec_l1Size.f l0 30).bind fun t321 => ((spec_l7DrawSmall.f kj3 t263 t319 t320 t321).bind fun bt322 => (some (t314, t315, t316, t317, t318, x268000_3, x268001_3, x268002_3, x268003_3, t311, bt322.1)))) = some (r1, r2, r3, r4, r5, r6, r7, r8, r9, r10, r11) := H
     have A60 := Aside0.mk A600
     clear A600
     replace H := Option.bind_eq_some_iff.mp H
     obtain ⟨t321, A610, H⟩ := H
     replace H : ((spec_l7DrawSmall.f kj3 t263 t319 t320 t321).bind fun bt322 => (some (t314, t315, t316, t317, t318, x268000_3, x268001_3, x268002_3, x268003_3, t311, bt322.1))) = some (r1, r2, r3, r4, r5, r6, r7, r8, r9, r10, r11) := H
     have A61 := Aside0.mk A610
     clear A610
     replace H := Option.bind_eq_some_iff.mp H
     obtain ⟨⟨t322, t325, t326⟩, A620, H⟩ := H
     replace H : (some (t314, t315, t316, t317, t318, x268000_3, x268001_3, x268002_3, x268003_3, t311, t322)) = some (r1, r2, r3, r4, r5, r6, r7, r8, r9, r10, r11) := H
     have A62 := Aside0.mk A620
     clear A620
     simp only [Option.some.injEq, Prod.mk.injEq] at H
     obtain ⟨rfl, rfl, rfl, rfl, rfl, rfl, rfl, rfl, rfl, rfl, rfl⟩ := H
     try go_wp2_with (first | ((with_reducible refine gate_callee (f := 41) rfl ?_); refine goesL_ (some 28) rfl rfl Try.func41 (by kernel_rfl) rfl #[.pointer (some ⟨g266, 0, none⟩), .int .i64 25] rfl (by (try simp only [List.map_toArray, List.map_cons, List.map_nil]); first | done | rfl | (simp only [List.length_drop, List.length_take]; rfl)) ?_; (with_reducible refine (spec_l1Below.calls g266 t263 x267001_3 x267002_3 25 t286 t287 t288 w _ ?side1 ?side2 A29.out).mono ?_); (case side1 => repeat (first | (with_reducible first | exact HI266.out | apply IsS75.alloc | apply IsS75.drewN | apply IsS75.drew | apply IsS75.set_1 | apply IsS75.set_2 | refine IsS75.far ?_ NB266_261.out _ | refine IsS75.far ?_ NB266_262.out _ | refine IsS75.far ?_ NB266_267.out _) | exact HI266.out)); (case side2 => repeat (first | (with_reducible first | exact HB.out | apply below_alloc | apply pw_below_drewN | apply below_drew1 | refine below_set ?_ (IsS75.ge HI266.out) | refine below_set ?_ GE261.out | refine below_set ?_ GE262.out | refine below_set ?_ GE267.out) | exact HB.out)); rintro e w63 ⟨rfl, hi, hb, hk⟩; refine ⟨_, rfl, ?_⟩; have n0_ := Aside0.mk (KeepBut.blk hk (g' := gb261) (o := .cells #[.int .i64 0, .int .i64 0, .int .i64 0, .int .i64 0, .int .i64 0] 43 (0, 0)) (by (with_reducible repeat (first | refine blk_drewN ?_ _ | refine blk_drew ?_ | refine blk_alloc ?_ _)); exact BK261.out) NB261_266.out (by simp)); have n1_ := Aside0.mk (KeepBut.blk hk (g' := gb262) (o := .cells #[.int .i64 0, .int .i64 0, .int .i64 0, .int .i64 0, .int .i64 0] 40 (0, 0)) (by (with_reducible repeat (first | refine blk_drewN ?_ _ | refine blk_drew ?_ | refine blk_alloc ?_ _)); exact BK262.out) NB262_266.out (by simp)); have n2_ := Aside0.mk (KeepBut.blk hk (g' := gb267) (o := .cells #[.int .i64 x268000_3, .int .i64 x268001_3, .int .i64 x268002_3, .int .i64 x268003_3, .int .i64 x268004_3] 40 (0, 0)) (by (with_reducible repeat (first | refine blk_drewN ?_ _ | refine blk_drew ?_ | refine blk_alloc ?_ _)); exact BK267.out) NB267_266.out (by simp)); have n3_ := Aside0.mk (hb); have n4_ := Aside0.mk (hi); clear BK261; clear BK262; clear BK267; clear HB; clear HI266; have BK261 := n0_; have BK262 := n1_; have BK267 := n2_; have HB := n3_; have HI266 := n4_; clear n0_ n1_ n2_ n3_ n4_; (try clear hb); (try clear hb2); (try clear hk); (try clear hi)) | ((with_reducible refine gate_dst (N := 38) rfl ?_); refine Kd.R_lit (Kd.int .i64) _ 3 ?hg (N := 38) ?hd (xs := ([(-1), 16384] : List Int)) (inner := [.int .i64 (-1), .int .i64 16384]) (ok := fun _ => True) (okp := fun _ => True) ?hr ?hp (fun _ hk => hk) trivial (Below.refl _ _) (Nat.le_refl _) (by simp) ?_; (case hd => rfl); (case hg => rfl); (case hr => first | (go_simp; done) | (go_simp; rfl)); (case hp => exact (Reps.one (show Kd.M (Kd.int .i64) _ _ _ (-1) [.int .i64 (-1)] from rfl) (Reps.one (show Kd.M (Kd.int .i64) _ _ _ 16384 [.int .i64 16384] from rfl) (Reps.none _ _)))); intro v309 w64 ho65 hb hg_ hnew_; clear hg_ hnew_; (first | rw [← Ny308.out] at ho65 | (simp only [Int.reduceToNat] at ho65; rw [← Ny308.out] at ho65)); have n0_ := Aside0.mk (Kd.R_lower ho65 (below_size (by repeat (first | (with_reducible first | exact HB.out | apply below_alloc | apply pw_below_drewN | apply below_drew1 | refine below_set ?_ (IsS75.ge HI266.out) | refine below_set ?_ GE261.out | refine below_set ?_ GE262.out | refine below_set ?_ GE267.out) | exact HB.out)))); have n1_ := Aside0.mk (blk_below (g := gb261) (o := .cells #[.int .i64 0, .int .i64 0, .int .i64 0, .int .i64 0, .int .i64 0] 43 (0, 0)) (by (with_reducible repeat (first | refine blk_drewN ?_ _ | refine blk_drew ?_ | refine blk_alloc ?_ _)); exact BK261.out) hb); have n2_ := Aside0.mk (blk_below (g := gb262) (o := .cells #[.int .i64 0, .int .i64 0, .int .i64 0, .int .i64 0, .int .i64 0] 40 (0, 0)) (by (with_reducible repeat (first | refine blk_drewN ?_ _ | refine blk_drew ?_ | refine blk_alloc ?_ _)); exact BK262.out) hb); have n3_ := Aside0.mk (blk_below (g := gb267) (o := .cells #[.int .i64 x268000_3, .int .i64 x268001_3, .int .i64 x268002_3, .int .i64 x268003_3, .int .i64 x268004_3] 40 (0, 0)) (by (with_reducible repeat (first | refine blk_drewN ?_ _ | refine blk_drew ?_ | refine blk_alloc ?_ _)); exact BK267.out) hb); have n4_ := Aside0.mk (IsS75.below (by repeat (first | (with_reducible first | exact HI266.out | apply IsS75.alloc | apply IsS75.drewN | apply IsS75.drew | apply IsS75.set_1 | apply IsS75.set_2 | refine IsS75.far ?_ NB266_261.out _ | refine IsS75.far ?_ NB266_262.out _ | refine IsS75.far ?_ NB266_267.out _) | exact HI266.out)) hb); have n5_ := Aside0.mk (below_step (by repeat (first | (with_reducible first | exact HB.out | apply below_alloc | apply pw_below_drewN | apply below_drew1 | refine below_set ?_ (IsS75.ge HI266.out) | refine below_set ?_ GE261.out | refine below_set ?_ GE262.out | refine below_set ?_ GE267.out) | exact HB.out)) hb); clear BK261; clear BK262; clear BK267; clear HI266; clear HB; have HO310 := n0_; have BK261 := n1_; have BK262 := n2_; have BK267 := n3_; have HI266 := n4_; have HB := n5_; clear n0_ n1_ n2_ n3_ n4_ n5_; clear hb ho65; obtain ⟨Ao66, co66, eo66⟩ := Kd.R_slice HO310.out; subst eo66) | ((with_reducible refine gate_callee (f := 42) rfl ?_); refine goesL_ (some 39) rfl rfl Try.func42 (by kernel_rfl) rfl #[.pointer (some ⟨g266, 0, none⟩), .slice Ao66 y308.length co66] rfl (by (try simp only [List.map_toArray, List.map_cons, List.map_nil]); first | done | rfl | (simp only [List.length_drop, List.length_take]; rfl)) ?_; (with_reducible refine (spec_l1PickInt.calls g266 t263 t287 t288 _ _ y308 t311 t312 t313 w _ ?side1 ?side2 ?side3 ?side4 ?side5 A59.out).mono ?_); (case side1 => repeat (first | (with_reducible first | exact HI266.out | apply IsS75.alloc | apply IsS75.drewN | apply IsS75.drew | apply IsS75.set_1 | apply IsS75.set_2 | refine IsS75.far ?_ NB266_261.out _ | refine IsS75.far ?_ NB266_262.out _ | refine IsS75.far ?_ NB266_267.out _) | exact HI266.out)); (case side2 => repeat (first | (with_reducible first | exact HB.out | apply below_alloc | apply pw_below_drewN | apply below_drew1 | refine below_set ?_ (IsS75.ge HI266.out) | refine below_set ?_ GE261.out | refine below_set ?_ GE262.out | refine below_set ?_ GE267.out) | exact HB.out)); (case side3 => repeat (first | exact (Kd.R_reads' HO310.out).2.2 | (with_reducible refine Kd.C_alloc ?_ _) | (with_reducible refine Kd.C_drewN ?_ _) | (with_reducible refine Kd.C_drew ?_))); (case side4 => exact (Kd.R_reads' HO310.out).2.1); (case side5 => exact far_slice (IsS75.own_ne HI266.out HO310.out (by decide))); rintro e w67 ⟨rfl, hi, hb, hk⟩; refine ⟨_, rfl, ?_⟩; have n0_ := Aside0.mk (KeepBut.blk hk (g' := gb261) (o := .cells #[.int .i64 0, .int .i64 0, .int .i64 0, .int .i64 0, .int .i64 0] 43 (0, 0)) (by (with_reducible repeat (first | refine blk_drewN ?_ _ | refine blk_drew ?_ | refine blk_alloc ?_ _)); exact BK261.out) NB261_266.out (by simp)); have n1_ := Aside0.mk (KeepBut.blk hk (g' := gb262) (o := .cells #[.int .i64 0, .int .i64 0, .int .i64 0, .int .i64 0, .int .i64 0] 40 (0, 0)) (by (with_reducible repeat (first | refine blk_drewN ?_ _ | refine blk_drew ?_ | refine blk_alloc ?_ _)); exact BK262.out) NB262_266.out (by simp)); have n2_ := Aside0.mk (KeepBut.blk hk (g' := gb267) (o := .cells #[.int .i64 x268000_3, .int .i64 x268001_3, .int .i64 x268002_3, .int .i64 x268003_3, .int .i64 x268004_3] 40 (0, 0)) (by (with_reducible repeat (first | refine blk_drewN ?_ _ | refine blk_drew ?_ | refine blk_alloc ?_ _)); exact BK267.out) NB267_266.out (by simp)); have n3_ := Aside0.mk (Kd.R_mono (Kd.R_keep (IsS75.apart (show IsS75 w _ g266 t263 t287 t288 from by repeat (first | (with_reducible first | exact HI266.out | apply IsS75.alloc | apply IsS75.drewN | apply IsS75.drew | apply IsS75.set_1 | apply IsS75.set_2 | refine IsS75.far ?_ NB266_261.out _ | refine IsS75.far ?_ NB266_262.out _ | refine IsS75.far ?_ NB266_267.out _) | exact HI266.out)) (by (with_reducible repeat (first | apply Kd.R_alloc | apply Kd.R_drewN | apply Kd.R_drew)); exact HO310.out) (by decide)) hk (fun _ h => h.2)) (fun _ h => h.1)); have n4_ := Aside0.mk (hb); have n5_ := Aside0.mk (hi); clear BK261; clear BK262; clear BK267; clear HO310; clear HB; clear HI266; have BK261 := n0_; have BK262 := n1_; have BK267 := n2_; have HO310 := n3_; have HB := n4_; have HI266 := n5_; clear n0_ n1_ n2_ n3_ n4_ n5_; (try clear hb); (try clear hb2); (try clear hk); (try clear hi); have hnb68 := NB267_261.out; have hnc68 := NB261_267.out; have hnb69 := NB267_262.out; have hnc69 := NB262_267.out; have hnb70 := NB267_266.out; have hnc70 := NB266_267.out; have hcz71_0 : w67.cell? ⟨gb267, 0, none⟩ = some (.int .i64 x268000_3) := (blk_cell BK267.out 0).trans rfl; have hcz71_1 : w67.cell? ⟨gb267, 1, none⟩ = some (.int .i64 x268001_3) := (blk_cell BK267.out 1).trans rfl; have hcz71_2 : w67.cell? ⟨gb267, 2, none⟩ = some (.int .i64 x268002_3) := (blk_cell BK267.out 2).trans rfl; have hcz71_3 : w67.cell? ⟨gb267, 3, none⟩ = some (.int .i64 x268003_3) := (blk_cell BK267.out 3).trans rfl; have hcz71_4 : w67.cell? ⟨gb267, 4, none⟩ = some (.int .i64 x268004_3) := (blk_cell BK267.out 4).trans rfl; have hfz71_0 := blk_frozen BK267.out 0; have hfz71_1 := blk_frozen BK267.out 1; have hfz71_2 := blk_frozen BK267.out 2; have hfz71_3 := blk_frozen BK267.out 3; have hfz71_4 := blk_frozen BK267.out 4))
     have n0_ : Aside0 (Kd.R (Kd.int .i64) 3 (w67.setCell ⟨gb267, 4, none⟩ (.int .i64 t311)) w.heap.size (fun _ => True) (.slice Ao66 y308.length co66) y308) := ⟨by (with_reducible repeat (first | apply Kd.R_alloc | apply Kd.R_drewN | apply Kd.R_drew)); exact Kd.R_mono (Kd.R_far (p := ⟨gb267, 4, none⟩) (Kd.R_types HO310.out BK267.out (by decide)) (fun _ hk => hk.2) (.int .i64 t311)) (fun _ hk => trivial)⟩
     have n1_ : Aside0 ((w67.setCell ⟨gb267, 4, none⟩ (.int .i64 t311)).heap[gb261]? = some (.cells #[.int .i64 0, .int .i64 0, .int .i64 0, .int .i64 0, .int .i64 0] 43 (0, 0))) := ⟨by (with_reducible repeat (first | refine blk_drewN ?_ _ | refine blk_drew ?_ | refine blk_alloc ?_ _)); refine blk_far ?_ NB261_267.out _; (with_reducible repeat (first | refine blk_drewN ?_ _ | refine blk_drew ?_ | refine blk_alloc ?_ _)); exact BK261.out⟩
     have n2_ : Aside0 ((w67.setCell ⟨gb267, 4, none⟩ (.int .i64 t311)).heap[gb262]? = some (.cells #[.int .i64 0, .int .i64 0, .int .i64 0, .int .i64 0, .int .i64 0] 40 (0, 0))) := ⟨by (with_reducible repeat (first | refine blk_drewN ?_ _ | refine blk_drew ?_ | refine blk_alloc ?_ _)); refine blk_far ?_ NB262_267.out _; (with_reducible repeat (first | refine blk_drewN ?_ _ | refine blk_drew ?_ | refine blk_alloc ?_ _)); exact BK262.out⟩
     have n3_ : Aside0 ((w67.setCell ⟨gb267, 4, none⟩ (.int .i64 t311)).heap[gb267]? = some (.cells #[.int .i64 x268000_3, .int .i64 x268001_3, .int .i64 x268002_3, .int .i64 x268003_3, .int .i64 t311] 40 (0, 0))) := ⟨by (with_reducible repeat (first | refine blk_drewN ?_ _ | refine blk_drew ?_ | refine blk_alloc ?_ _)); refine blk_put (cs := #[.int .i64 x268000_3, .int .i64 x268001_3, .int .i64 x268002_3, .int .i64 x268003_3, .int .i64 x268004_3]) ?_ 4 _ rfl; (with_reducible repeat (first | refine blk_drewN ?_ _ | refine blk_drew ?_ | refine blk_alloc ?_ _)); exact BK267.out⟩
     have n4_ : Aside0 (IsS75 w (w67.setCell ⟨gb267, 4, none⟩ (.int .i64 t311)) g266 t263 t312 t313) := ⟨by repeat (first | (with_reducible first | exact HI266.out | apply IsS75.alloc | apply IsS75.drewN | apply IsS75.drew | apply IsS75.set_1 | apply IsS75.set_2 | refine IsS75.far ?_ NB266_261.out _ | refine IsS75.far ?_ NB266_262.out _ | refine IsS75.far ?_ NB266_267.out _) | exact HI266.out)⟩
     have n5_ : Aside0 (Below w.heap.size w (w67.setCell ⟨gb267, 4, none⟩ (.int .i64 t311))) := ⟨by repeat (first | (with_reducible first | exact HB.out | apply below_alloc | apply pw_below_drewN | apply below_drew1 | refine below_set ?_ (IsS75.ge HI266.out) | refine below_set ?_ GE261.out | refine below_set ?_ GE262.out | refine below_set ?_ GE267.out) | exact HB.out)⟩
     (try clear HO310)
     (try clear BK261)
     (try clear BK262)
     (try clear BK267)
     (try clear HI266)
     (try clear HB)
     generalize (w67.setCell ⟨gb267, 4, none⟩ (.int .i64 t311)) = w72 at n0_ n1_ n2_ n3_ n4_ n5_ ⊢
     have HO310 := n0_
     have BK261 := n1_
     have BK262 := n2_
     have BK267 := n3_
     have HI266 := n4_
     have HB := n5_
     clear n0_ n1_ n2_ n3_ n4_ n5_
     have n0_ := Aside0.mk (Kd.R_drew HO310.out)
     have n1_ := Aside0.mk (blk_drew BK261.out)
     have n2_ := Aside0.mk (blk_drew BK262.out)
     have n3_ := Aside0.mk (blk_drew BK267.out)
     have n4_ := Aside0.mk (IsS75.drew HI266.out)
     have n5_ := Aside0.mk (below_drew1 HB.out)
     clear HO310
     clear BK261
     clear BK262
     clear BK267
     clear HI266
     clear HB
     have HO310 := n0_
     have BK261 := n1_
     have BK262 := n2_
     have BK267 := n3_
     have HI266 := n4_
     have HB := n5_
     clear n0_ n1_ n2_ n3_ n4_ n5_
     refine start_ (n := 10) (S := fun w' => w'.cell? ⟨gb267, 0, none⟩ = some (.int .i64 x268000_3) ∧ w'.cell? ⟨gb267, 1, none⟩ = some (.int .i64 x268001_3) ∧ w'.cell? ⟨gb267, 2, none⟩ = some (.int .i64 x268002_3) ∧ w'.cell? ⟨gb267, 3, none⟩ = some (.int .i64 x268003_3) ∧ w'.cell? ⟨gb267, 4, none⟩ = some (.int .i64 t311)) (ds := []) #[false, false, false, false, false, false, false, false, false, false] (by kernel_rfl) rfl rfl ⟨(blk_cell BK267.out 0).trans rfl, (blk_cell BK267.out 1).trans rfl, (blk_cell BK267.out 2).trans rfl, (blk_cell BK267.out 3).trans rfl, (blk_cell BK267.out 4).trans rfl⟩ (fun hHeld => ?_); refine with_tabW spec_DrawIir.tab10 spec_DrawIir.bits10 (fun HT_ HW_ => ?_)
     generalize w72.drew = w73 at HO310 BK261 BK262 BK267 HI266 HB hHeld ⊢
     refine pure_ (i := 0) (N := some 41) (v := ?_) (a' := ?_) #[true, false, false, false, false, false, false, false, false, false] rfl rfl (any_of HT_.out (by kernel_rfl)) (fun _ _ _ h => h) (Or.inl ⟨by rfl, ?_⟩) ?_ ?_
     rotate_left
     ·intro w'
      go_simp
      with_reducible rfl
     rotate_left
     ·simp only [Act.put, List.setIfInBounds_toArray, List.set_cons_zero, List.set_cons_succ, i64_w, i32_w]
      rfl
     refine pure_ (i := 3) (N := some 44) (v := ?_) (a' := ?_) #[true, false, false, true, false, false, false, false, false, false] rfl rfl (any_of HT_.out (by kernel_rfl)) (fun _ _ _ h => h) (Or.inl ⟨by rfl, ?_⟩) ?_ ?_
     rotate_left
     ·intro w'
      go_simp
      with_reducible rfl
     rotate_left
     ·simp only [Act.put, List.setIfInBounds_toArray, List.set_cons_zero, List.set_cons_succ, i64_w, i32_w]
      rfl
     refine pure_ (i := 4) (N := some 45) (v := ?_) (a' := ?_) #[true, false, false, true, true, false, false, false, false, false] rfl rfl (any_of HT_.out (by kernel_rfl)) (fun _ _ _ h => h) (Or.inl ⟨by rfl, ?_⟩) ?_ ?_
     rotate_left
     ·intro w'
      go_simp
      with_reducible rfl
     rotate_left
     ·simp only [Act.put, List.setIfInBounds_toArray, List.set_cons_zero, List.set_cons_succ, i64_w, i32_w]
      rfl
     refine take_ (i := 2) (N := some 43) (v := ?_) (a' := ?_) #[true, false, true, true, true, false, false, false, false, false] rfl rfl (take_ofW HT_.out HW_.out (by kernel_rfl)) (fun _ _ _ h => h) (Or.inl ⟨by rfl, ?_⟩) hHeld ?_ ?_
     rotate_left
     ·rintro w' ⟨s0, s1, s2, s3, s4⟩
      go_simp
      with_reducible rfl
     rotate_left
     ·simp only [Act.put, List.setIfInBounds_toArray, List.set_cons_zero, List.set_cons_succ, i64_w, i32_w]
      rfl
     refine one_ (i := 1) (N := some 42) #[true, true, true, true, true, false, false, false, false, false] rfl rfl (one_of HT_.out (by kernel_rfl)) (by decide) (fun K hK => ?_)
     refine goes_ Try.func43 (by kernel_rfl) rfl #[.pointer (some ⟨g266, 0, none⟩)] (by rfl) rfl rfl (by (try simp only [List.map_toArray, List.map_cons, List.map_nil]); first | done | rfl | (simp only [List.length_drop, List.length_take]; rfl)) ?_
     with_reducible refine (spec_l10DrawSection.calls kj3 g266 t263 t312 t313 t314 t315 t316 t317 t318 t319 t320 w _ ?side1 ?side2 A60.out).mono ?_
     (case side1 => repeat (first | (with_reducible first | exact HI266.out | apply IsS75.alloc | apply IsS75.drewN | apply IsS75.drew | apply IsS75.set_1 | apply IsS75.set_2 | refine IsS75.far ?_ NB266_261.out _ | refine IsS75.far ?_ NB266_262.out _ | refine IsS75.far ?_ NB266_267.out _) | exact HI266.out))
     (case side2 => repeat (first | (with_reducible first | exact HB.out | apply below_alloc | apply pw_below_drewN | apply below_drew1 | refine below_set ?_ (IsS75.ge HI266.out) | refine below_set ?_ GE261.out | refine below_set ?_ GE262.out | refine below_set ?_ GE267.out) | exact HB.out))
     rintro e w74 ⟨rfl, hi, hb, hk⟩
     refine ⟨_, rfl, ?_⟩
     have n0_ := Aside0.mk (KeepBut.blk hk (g' := gb261) (o := .cells #[.int .i64 0, .int .i64 0, .int .i64 0, .int .i64 0, .int .i64 0] 43 (0, 0)) (by (with_reducible repeat (first | refine blk_drewN ?_ _ | refine blk_drew ?_ | refine blk_alloc ?_ _)); exact BK261.out) NB261_266.out (by simp))
     have n1_ := Aside0.mk (KeepBut.blk hk (g' := gb262) (o := .cells #[.int .i64 0, .int .i64 0, .int .i64 0, .int .i64 0, .int .i64 0] 40 (0, 0)) (by (with_reducible repeat (first | refine blk_drewN ?_ _ | refine blk_drew ?_ | refine blk_alloc ?_ _)); exact BK262.out) NB262_266.out (by simp))
     have n2_ := Aside0.mk (KeepBut.blk hk (g' := gb267) (o := .cells #[.int .i64 x268000_3, .int .i64 x268001_3, .int .i64 x268002_3, .int .i64 x268003_3, .int .i64 t311] 40 (0, 0)) (by (with_reducible repeat (first | refine blk_drewN ?_ _ | refine blk_drew ?_ | refine blk_alloc ?_ _)); exact BK267.out) NB267_266.out (by simp))
     have n3_ := Aside0.mk (Kd.R_mono (Kd.R_keep (IsS75.apart (show IsS75 w _ g266 t263 t312 t313 from by repeat (first | (with_reducible first | exact HI266.out | apply IsS75.alloc | apply IsS75.drewN | apply IsS75.drew | apply IsS75.set_1 | apply IsS75.set_2 | refine IsS75.far ?_ NB266_261.out _ | refine IsS75.far ?_ NB266_262.out _ | refine IsS75.far ?_ NB266_267.out _) | exact HI266.out)) (by (with_reducible repeat (first | apply Kd.R_alloc | apply Kd.R_drewN | apply Kd.R_drew)); exact HO310.out) (by decide)) hk (fun _ h => h.2)) (fun _ h => h.1))
     have n4_ := Aside0.mk (hb)
     have n5_ := Aside0.mk (hi)
     clear BK261
     clear BK262
     clear BK267
     clear HO310
     clear HB
     clear HI266
     have BK261 := n0_
     have BK262 := n1_
     have BK267 := n2_
     have HO310 := n3_
     have HB := n4_
     have HI266 := n5_
     clear n0_ n1_ n2_ n3_ n4_ n5_
     (try clear hb)
     (try clear hb2)
     (try clear hk)
     (try clear hi)
     refine hK.out _ _ ⟨(blk_cell BK267.out 0).trans rfl, (blk_cell BK267.out 1).trans rfl, (blk_cell BK267.out 2).trans rfl, (blk_cell BK267.out 3).trans rfl, (blk_cell BK267.out 4).trans rfl⟩ (fun hHeld => ?_)
     clear hK K
     refine norm_ (a' := ?_) ?_ ?_
     rotate_left
     ·show Act.put _ (some 42) _ = _
      simp only [Act.put, List.setIfInBounds_toArray, List.set_cons_zero, List.set_cons_succ, i64_w, i32_w]
      rfl
     refine one_ (i := 5) (N := some 46) #[true, true, true, true, true, true, false, false, false, false] rfl rfl (one_of HT_.out (by kernel_rfl)) (by decide) (fun K hK => ?_)
     refine goes_ Try.func45 (by kernel_rfl) rfl #[.slice A0 l0.length c0, .int .i64 30] (by rfl) rfl rfl (by (try simp only [List.map_toArray, List.map_cons, List.map_nil]); first | done | rfl | (simp only [List.length_drop, List.length_take]; rfl)) ?_
     with_reducible refine (spec_l1Size.calls _ _ l0 30 t321 _ ?side1 ?side2 A61.out).mono ?_
     (case side1 => repeat (first | exact (Kd.C_below HR0.out HB.out) | (with_reducible refine Kd.C_alloc ?_ _) | (with_reducible refine Kd.C_drewN ?_ _) | (with_reducible refine Kd.C_drew ?_)))
     (case side2 => exact HC0.out)
     rintro e w' ⟨rfl, ⟨nd, rfl⟩⟩
     refine ⟨_, rfl, ?_⟩
     refine hK.out _ _ ⟨(blk_cell BK267.out 0).trans rfl, (blk_cell BK267.out 1).trans rfl, (blk_cell BK267.out 2).trans rfl, (blk_cell BK267.out 3).trans rfl, (blk_cell BK267.out 4).trans rfl⟩ (fun hHeld => ?_)
     clear hK K
     refine norm_ (a' := ?_) ?_ ?_
     rotate_left
     ·show Act.put _ (some 46) _ = _
      simp only [Act.put, List.setIfInBounds_toArray, List.set_cons_zero, List.set_cons_succ, i64_w, i32_w]
      rfl
     refine one_ (i := 6) (N := some 47) #[true, true, true, true, true, true, true, false, false, false] rfl rfl (one_of HT_.out (by kernel_rfl)) (by decide) (fun K hK => ?_)
     refine goes_ Try.func44 (by kernel_rfl) rfl #[.pointer (some ⟨g266, 0, none⟩), .int .i64 t321] (by rfl) rfl rfl (by (try simp only [List.map_toArray, List.map_cons, List.map_nil]); first | done | rfl | (simp only [List.length_drop, List.length_take]; rfl)) ?_
     with_reducible refine (spec_l7DrawSmall.calls kj3 g266 t263 t319 t320 t321 t322 t325 t326 w _ ?side1 ?side2 A62.out).mono ?_
     (case side1 => repeat (first | (with_reducible first | exact HI266.out | apply IsS75.alloc | apply IsS75.drewN | apply IsS75.drew | apply IsS75.set_1 | apply IsS75.set_2 | refine IsS75.far ?_ NB266_261.out _ | refine IsS75.far ?_ NB266_262.out _ | refine IsS75.far ?_ NB266_267.out _) | exact HI266.out))
     (case side2 => repeat (first | (with_reducible first | exact HB.out | apply below_alloc | apply pw_below_drewN | apply below_drew1 | refine below_set ?_ (IsS75.ge HI266.out) | refine below_set ?_ GE261.out | refine below_set ?_ GE262.out | refine below_set ?_ GE267.out) | exact HB.out))
     rintro e w75 ⟨v323, rfl, ho0, hi, hb, hk⟩
     refine ⟨_, rfl, ?_⟩
     have n0_ := Aside0.mk (KeepBut.blk hk (g' := gb261) (o := .cells #[.int .i64 0, .int .i64 0, .int .i64 0, .int .i64 0, .int .i64 0] 43 (0, 0)) (by (with_reducible repeat (first | refine blk_drewN ?_ _ | refine blk_drew ?_ | refine blk_alloc ?_ _)); exact BK261.out) NB261_266.out (by simp))
     have n1_ := Aside0.mk (KeepBut.blk hk (g' := gb262) (o := .cells #[.int .i64 0, .int .i64 0, .int .i64 0, .int .i64 0, .int .i64 0] 40 (0, 0)) (by (with_reducible repeat (first | refine blk_drewN ?_ _ | refine blk_drew ?_ | refine blk_alloc ?_ _)); exact BK262.out) NB262_266.out (by simp))
     have n2_ := Aside0.mk (KeepBut.blk hk (g' := gb267) (o := .cells #[.int .i64 x268000_3, .int .i64 x268001_3, .int .i64 x268002_3, .int .i64 x268003_3, .int .i64 t311] 40 (0, 0)) (by (with_reducible repeat (first | refine blk_drewN ?_ _ | refine blk_drew ?_ | refine blk_alloc ?_ _)); exact BK267.out) NB267_266.out (by simp))
     have n3_ := Aside0.mk (Kd.R_mono (Kd.R_told (Kd.R_oldK (IsS75.apart (show IsS75 w _ g266 t263 t319 t320 from by repeat (first | (with_reducible first | exact HI266.out | apply IsS75.alloc | apply IsS75.drewN | apply IsS75.drew | apply IsS75.set_1 | apply IsS75.set_2 | refine IsS75.far ?_ NB266_261.out _ | refine IsS75.far ?_ NB266_262.out _ | refine IsS75.far ?_ NB266_267.out _) | exact HI266.out)) (by (with_reducible repeat (first | apply Kd.R_alloc | apply Kd.R_drewN | apply Kd.R_drew)); exact HO310.out) (by decide)) hk) (Kd.R_base ho0)) (fun _ h_ => h_.1))
     have n4_ := Aside0.mk (Kd.R_lower (Kd.R_new' ho0 (Kd.R_lt (by (with_reducible repeat (first | apply Kd.R_alloc | apply Kd.R_drewN | apply Kd.R_drew)); exact HO310.out))) (below_size (by repeat (first | (with_reducible first | exact HB.out | apply below_alloc | apply pw_below_drewN | apply below_drew1 | refine below_set ?_ (IsS75.ge HI266.out) | refine below_set ?_ GE261.out | refine below_set ?_ GE262.out | refine below_set ?_ GE267.out) | exact HB.out))))
     have n5_ := Aside0.mk (hb)
     have n6_ := Aside0.mk (hi)
     clear BK261
     clear BK262
     clear BK267
     clear HO310
     clear HB
     clear HI266
     have BK261 := n0_
     have BK262 := n1_
     have BK267 := n2_
     have HO310 := n3_
     have HO324 := n4_
     have HB := n5_
     have HI266 := n6_
     clear n0_ n1_ n2_ n3_ n4_ n5_ n6_
     (try clear hb)
     (try clear hb2)
     (try clear hk)
     (try clear hi)
     (try clear ho0)
     refine hK.out _ _ ⟨(blk_cell BK267.out 0).trans rfl, (blk_cell BK267.out 1).trans rfl, (blk_cell BK267.out 2).trans rfl, (blk_cell BK267.out 3).trans rfl, (blk_cell BK267.out 4).trans rfl⟩ (fun hHeld => ?_)
     clear hK K
     refine norm_ (a' := ?_) ?_ ?_
     rotate_left
     ·show Act.put _ (some 47) _ = _
      simp only [Act.put, List.setIfInBounds_toArray, List.set_cons_zero, List.set_cons_succ, i64_w, i32_w]
      rfl
     refine one_ (i := 7) (N := none) #[true, true, true, true, true, true, true, true, false, false] rfl rfl (one_of HT_.out (by kernel_rfl)) (by decide) (fun K hK => ?_)
     have hs76 : w75.cell? ⟨gb261, 0, none⟩ = some (.int .i64 0) := (blk_cell BK261.out 0).trans rfl
     have hfs76 := blk_frozen BK261.out 0
     have hns76_1 := NB262_261.out
     have hns76_2 := NB267_261.out
     have hms76_1 := NB261_262.out
     have hms76_2 := NB261_267.out
     have hs77 : w75.cell? ⟨gb261, 1, none⟩ = some (.int .i64 0) := (blk_cell BK261.out 1).trans rfl
     have hfs77 := blk_frozen BK261.out 1
     have hns77_1 := NB262_261.out
     have hns77_2 := NB267_261.out
     have hms77_1 := NB261_262.out
     have hms77_2 := NB261_267.out
     have hs78 : w75.cell? ⟨gb261, 2, none⟩ = some (.int .i64 0) := (blk_cell BK261.out 2).trans rfl
     have hfs78 := blk_frozen BK261.out 2
     have hns78_1 := NB262_261.out
     have hns78_2 := NB267_261.out
     have hms78_1 := NB261_262.out
     have hms78_2 := NB261_267.out
     have hs79 : w75.cell? ⟨gb261, 3, none⟩ = some (.int .i64 0) := (blk_cell BK261.out 3).trans rfl
     have hfs79 := blk_frozen BK261.out 3
     have hns79_1 := NB262_261.out
     have hns79_2 := NB267_261.out
     have hms79_1 := NB261_262.out
     have hms79_2 := NB261_267.out
     have hs80 : w75.cell? ⟨gb261, 4, none⟩ = some (.int .i64 0) := (blk_cell BK261.out 4).trans rfl
     have hfs80 := blk_frozen BK261.out 4
     have hns80_1 := NB262_261.out
     have hns80_2 := NB267_261.out
     have hms80_1 := NB261_262.out
     have hms80_2 := NB261_267.out
     refine skip_ (w1 := ?_) (by rfl) rfl ?_ ?_
     rotate_left
     ·go_simp
      rfl
     refine hK.out _ _ ⟨((cell_far (p := ⟨gb261, _, none⟩) NB267_261.out _).trans (((cell_far (p := ⟨gb261, _, none⟩) NB267_261.out _).trans (((cell_far (p := ⟨gb261, _, none⟩) NB267_261.out _).trans (((cell_far (p := ⟨gb261, _, none⟩) NB267_261.out _).trans (((cell_far (p := ⟨gb261, _, none⟩) NB267_261.out _).trans (hHeld.1)))))))))), ((cell_far (p := ⟨gb261, _, none⟩) NB267_261.out _).trans (((cell_far (p := ⟨gb261, _, none⟩) NB267_261.out _).trans (((cell_far (p := ⟨gb261, _, none⟩) NB267_261.out _).trans (((cell_far (p := ⟨gb261, _, none⟩) NB267_261.out _).trans (((cell_far (p := ⟨gb261, _, none⟩) NB267_261.out _).trans (hHeld.2.1)))))))))), ((cell_far (p := ⟨gb261, _, none⟩) NB267_261.out _).trans (((cell_far (p := ⟨gb261, _, none⟩) NB267_261.out _).trans (((cell_far (p := ⟨gb261, _, none⟩) NB267_261.out _).trans (((cell_far (p := ⟨gb261, _, none⟩) NB267_261.out _).trans (((cell_far (p := ⟨gb261, _, none⟩) NB267_261.out _).trans (hHeld.2.2.1)))))))))), ((cell_far (p := ⟨gb261, _, none⟩) NB267_261.out _).trans (((cell_far (p := ⟨gb261, _, none⟩) NB267_261.out _).trans (((cell_far (p := ⟨gb261, _, none⟩) NB267_261.out _).trans (((cell_far (p := ⟨gb261, _, none⟩) NB267_261.out _).trans (((cell_far (p := ⟨gb261, _, none⟩) NB267_261.out _).trans (hHeld.2.2.2.1)))))))))), ((cell_far (p := ⟨gb261, _, none⟩) NB267_261.out _).trans (((cell_far (p := ⟨gb261, _, none⟩) NB267_261.out _).trans (((cell_far (p := ⟨gb261, _, none⟩) NB267_261.out _).trans (((cell_far (p := ⟨gb261, _, none⟩) NB267_261.out _).trans (((cell_far (p := ⟨gb261, _, none⟩) NB267_261.out _).trans (hHeld.2.2.2.2))))))))))⟩ (fun hHeld => ?_)
     clear hK K
     refine one_ (i := 8) (N := none) #[true, true, true, true, true, true, true, true, true, false] rfl rfl (one_of HT_.out (by kernel_rfl)) (by decide) (fun K hK => ?_)
     have hs81 : w75.cell? ⟨gb262, 0, none⟩ = some (.int .i64 0) := (blk_cell BK262.out 0).trans rfl
     have hfs81 := blk_frozen BK262.out 0
     have hns81_0 := NB261_262.out
     have hns81_2 := NB267_262.out
     have hms81_0 := NB262_261.out
     have hms81_2 := NB262_267.out
     have hs82 : w75.cell? ⟨gb262, 1, none⟩ = some (.int .i64 0) := (blk_cell BK262.out 1).trans rfl
     have hfs82 := blk_frozen BK262.out 1
     have hns82_0 := NB261_262.out
     have hns82_2 := NB267_262.out
     have hms82_0 := NB262_261.out
     have hms82_2 := NB262_267.out
     have hs83 : w75.cell? ⟨gb262, 2, none⟩ = some (.int .i64 0) := (blk_cell BK262.out 2).trans rfl
     have hfs83 := blk_frozen BK262.out 2
     have hns83_0 := NB261_262.out
     have hns83_2 := NB267_262.out
     have hms83_0 := NB262_261.out
     have hms83_2 := NB262_267.out
     have hs84 : w75.cell? ⟨gb262, 3, none⟩ = some (.int .i64 0) := (blk_cell BK262.out 3).trans rfl
     have hfs84 := blk_frozen BK262.out 3
     have hns84_0 := NB261_262.out
     have hns84_2 := NB267_262.out
     have hms84_0 := NB262_261.out
     have hms84_2 := NB262_267.out
     have hs85 : w75.cell? ⟨gb262, 4, none⟩ = some (.int .i64 0) := (blk_cell BK262.out 4).trans rfl
     have hfs85 := blk_frozen BK262.out 4
     have hns85_0 := NB261_262.out
     have hns85_2 := NB267_262.out
     have hms85_0 := NB262_261.out
     have hms85_2 := NB262_267.out
     refine skip_ (w1 := ?_) (by rfl) rfl ?_ ?_
     rotate_left
     ·go_simp
      rfl
     refine hK.out _ _ ⟨((cell_far (p := ⟨gb262, _, none⟩) NB267_262.out _).trans (((cell_far (p := ⟨gb262, _, none⟩) NB267_262.out _).trans (((cell_far (p := ⟨gb262, _, none⟩) NB267_262.out _).trans (((cell_far (p := ⟨gb262, _, none⟩) NB267_262.out _).trans (((cell_far (p := ⟨gb262, _, none⟩) NB267_262.out _).trans (hHeld.1)))))))))), ((cell_far (p := ⟨gb262, _, none⟩) NB267_262.out _).trans (((cell_far (p := ⟨gb262, _, none⟩) NB267_262.out _).trans (((cell_far (p := ⟨gb262, _, none⟩) NB267_262.out _).trans (((cell_far (p := ⟨gb262, _, none⟩) NB267_262.out _).trans (((cell_far (p := ⟨gb262, _, none⟩) NB267_262.out _).trans (hHeld.2.1)))))))))), ((cell_far (p := ⟨gb262, _, none⟩) NB267_262.out _).trans (((cell_far (p := ⟨gb262, _, none⟩) NB267_262.out _).trans (((cell_far (p := ⟨gb262, _, none⟩) NB267_262.out _).trans (((cell_far (p := ⟨gb262, _, none⟩) NB267_262.out _).trans (((cell_far (p := ⟨gb262, _, none⟩) NB267_262.out _).trans (hHeld.2.2.1)))))))))), ((cell_far (p := ⟨gb262, _, none⟩) NB267_262.out _).trans (((cell_far (p := ⟨gb262, _, none⟩) NB267_262.out _).trans (((cell_far (p := ⟨gb262, _, none⟩) NB267_262.out _).trans (((cell_far (p := ⟨gb262, _, none⟩) NB267_262.out _).trans (((cell_far (p := ⟨gb262, _, none⟩) NB267_262.out _).trans (hHeld.2.2.2.1)))))))))), ((cell_far (p := ⟨gb262, _, none⟩) NB267_262.out _).trans (((cell_far (p := ⟨gb262, _, none⟩) NB267_262.out _).trans (((cell_far (p := ⟨gb262, _, none⟩) NB267_262.out _).trans (((cell_far (p := ⟨gb262, _, none⟩) NB267_262.out _).trans (((cell_far (p := ⟨gb262, _, none⟩) NB267_262.out _).trans (hHeld.2.2.2.2))))))))))⟩ (fun hHeld => ?_)
     clear hK K
     refine pure_ (i := 9) (N := some 4) (v := ?_) (a' := ?_) #[true, true, true, true, true, true, true, true, true, true] rfl rfl (any_of HT_.out (by kernel_rfl)) (fun _ _ _ h => h) (Or.inl ⟨by rfl, ?_⟩) ?_ ?_
     rotate_left
     ·intro w'
      go_simp
      with_reducible rfl
     rotate_left
     ·simp only [Act.put, List.setIfInBounds_toArray, List.set_cons_zero, List.set_cons_succ, i64_w, i32_w]
      rfl
     refine done_ (done_of HT_.out (by kernel_rfl)) ?_
     try go_wp2
     refine bodyPost_ret (results_list (rs := [.cell 2 43, .cell 3 40, .tmp 4]) rfl (by simp) (.cell gb261 43 #[.int .i64 t314, .int .i64 t315, .int .i64 t316, .int .i64 t317, .int .i64 t318] (0, 0) _ rfl (by (with_reducible repeat (first | refine blk_drewN ?_ _ | refine blk_drew ?_ | refine blk_alloc ?_ _)); refine blk_far ?_ NB261_262.out _; refine blk_far ?_ NB261_262.out _; refine blk_far ?_ NB261_262.out _; refine blk_far ?_ NB261_262.out _; refine blk_far ?_ NB261_262.out _; (with_reducible repeat (first | refine blk_drewN ?_ _ | refine blk_drew ?_ | refine blk_alloc ?_ _)); refine blk_put (cs := #[.int .i64 t314, .int .i64 t315, .int .i64 t316, .int .i64 t317, .int .i64 0]) ?_ 4 _ rfl; refine blk_put (cs := #[.int .i64 t314, .int .i64 t315, .int .i64 t316, .int .i64 0, .int .i64 0]) ?_ 3 _ rfl; refine blk_put (cs := #[.int .i64 t314, .int .i64 t315, .int .i64 0, .int .i64 0, .int .i64 0]) ?_ 2 _ rfl; refine blk_put (cs := #[.int .i64 t314, .int .i64 0, .int .i64 0, .int .i64 0, .int .i64 0]) ?_ 1 _ rfl; refine blk_put (cs := #[.int .i64 0, .int .i64 0, .int .i64 0, .int .i64 0, .int .i64 0]) ?_ 0 _ rfl; (with_reducible repeat (first | refine blk_drewN ?_ _ | refine blk_drew ?_ | refine blk_alloc ?_ _)); exact BK261.out) Try.underlying43 rfl (by kernel_rfl) (.cell gb262 40 #[.int .i64 x268000_3, .int .i64 x268001_3, .int .i64 x268002_3, .int .i64 x268003_3, .int .i64 t311] (0, 0) _ rfl (by (with_reducible repeat (first | refine blk_drewN ?_ _ | refine blk_drew ?_ | refine blk_alloc ?_ _)); refine blk_put (cs := #[.int .i64 x268000_3, .int .i64 x268001_3, .int .i64 x268002_3, .int .i64 x268003_3, .int .i64 0]) ?_ 4 _ rfl; refine blk_put (cs := #[.int .i64 x268000_3, .int .i64 x268001_3, .int .i64 x268002_3, .int .i64 0, .int .i64 0]) ?_ 3 _ rfl; refine blk_put (cs := #[.int .i64 x268000_3, .int .i64 x268001_3, .int .i64 0, .int .i64 0, .int .i64 0]) ?_ 2 _ rfl; refine blk_put (cs := #[.int .i64 x268000_3, .int .i64 0, .int .i64 0, .int .i64 0, .int .i64 0]) ?_ 1 _ rfl; refine blk_put (cs := #[.int .i64 0, .int .i64 0, .int .i64 0, .int .i64 0, .int .i64 0]) ?_ 0 _ rfl; (with_reducible repeat (first | refine blk_drewN ?_ _ | refine blk_drew ?_ | refine blk_alloc ?_ _)); refine blk_far ?_ NB262_261.out _; refine blk_far ?_ NB262_261.out _; refine blk_far ?_ NB262_261.out _; refine blk_far ?_ NB262_261.out _; refine blk_far ?_ NB262_261.out _; (with_reducible repeat (first | refine blk_drewN ?_ _ | refine blk_drew ?_ | refine blk_alloc ?_ _)); exact BK262.out) Try.underlying40 rfl (by kernel_rfl) (.tmp .nil)))) rfl ?_
     exact ⟨_, by first | rfl | (simp [errW_none, errW_some] <;> rfl) | (simp [*, errW_none, errW_some] <;> rfl), by (with_reducible repeat (first | apply Kd.R_alloc | apply Kd.R_drewN | apply Kd.R_drew)); exact Kd.R_mono (Kd.R_far (p := ⟨gb262, 4, none⟩) (Kd.R_far (p := ⟨gb262, 3, none⟩) (Kd.R_far (p := ⟨gb262, 2, none⟩) (Kd.R_far (p := ⟨gb262, 1, none⟩) (Kd.R_far (p := ⟨gb262, 0, none⟩) (Kd.R_far (p := ⟨gb261, 4, none⟩) (Kd.R_far (p := ⟨gb261, 3, none⟩) (Kd.R_far (p := ⟨gb261, 2, none⟩) (Kd.R_far (p := ⟨gb261, 1, none⟩) (Kd.R_far (p := ⟨gb261, 0, none⟩) (Kd.R_types (Kd.R_types HO324.out BK261.out (by decide)) BK262.out (by decide)) (fun _ hk => hk.1.2) (.int .i64 t314)) (fun _ hk => hk.1.2) (.int .i64 t315)) (fun _ hk => hk.1.2) (.int .i64 t316)) (fun _ hk => hk.1.2) (.int .i64 t317)) (fun _ hk => hk.1.2) (.int .i64 t318)) (fun _ hk => hk.2) (.int .i64 x268000_3)) (fun _ hk => hk.2) (.int .i64 x268001_3)) (fun _ hk => hk.2) (.int .i64 x268002_3)) (fun _ hk => hk.2) (.int .i64 x268003_3)) (fun _ hk => hk.2) (.int .i64 t311)) (fun _ hk => trivial), by repeat (first | (with_reducible first | exact HB.out | apply below_alloc | apply pw_below_drewN | apply below_drew1 | refine below_set ?_ (IsS75.ge HI266.out) | refine below_set ?_ GE261.out | refine below_set ?_ GE262.out | refine below_set ?_ GE267.out) | exact HB.out)⟩
    ·rw [if_neg c58] at H
     have c58b0 : (t286 == 1) = false := beq_eq_false_iff_ne.mpr c58
     have c58b1 : (t286 != 1) = true := bne_iff_ne.mpr c58
     replace H := Option.bind_eq_some_iff.mp H
     obtain ⟨⟨t327, t328, t329, t330, t331, t332, t333⟩, A860, H⟩ := H
     replace H : ((spec_l1Size.f l0 30).bind fun t334 => ((spec_l7DrawSmall.f kj3 t263 t332 t333 t334).bind fun bt335 => (some (t327, t328, t329, t330, t331, x268000_3, x268001_3, x268002_3, x268003_3, x268004_3, bt335.1)))) = some (r1, r2, r3, r4, r5, r6, r7, r8, r9, r10, r11) := H
     have A86 := Aside0.mk A860
     clear A860
     replace H := Option.bind_eq_some_iff.mp H
     obtain ⟨t334, A870, H⟩ := H
     replace H : ((spec_l7DrawSmall.f kj3 t263 t332 t333 t334).bind fun bt335 => (some (t327, t328, t329, t330, t331, x268000_3, x268001_3, x268002_3, x268003_3, x268004_3, bt335.1))) = some (r1, r2, r3, r4, r5, r6, r7, r8, r9, r10, r11) := H
     have A87 := Aside0.mk A870
     clear A870
     replace H := Option.bind_eq_some_iff.mp H
     obtain ⟨⟨t335, t338, t339⟩, A880, H⟩ := H
     replace H : (some (t327, t328, t329, t330, t331, x268000_3, x268001_3, x268002_3, x268003_3, x268004_3, t335)) = some (r1, r2, r3, r4, r5, r6, r7, r8, r9, r10, r11) := H
     have A88 := Aside0.mk A880
     clear A880
     simp only [Option.some.injEq, Prod.mk.injEq] at H
     obtain ⟨rfl, rfl, rfl, rfl, rfl, rfl, rfl, rfl, rfl, rfl, rfl⟩ := H
     try go_wp2_with (first | ((with_reducible refine gate_callee (f := 41) rfl ?_); refine goesL_ (some 28) rfl rfl Try.func41 (by kernel_rfl) rfl #[.pointer (some ⟨g266, 0, none⟩), .int .i64 25] rfl (by (try simp only [List.map_toArray, List.map_cons, List.map_nil]); first | done | rfl | (simp only [List.length_drop, List.length_take]; rfl)) ?_; (with_reducible refine (spec_l1Below.calls g266 t263 x267001_3 x267002_3 25 t286 t287 t288 w _ ?side1 ?side2 A29.out).mono ?_); (case side1 => repeat (first | (with_reducible first | exact HI266.out | apply IsS75.alloc | apply IsS75.drewN | apply IsS75.drew | apply IsS75.set_1 | apply IsS75.set_2 | refine IsS75.far ?_ NB266_261.out _ | refine IsS75.far ?_ NB266_262.out _ | refine IsS75.far ?_ NB266_267.out _) | exact HI266.out)); (case side2 => repeat (first | (with_reducible first | exact HB.out | apply below_alloc | apply pw_below_drewN | apply below_drew1 | refine below_set ?_ (IsS75.ge HI266.out) | refine below_set ?_ GE261.out | refine below_set ?_ GE262.out | refine below_set ?_ GE267.out) | exact HB.out)); rintro e w89 ⟨rfl, hi, hb, hk⟩; refine ⟨_, rfl, ?_⟩; have n0_ := Aside0.mk (KeepBut.blk hk (g' := gb261) (o := .cells #[.int .i64 0, .int .i64 0, .int .i64 0, .int .i64 0, .int .i64 0] 43 (0, 0)) (by (with_reducible repeat (first | refine blk_drewN ?_ _ | refine blk_drew ?_ | refine blk_alloc ?_ _)); exact BK261.out) NB261_266.out (by simp)); have n1_ := Aside0.mk (KeepBut.blk hk (g' := gb262) (o := .cells #[.int .i64 0, .int .i64 0, .int .i64 0, .int .i64 0, .int .i64 0] 40 (0, 0)) (by (with_reducible repeat (first | refine blk_drewN ?_ _ | refine blk_drew ?_ | refine blk_alloc ?_ _)); exact BK262.out) NB262_266.out (by simp)); have n2_ := Aside0.mk (KeepBut.blk hk (g' := gb267) (o := .cells #[.int .i64 x268000_3, .int .i64 x268001_3, .int .i64 x268002_3, .int .i64 x268003_3, .int .i64 x268004_3] 40 (0, 0)) (by (with_reducible repeat (first | refine blk_drewN ?_ _ | refine blk_drew ?_ | refine blk_alloc ?_ _)); exact BK267.out) NB267_266.out (by simp)); have n3_ := Aside0.mk (hb); have n4_ := Aside0.mk (hi); clear BK261; clear BK262; clear BK267; clear HB; clear HI266; have BK261 := n0_; have BK262 := n1_; have BK267 := n2_; have HB := n3_; have HI266 := n4_; clear n0_ n1_ n2_ n3_ n4_; (try clear hb); (try clear hb2); (try clear hk); (try clear hi)))
     have n0_ := Aside0.mk (blk_drew BK261.out)
     have n1_ := Aside0.mk (blk_drew BK262.out)
     have n2_ := Aside0.mk (blk_drew BK267.out)
     have n3_ := Aside0.mk (IsS75.drew HI266.out)
     have n4_ := Aside0.mk (below_drew1 HB.out)
     clear BK261
     clear BK262
     clear BK267
     clear HI266
     clear HB
     have BK261 := n0_
     have BK262 := n1_
     have BK267 := n2_
     have HI266 := n3_
     have HB := n4_
     clear n0_ n1_ n2_ n3_ n4_
     refine start_ (n := 10) (S := fun w' => w'.cell? ⟨gb267, 0, none⟩ = some (.int .i64 x268000_3) ∧ w'.cell? ⟨gb267, 1, none⟩ = some (.int .i64 x268001_3) ∧ w'.cell? ⟨gb267, 2, none⟩ = some (.int .i64 x268002_3) ∧ w'.cell? ⟨gb267, 3, none⟩ = some (.int .i64 x268003_3) ∧ w'.cell? ⟨gb267, 4, none⟩ = some (.int .i64 x268004_3)) (ds := []) #[false, false, false, false, false, false, false, false, false, false] (by kernel_rfl) rfl rfl ⟨(blk_cell BK267.out 0).trans rfl, (blk_cell BK267.out 1).trans rfl, (blk_cell BK267.out 2).trans rfl, (blk_cell BK267.out 3).trans rfl, (blk_cell BK267.out 4).trans rfl⟩ (fun hHeld => ?_); refine with_tabW spec_DrawIir.tab10 spec_DrawIir.bits10 (fun HT_ HW_ => ?_)
     generalize w89.drew = w90 at BK261 BK262 BK267 HI266 HB hHeld ⊢
     refine pure_ (i := 0) (N := some 41) (v := ?_) (a' := ?_) #[true, false, false, false, false, false, false, false, false, false] rfl rfl (any_of HT_.out (by kernel_rfl)) (fun _ _ _ h => h) (Or.inl ⟨by rfl, ?_⟩) ?_ ?_
     rotate_left
     ·intro w'
      go_simp
      with_reducible rfl
     rotate_left
     ·simp only [Act.put, List.setIfInBounds_toArray, List.set_cons_zero, List.set_cons_succ, i64_w, i32_w]
      rfl
     refine pure_ (i := 3) (N := some 44) (v := ?_) (a' := ?_) #[true, false, false, true, false, false, false, false, false, false] rfl rfl (any_of HT_.out (by kernel_rfl)) (fun _ _ _ h => h) (Or.inl ⟨by rfl, ?_⟩) ?_ ?_
     rotate_left
     ·intro w'
      go_simp
      with_reducible rfl
     rotate_left
     ·simp only [Act.put, List.setIfInBounds_toArray, List.set_cons_zero, List.set_cons_succ, i64_w, i32_w]
      rfl
     refine pure_ (i := 4) (N := some 45) (v := ?_) (a' := ?_) #[true, false, false, true, true, false, false, false, false, false] rfl rfl (any_of HT_.out (by kernel_rfl)) (fun _ _ _ h => h) (Or.inl ⟨by rfl, ?_⟩) ?_ ?_
     rotate_left
     ·intro w'
      go_simp
      with_reducible rfl
     rotate_left
     ·simp only [Act.put, List.setIfInBounds_toArray, List.set_cons_zero, List.set_cons_succ, i64_w, i32_w]
      rfl
     refine take_ (i := 2) (N := some 43) (v := ?_) (a' := ?_) #[true, false, true, true, true, false, false, false, false, false] rfl rfl (take_ofW HT_.out HW_.out (by kernel_rfl)) (fun _ _ _ h => h) (Or.inl ⟨by rfl, ?_⟩) hHeld ?_ ?_
     rotate_left
     ·rintro w' ⟨s0, s1, s2, s3, s4⟩
      go_simp
      with_reducible rfl
     rotate_left
     ·simp only [Act.put, List.setIfInBounds_toArray, List.set_cons_zero, List.set_cons_succ, i64_w, i32_w]
      rfl
     refine one_ (i := 1) (N := some 42) #[true, true, true, true, true, false, false, false, false, false] rfl rfl (one_of HT_.out (by kernel_rfl)) (by decide) (fun K hK => ?_)
     refine goes_ Try.func43 (by kernel_rfl) rfl #[.pointer (some ⟨g266, 0, none⟩)] (by rfl) rfl rfl (by (try simp only [List.map_toArray, List.map_cons, List.map_nil]); first | done | rfl | (simp only [List.length_drop, List.length_take]; rfl)) ?_
     with_reducible refine (spec_l10DrawSection.calls kj3 g266 t263 t287 t288 t327 t328 t329 t330 t331 t332 t333 w _ ?side1 ?side2 A86.out).mono ?_
     (case side1 => repeat (first | (with_reducible first | exact HI266.out | apply IsS75.alloc | apply IsS75.drewN | apply IsS75.drew | apply IsS75.set_1 | apply IsS75.set_2 | refine IsS75.far ?_ NB266_261.out _ | refine IsS75.far ?_ NB266_262.out _ | refine IsS75.far ?_ NB266_267.out _) | exact HI266.out))
     (case side2 => repeat (first | (with_reducible first | exact HB.out | apply below_alloc | apply pw_below_drewN | apply below_drew1 | refine below_set ?_ (IsS75.ge HI266.out) | refine below_set ?_ GE261.out | refine below_set ?_ GE262.out | refine below_set ?_ GE267.out) | exact HB.out))
     rintro e w91 ⟨rfl, hi, hb, hk⟩
     refine ⟨_, rfl, ?_⟩
     have n0_ := Aside0.mk (KeepBut.blk hk (g' := gb261) (o := .cells #[.int .i64 0, .int .i64 0, .int .i64 0, .int .i64 0, .int .i64 0] 43 (0, 0)) (by (with_reducible repeat (first | refine blk_drewN ?_ _ | refine blk_drew ?_ | refine blk_alloc ?_ _)); exact BK261.out) NB261_266.out (by simp))
     have n1_ := Aside0.mk (KeepBut.blk hk (g' := gb262) (o := .cells #[.int .i64 0, .int .i64 0, .int .i64 0, .int .i64 0, .int .i64 0] 40 (0, 0)) (by (with_reducible repeat (first | refine blk_drewN ?_ _ | refine blk_drew ?_ | refine blk_alloc ?_ _)); exact BK262.out) NB262_266.out (by simp))
     have n2_ := Aside0.mk (KeepBut.blk hk (g' := gb267) (o := .cells #[.int .i64 x268000_3, .int .i64 x268001_3, .int .i64 x268002_3, .int .i64 x268003_3, .int .i64 x268004_3] 40 (0, 0)) (by (with_reducible repeat (first | refine blk_drewN ?_ _ | refine blk_drew ?_ | refine blk_alloc ?_ _)); exact BK267.out) NB267_266.out (by simp))
     have n3_ := Aside0.mk (hb)
     have n4_ := Aside0.mk (hi)
     clear BK261
     clear BK262
     clear BK267
     clear HB
     clear HI266
     have BK261 := n0_
     have BK262 := n1_
     have BK267 := n2_
     have HB := n3_
     have HI266 := n4_
     clear n0_ n1_ n2_ n3_ n4_
     (try clear hb)
     (try clear hb2)
     (try clear hk)
     (try clear hi)
     refine hK.out _ _ ⟨(blk_cell BK267.out 0).trans rfl, (blk_cell BK267.out 1).trans rfl, (blk_cell BK267.out 2).trans rfl, (blk_cell BK267.out 3).trans rfl, (blk_cell BK267.out 4).trans rfl⟩ (fun hHeld => ?_)
     clear hK K
     refine norm_ (a' := ?_) ?_ ?_
     rotate_left
     ·show Act.put _ (some 42) _ = _
      simp only [Act.put, List.setIfInBounds_toArray, List.set_cons_zero, List.set_cons_succ, i64_w, i32_w]
      rfl
     refine one_ (i := 5) (N := some 46) #[true, true, true, true, true, true, false, false, false, false] rfl rfl (one_of HT_.out (by kernel_rfl)) (by decide) (fun K hK => ?_)
     refine goes_ Try.func45 (by kernel_rfl) rfl #[.slice A0 l0.length c0, .int .i64 30] (by rfl) rfl rfl (by (try simp only [List.map_toArray, List.map_cons, List.map_nil]); first | done | rfl | (simp only [List.length_drop, List.length_take]; rfl)) ?_
     with_reducible refine (spec_l1Size.calls _ _ l0 30 t334 _ ?side1 ?side2 A87.out).mono ?_
     (case side1 => repeat (first | exact (Kd.C_below HR0.out HB.out) | (with_reducible refine Kd.C_alloc ?_ _) | (with_reducible refine Kd.C_drewN ?_ _) | (with_reducible refine Kd.C_drew ?_)))
     (case side2 => exact HC0.out)
     rintro e w' ⟨rfl, ⟨nd, rfl⟩⟩
     refine ⟨_, rfl, ?_⟩
     refine hK.out _ _ ⟨(blk_cell BK267.out 0).trans rfl, (blk_cell BK267.out 1).trans rfl, (blk_cell BK267.out 2).trans rfl, (blk_cell BK267.out 3).trans rfl, (blk_cell BK267.out 4).trans rfl⟩ (fun hHeld => ?_)
     clear hK K
     refine norm_ (a' := ?_) ?_ ?_
     rotate_left
     ·show Act.put _ (some 46) _ = _
      simp only [Act.put, List.setIfInBounds_toArray, List.set_cons_zero, List.set_cons_succ, i64_w, i32_w]
      rfl
     refine one_ (i := 6) (N := some 47) #[true, true, true, true, true, true, true, false, false, false] rfl rfl (one_of HT_.out (by kernel_rfl)) (by decide) (fun K hK => ?_)
     refine goes_ Try.func44 (by kernel_rfl) rfl #[.pointer (some ⟨g266, 0, none⟩), .int .i64 t334] (by rfl) rfl rfl (by (try simp only [List.map_toArray, List.map_cons, List.map_nil]); first | done | rfl | (simp only [List.length_drop, List.length_take]; rfl)) ?_
     with_reducible refine (spec_l7DrawSmall.calls kj3 g266 t263 t332 t333 t334 t335 t338 t339 w _ ?side1 ?side2 A88.out).mono ?_
     (case side1 => repeat (first | (with_reducible first | exact HI266.out | apply IsS75.alloc | apply IsS75.drewN | apply IsS75.drew | apply IsS75.set_1 | apply IsS75.set_2 | refine IsS75.far ?_ NB266_261.out _ | refine IsS75.far ?_ NB266_262.out _ | refine IsS75.far ?_ NB266_267.out _) | exact HI266.out))
     (case side2 => repeat (first | (with_reducible first | exact HB.out | apply below_alloc | apply pw_below_drewN | apply below_drew1 | refine below_set ?_ (IsS75.ge HI266.out) | refine below_set ?_ GE261.out | refine below_set ?_ GE262.out | refine below_set ?_ GE267.out) | exact HB.out))
     rintro e w92 ⟨v336, rfl, ho0, hi, hb, hk⟩
     refine ⟨_, rfl, ?_⟩
     have n0_ := Aside0.mk (KeepBut.blk hk (g' := gb261) (o := .cells #[.int .i64 0, .int .i64 0, .int .i64 0, .int .i64 0, .int .i64 0] 43 (0, 0)) (by (with_reducible repeat (first | refine blk_drewN ?_ _ | refine blk_drew ?_ | refine blk_alloc ?_ _)); exact BK261.out) NB261_266.out (by simp))
     have n1_ := Aside0.mk (KeepBut.blk hk (g' := gb262) (o := .cells #[.int .i64 0, .int .i64 0, .int .i64 0, .int .i64 0, .int .i64 0] 40 (0, 0)) (by (with_reducible repeat (first | refine blk_drewN ?_ _ | refine blk_drew ?_ | refine blk_alloc ?_ _)); exact BK262.out) NB262_266.out (by simp))
     have n2_ := Aside0.mk (KeepBut.blk hk (g' := gb267) (o := .cells #[.int .i64 x268000_3, .int .i64 x268001_3, .int .i64 x268002_3, .int .i64 x268003_3, .int .i64 x268004_3] 40 (0, 0)) (by (with_reducible repeat (first | refine blk_drewN ?_ _ | refine blk_drew ?_ | refine blk_alloc ?_ _)); exact BK267.out) NB267_266.out (by simp))
     have n3_ := Aside0.mk (Kd.R_lower ho0 (below_size (by repeat (first | (with_reducible first | exact HB.out | apply below_alloc | apply pw_below_drewN | apply below_drew1 | refine below_set ?_ (IsS75.ge HI266.out) | refine below_set ?_ GE261.out | refine below_set ?_ GE262.out | refine below_set ?_ GE267.out) | exact HB.out))))
     have n4_ := Aside0.mk (hb)
     have n5_ := Aside0.mk (hi)
     clear BK261
     clear BK262
     clear BK267
     clear HB
     clear HI266
     have BK261 := n0_
     have BK262 := n1_
     have BK267 := n2_
     have HO337 := n3_
     have HB := n4_
     have HI266 := n5_
     clear n0_ n1_ n2_ n3_ n4_ n5_
     (try clear hb)
     (try clear hb2)
     (try clear hk)
     (try clear hi)
     (try clear ho0)
     refine hK.out _ _ ⟨(blk_cell BK267.out 0).trans rfl, (blk_cell BK267.out 1).trans rfl, (blk_cell BK267.out 2).trans rfl, (blk_cell BK267.out 3).trans rfl, (blk_cell BK267.out 4).trans rfl⟩ (fun hHeld => ?_)
     clear hK K
     refine norm_ (a' := ?_) ?_ ?_
     rotate_left
     ·show Act.put _ (some 47) _ = _
      simp only [Act.put, List.setIfInBounds_toArray, List.set_cons_zero, List.set_cons_succ, i64_w, i32_w]
      rfl
     refine one_ (i := 7) (N := none) #[true, true, true, true, true, true, true, true, false, false] rfl rfl (one_of HT_.out (by kernel_rfl)) (by decide) (fun K hK => ?_)
     have hs93 : w92.cell? ⟨gb261, 0, none⟩ = some (.int .i64 0) := (blk_cell BK261.out 0).trans rfl
     have hfs93 := blk_frozen BK261.out 0
     have hns93_1 := NB262_261.out
     have hns93_2 := NB267_261.out
     have hms93_1 := NB261_262.out
     have hms93_2 := NB261_267.out
     have hs94 : w92.cell? ⟨gb261, 1, none⟩ = some (.int .i64 0) := (blk_cell BK261.out 1).trans rfl
     have hfs94 := blk_frozen BK261.out 1
     have hns94_1 := NB262_261.out
     have hns94_2 := NB267_261.out
     have hms94_1 := NB261_262.out
     have hms94_2 := NB261_267.out
     have hs95 : w92.cell? ⟨gb261, 2, none⟩ = some (.int .i64 0) := (blk_cell BK261.out 2).trans rfl
     have hfs95 := blk_frozen BK261.out 2
     have hns95_1 := NB262_261.out
     have hns95_2 := NB267_261.out
     have hms95_1 := NB261_262.out
     have hms95_2 := NB261_267.out
     have hs96 : w92.cell? ⟨gb261, 3, none⟩ = some (.int .i64 0) := (blk_cell BK261.out 3).trans rfl
     have hfs96 := blk_frozen BK261.out 3
     have hns96_1 := NB262_261.out
     have hns96_2 := NB267_261.out
     have hms96_1 := NB261_262.out
     have hms96_2 := NB261_267.out
     have hs97 : w92.cell? ⟨gb261, 4, none⟩ = some (.int .i64 0) := (blk_cell BK261.out 4).trans rfl
     have hfs97 := blk_frozen BK261.out 4
     have hns97_1 := NB262_261.out
     have hns97_2 := NB267_261.out
     have hms97_1 := NB261_262.out
     have hms97_2 := NB261_267.out
     refine skip_ (w1 := ?_) (by rfl) rfl ?_ ?_
     rotate_left
     ·go_simp
      rfl
     refine hK.out _ _ ⟨((cell_far (p := ⟨gb261, _, none⟩) NB267_261.out _).trans (((cell_far (p := ⟨gb261, _, none⟩) NB267_261.out _).trans (((cell_far (p := ⟨gb261, _, none⟩) NB267_261.out _).trans (((cell_far (p := ⟨gb261, _, none⟩) NB267_261.out _).trans (((cell_far (p := ⟨gb261, _, none⟩) NB267_261.out _).trans (hHeld.1)))))))))), ((cell_far (p := ⟨gb261, _, none⟩) NB267_261.out _).trans (((cell_far (p := ⟨gb261, _, none⟩) NB267_261.out _).trans (((cell_far (p := ⟨gb261, _, none⟩) NB267_261.out _).trans (((cell_far (p := ⟨gb261, _, none⟩) NB267_261.out _).trans (((cell_far (p := ⟨gb261, _, none⟩) NB267_261.out _).trans (hHeld.2.1)))))))))), ((cell_far (p := ⟨gb261, _, none⟩) NB267_261.out _).trans (((cell_far (p := ⟨gb261, _, none⟩) NB267_261.out _).trans (((cell_far (p := ⟨gb261, _, none⟩) NB267_261.out _).trans (((cell_far (p := ⟨gb261, _, none⟩) NB267_261.out _).trans (((cell_far (p := ⟨gb261, _, none⟩) NB267_261.out _).trans (hHeld.2.2.1)))))))))), ((cell_far (p := ⟨gb261, _, none⟩) NB267_261.out _).trans (((cell_far (p := ⟨gb261, _, none⟩) NB267_261.out _).trans (((cell_far (p := ⟨gb261, _, none⟩) NB267_261.out _).trans (((cell_far (p := ⟨gb261, _, none⟩) NB267_261.out _).trans (((cell_far (p := ⟨gb261, _, none⟩) NB267_261.out _).trans (hHeld.2.2.2.1)))))))))), ((cell_far (p := ⟨gb261, _, none⟩) NB267_261.out _).trans (((cell_far (p := ⟨gb261, _, none⟩) NB267_261.out _).trans (((cell_far (p := ⟨gb261, _, none⟩) NB267_261.out _).trans (((cell_far (p := ⟨gb261, _, none⟩) NB267_261.out _).trans (((cell_far (p := ⟨gb261, _, none⟩) NB267_261.out _).trans (hHeld.2.2.2.2))))))))))⟩ (fun hHeld => ?_)
     clear hK K
     refine one_ (i := 8) (N := none) #[true, true, true, true, true, true, true, true, true, false] rfl rfl (one_of HT_.out (by kernel_rfl)) (by decide) (fun K hK => ?_)
     have hs98 : w92.cell? ⟨gb262, 0, none⟩ = some (.int .i64 0) := (blk_cell BK262.out 0).trans rfl
     have hfs98 := blk_frozen BK262.out 0
     have hns98_0 := NB261_262.out
     have hns98_2 := NB267_262.out
     have hms98_0 := NB262_261.out
     have hms98_2 := NB262_267.out
     have hs99 : w92.cell? ⟨gb262, 1, none⟩ = some (.int .i64 0) := (blk_cell BK262.out 1).trans rfl
     have hfs99 := blk_frozen BK262.out 1
     have hns99_0 := NB261_262.out
     have hns99_2 := NB267_262.out
     have hms99_0 := NB262_261.out
     have hms99_2 := NB262_267.out
     have hs100 : w92.cell? ⟨gb262, 2, none⟩ = some (.int .i64 0) := (blk_cell BK262.out 2).trans rfl
     have hfs100 := blk_frozen BK262.out 2
     have hns100_0 := NB261_262.out
     have hns100_2 := NB267_262.out
     have hms100_0 := NB262_261.out
     have hms100_2 := NB262_267.out
     have hs101 : w92.cell? ⟨gb262, 3, none⟩ = some (.int .i64 0) := (blk_cell BK262.out 3).trans rfl
     have hfs101 := blk_frozen BK262.out 3
     have hns101_0 := NB261_262.out
     have hns101_2 := NB267_262.out
     have hms101_0 := NB262_261.out
     have hms101_2 := NB262_267.out
     have hs102 : w92.cell? ⟨gb262, 4, none⟩ = some (.int .i64 0) := (blk_cell BK262.out 4).trans rfl
     have hfs102 := blk_frozen BK262.out 4
     have hns102_0 := NB261_262.out
     have hns102_2 := NB267_262.out
     have hms102_0 := NB262_261.out
     have hms102_2 := NB262_267.out
     refine skip_ (w1 := ?_) (by rfl) rfl ?_ ?_
     rotate_left
     ·go_simp
      rfl
     refine hK.out _ _ ⟨((cell_far (p := ⟨gb262, _, none⟩) NB267_262.out _).trans (((cell_far (p := ⟨gb262, _, none⟩) NB267_262.out _).trans (((cell_far (p := ⟨gb262, _, none⟩) NB267_262.out _).trans (((cell_far (p := ⟨gb262, _, none⟩) NB267_262.out _).trans (((cell_far (p := ⟨gb262, _, none⟩) NB267_262.out _).trans (hHeld.1)))))))))), ((cell_far (p := ⟨gb262, _, none⟩) NB267_262.out _).trans (((cell_far (p := ⟨gb262, _, none⟩) NB267_262.out _).trans (((cell_far (p := ⟨gb262, _, none⟩) NB267_262.out _).trans (((cell_far (p := ⟨gb262, _, none⟩) NB267_262.out _).trans (((cell_far (p := ⟨gb262, _, none⟩) NB267_262.out _).trans (hHeld.2.1)))))))))), ((cell_far (p := ⟨gb262, _, none⟩) NB267_262.out _).trans (((cell_far (p := ⟨gb262, _, none⟩) NB267_262.out _).trans (((cell_far (p := ⟨gb262, _, none⟩) NB267_262.out _).trans (((cell_far (p := ⟨gb262, _, none⟩) NB267_262.out _).trans (((cell_far (p := ⟨gb262, _, none⟩) NB267_262.out _).trans (hHeld.2.2.1)))))))))), ((cell_far (p := ⟨gb262, _, none⟩) NB267_262.out _).trans (((cell_far (p := ⟨gb262, _, none⟩) NB267_262.out _).trans (((cell_far (p := ⟨gb262, _, none⟩) NB267_262.out _).trans (((cell_far (p := ⟨gb262, _, none⟩) NB267_262.out _).trans (((cell_far (p := ⟨gb262, _, none⟩) NB267_262.out _).trans (hHeld.2.2.2.1)))))))))), ((cell_far (p := ⟨gb262, _, none⟩) NB267_262.out _).trans (((cell_far (p := ⟨gb262, _, none⟩) NB267_262.out _).trans (((cell_far (p := ⟨gb262, _, none⟩) NB267_262.out _).trans (((cell_far (p := ⟨gb262, _, none⟩) NB267_262.out _).trans (((cell_far (p := ⟨gb262, _, none⟩) NB267_262.out _).trans (hHeld.2.2.2.2))))))))))⟩ (fun hHeld => ?_)
     clear hK K
     refine pure_ (i := 9) (N := some 4) (v := ?_) (a' := ?_) #[true, true, true, true, true, true, true, true, true, true] rfl rfl (any_of HT_.out (by kernel_rfl)) (fun _ _ _ h => h) (Or.inl ⟨by rfl, ?_⟩) ?_ ?_
     rotate_left
     ·intro w'
      go_simp
      with_reducible rfl
     rotate_left
     ·simp only [Act.put, List.setIfInBounds_toArray, List.set_cons_zero, List.set_cons_succ, i64_w, i32_w]
      rfl
     refine done_ (done_of HT_.out (by kernel_rfl)) ?_
     try go_wp2
     refine bodyPost_ret (results_list (rs := [.cell 2 43, .cell 3 40, .tmp 4]) rfl (by simp) (.cell gb261 43 #[.int .i64 t327, .int .i64 t328, .int .i64 t329, .int .i64 t330, .int .i64 t331] (0, 0) _ rfl (by (with_reducible repeat (first | refine blk_drewN ?_ _ | refine blk_drew ?_ | refine blk_alloc ?_ _)); refine blk_far ?_ NB261_262.out _; refine blk_far ?_ NB261_262.out _; refine blk_far ?_ NB261_262.out _; refine blk_far ?_ NB261_262.out _; refine blk_far ?_ NB261_262.out _; (with_reducible repeat (first | refine blk_drewN ?_ _ | refine blk_drew ?_ | refine blk_alloc ?_ _)); refine blk_put (cs := #[.int .i64 t327, .int .i64 t328, .int .i64 t329, .int .i64 t330, .int .i64 0]) ?_ 4 _ rfl; refine blk_put (cs := #[.int .i64 t327, .int .i64 t328, .int .i64 t329, .int .i64 0, .int .i64 0]) ?_ 3 _ rfl; refine blk_put (cs := #[.int .i64 t327, .int .i64 t328, .int .i64 0, .int .i64 0, .int .i64 0]) ?_ 2 _ rfl; refine blk_put (cs := #[.int .i64 t327, .int .i64 0, .int .i64 0, .int .i64 0, .int .i64 0]) ?_ 1 _ rfl; refine blk_put (cs := #[.int .i64 0, .int .i64 0, .int .i64 0, .int .i64 0, .int .i64 0]) ?_ 0 _ rfl; (with_reducible repeat (first | refine blk_drewN ?_ _ | refine blk_drew ?_ | refine blk_alloc ?_ _)); exact BK261.out) Try.underlying43 rfl (by kernel_rfl) (.cell gb262 40 #[.int .i64 x268000_3, .int .i64 x268001_3, .int .i64 x268002_3, .int .i64 x268003_3, .int .i64 x268004_3] (0, 0) _ rfl (by (with_reducible repeat (first | refine blk_drewN ?_ _ | refine blk_drew ?_ | refine blk_alloc ?_ _)); refine blk_put (cs := #[.int .i64 x268000_3, .int .i64 x268001_3, .int .i64 x268002_3, .int .i64 x268003_3, .int .i64 0]) ?_ 4 _ rfl; refine blk_put (cs := #[.int .i64 x268000_3, .int .i64 x268001_3, .int .i64 x268002_3, .int .i64 0, .int .i64 0]) ?_ 3 _ rfl; refine blk_put (cs := #[.int .i64 x268000_3, .int .i64 x268001_3, .int .i64 0, .int .i64 0, .int .i64 0]) ?_ 2 _ rfl; refine blk_put (cs := #[.int .i64 x268000_3, .int .i64 0, .int .i64 0, .int .i64 0, .int .i64 0]) ?_ 1 _ rfl; refine blk_put (cs := #[.int .i64 0, .int .i64 0, .int .i64 0, .int .i64 0, .int .i64 0]) ?_ 0 _ rfl; (with_reducible repeat (first | refine blk_drewN ?_ _ | refine blk_drew ?_ | refine blk_alloc ?_ _)); refine blk_far ?_ NB262_261.out _; refine blk_far ?_ NB262_261.out _; refine blk_far ?_ NB262_261.out _; refine blk_far ?_ NB262_261.out _; refine blk_far ?_ NB262_261.out _; (with_reducible repeat (first | refine blk_drewN ?_ _ | refine blk_drew ?_ | refine blk_alloc ?_ _)); exact BK262.out) Try.underlying40 rfl (by kernel_rfl) (.tmp .nil)))) rfl ?_
     exact ⟨_, by first | rfl | (simp [errW_none, errW_some] <;> rfl) | (simp [*, errW_none, errW_some] <;> rfl), by (with_reducible repeat (first | apply Kd.R_alloc | apply Kd.R_drewN | apply Kd.R_drew)); exact Kd.R_mono (Kd.R_far (p := ⟨gb262, 4, none⟩) (Kd.R_far (p := ⟨gb262, 3, none⟩) (Kd.R_far (p := ⟨gb262, 2, none⟩) (Kd.R_far (p := ⟨gb262, 1, none⟩) (Kd.R_far (p := ⟨gb262, 0, none⟩) (Kd.R_far (p := ⟨gb261, 4, none⟩) (Kd.R_far (p := ⟨gb261, 3, none⟩) (Kd.R_far (p := ⟨gb261, 2, none⟩) (Kd.R_far (p := ⟨gb261, 1, none⟩) (Kd.R_far (p := ⟨gb261, 0, none⟩) (Kd.R_types (Kd.R_types HO337.out BK261.out (by decide)) BK262.out (by decide)) (fun _ hk => hk.1.2) (.int .i64 t327)) (fun _ hk => hk.1.2) (.int .i64 t328)) (fun _ hk => hk.1.2) (.int .i64 t329)) (fun _ hk => hk.1.2) (.int .i64 t330)) (fun _ hk => hk.1.2) (.int .i64 t331)) (fun _ hk => hk.2) (.int .i64 x268000_3)) (fun _ hk => hk.2) (.int .i64 x268001_3)) (fun _ hk => hk.2) (.int .i64 x268002_3)) (fun _ hk => hk.2) (.int .i64 x268003_3)) (fun _ hk => hk.2) (.int .i64 x268004_3)) (fun _ hk => trivial), by repeat (first | (with_reducible first | exact HB.out | apply below_alloc | apply pw_below_drewN | apply below_drew1 | refine below_set ?_ (IsS75.ge HI266.out) | refine below_set ?_ GE261.out | refine below_set ?_ GE262.out | refine below_set ?_ GE267.out) | exact HB.out)⟩

end Go.Proofs.Ytlgepbckgfcklaa.QFnIirPieces
