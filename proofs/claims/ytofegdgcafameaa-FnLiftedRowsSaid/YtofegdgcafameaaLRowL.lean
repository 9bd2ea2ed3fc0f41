/- The walk of FnLiftedRows. -/
import Derived.Test.YtofegdgcafameaaLRowX
import Derived.Test.YtofegdgcafameaaLRowXB
import Derived.Test.YtofegdgcafameaaLRowV
namespace Go.Proofs.Ytofegdgcafameaa.LRowL
open Go.RowKit Go.Proofs.YtofegdgcafameaaW.PrintWords Go.Proofs.YtofegdgcafameaaW.PrintLast Go.Proofs.YtofegdgcafameaaW.PrintMore Go.Proofs.Ytofegdgcafameaa.Base
open Go.Proofs.Ytofegdgcafameaa.QFnLiftedRows Go.Proofs.Ytofegdgcafameaa.LRowP
open Go.Proofs.Ytofegdgcafameaa.LRowF (lift2R) 
open Go.Proofs.Ytofegdgcafameaa.LRowB (unlift2R)
open Go.Proofs.Ytofegdgcafameaa.LRowV
set_option linter.unusedVariables false
set_option linter.unusedSimpArgs false
/-- the drawn bytes -/
structure Code0 (w : World) (A : Option Addr) (c : Nat) (l : List Int) : Prop where
  row : Kd.C (Kd.int .u8) w A l.length l
  cap : l.length ≤ c
  small : l.length ≤ 140737488351232
  wf : ∀ x ∈ l, (Lit.int .u8 x).wf = true
/-- rows of rows that are read -/
structure RedS (w : World) (A : Option Addr) (n c : Nat) (x : List (List Int)) : Prop where
  row : Kd.C (Kd.slice 3 (Kd.int .i64)) w A n x
  cap : n ≤ c
  len : n = x.length
theorem RedS.below {w w1 : World} {n c : Nat} {A : Option Addr} {x : List (List Int)} (h : RedS w A n c x) (hb : Below w.heap.size w w1) : RedS w1 A n c x := ⟨Kd.C_below h.row hb, h.cap, h.len⟩
theorem red_S {w : World} {b n c : Nat} {ok : Nat → Prop} {A : Option Addr} {x : List (List Int)} (h : Kd.S (Kd.slice 3 (Kd.int .i64)) 29 w b ok (.slice A n c) x) : RedS w A n c x := by
  obtain ⟨h1, h2, h3⟩ := Kd.S_reads' h
  subst h1
  exact ⟨h3, h2, rfl⟩
theorem red_R {w : World} {b n c : Nat} {ok : Nat → Prop} {A : Option Addr} {x : List (List Int)} (h : Kd.R (Kd.slice 3 (Kd.int .i64)) 29 w b ok (.slice A n c) x) : RedS w A n c x := by
  obtain ⟨h1, h2, h3⟩ := Kd.R_reads' h
  subst h1
  exact ⟨h3, h2, rfl⟩
def Few (x : List (List Int)) : Prop := x.length ≤ 2000000 ∧ ∀ r ∈ x, r.length ≤ 2000000
/-- rows and a word come back -/
def RetLB (r : List (List Int) × Bool) (w : World) (e : Ending) (w' : World) : Prop := ∃ A c, e = .returned (.tuple #[.slice A r.1.length c, .bool r.2]) ∧ RedS w' A r.1.length c r.1 ∧ Below w.heap.size w w'
theorem lift_calls (kind : Int) {A : Option Addr} {n c : Nat} {x : List (List Int)} (hs : Few x) (w : World) (h : RedS w A n c x) : Calls Try.prog 10 #[.int .i64 kind, .slice A n c] w (RetLB (lift2R kind x) w) := by
  refine (LRowX.both_calls kind w h.row h.cap h.len (by have := h.len; have := hs.1; omega) hs.2).mono ?_
  rintro e w' ⟨A', c', rfl, ho, hb⟩
  exact ⟨A', c', rfl, red_S ho, hb⟩
theorem unlift_calls (kind : Int) {A : Option Addr} {n c : Nat} {x : List (List Int)} (hs : Few x) (w : World) (h : RedS w A n c x) : Calls Try.prog 13 #[.int .i64 kind, .slice A n c] w (RetLB (unlift2R kind x) w) := by
  refine (LRowXB.both_calls kind w h.row h.cap h.len (by have := h.len; have := hs.1; omega) hs.2).mono ?_
  rintro e w' ⟨A', c', rfl, ho, hb⟩
  exact ⟨A', c', rfl, red_S ho, hb⟩
theorem slift_calls (kind : Int) {A : Option Addr} {n c : Nat} {x : List (List Int)} (hs : Few x) (w : World) (h : RedS w A n c x) : Calls Try.prog 11 #[.int .i64 kind, .slice A n c] w (RetLB (lift2R kind x) w) := by
  obtain ⟨hr, hc, rfl⟩ := h
  obtain ⟨K, hk⟩ := LRowF.specLift2_ev kind x hs.1 hs.2
  refine (spec_Lift2.calls K kind A c x _ _ w hr hc (hk K (Nat.le_refl _))).mono ?_
  rintro e w' ⟨v, rfl, ho, hb⟩
  obtain ⟨A', c', rfl⟩ := Kd.S_slice ho
  exact ⟨A', c', rfl, red_S ho, hb⟩
theorem sunlift_calls (kind : Int) {A : Option Addr} {n c : Nat} {x : List (List Int)} (hs : Few x) (w : World) (h : RedS w A n c x) : Calls Try.prog 14 #[.int .i64 kind, .slice A n c] w (RetLB (unlift2R kind x) w) := by
  obtain ⟨hr, hc, rfl⟩ := h
  obtain ⟨K, hk⟩ := LRowB.specUnlift2_ev kind x hs.1 hs.2
  refine (spec_Unlift2.calls K kind A c x _ _ w hr hc (hk K (Nat.le_refl _))).mono ?_
  rintro e w' ⟨v, rfl, ho, hb⟩
  obtain ⟨A', c', rfl⟩ := Kd.S_slice ho
  exact ⟨A', c', rfl, red_S ho, hb⟩
theorem same_calls {A B : Option Addr} {n m c d : Nat} {x : List (List Int)} (hs : Few x) (w : World) (h : RedS w A n c x) (h' : RedS w B m d x) :
    Calls Try.prog 12 #[.slice A n c, .slice B m d] w fun e w' => e = .returned (.bool true) ∧ Below w.heap.size w w' := by
  obtain ⟨hr, hc, rfl⟩ := h
  obtain ⟨hr', hc', rfl⟩ := h'
  obtain ⟨K, hk⟩ := sameRows_ev x hs.1 hs.2
  refine (laws_sameRows.calls K A c x B d x true w hr hc hr' hc' (hk K (Nat.le_refl _))).mono ?_
  rintro e w' ⟨rfl, hd⟩
  exact ⟨rfl, hd.below⟩
/-- a row that a literal has just laid -/
theorem lit_R {α : Type} (d : Kd α) (W : World) (base e : Nat) {xs : List α} {inner : List Value} (hrep : Reps (d.M W base (fun _ => True)) d.sz xs inner) (hbase : base ≤ W.heap.size) (hm : xs.length ≤ 9223372036854775807) :
    d.R e (W.alloc (.cells inner.toArray e)) base (fun _ => True) (.slice (some ⟨W.heap.size, 0, none⟩) xs.length xs.length) xs := by
  refine ⟨fun _ _ => trivial, inner, ?_, ?_⟩
  · have h2 := World.ownsRow_lit (base := base) (e := e) (size := d.sz) W inner.toArray xs.length hbase (by simpa [maxLen] using hm) (by simpa using hrep.1)
    simpa using h2
  · refine hrep.imp_ (fun p c hp => d.M_mono (fun k hk => ⟨trivial, fun he => ?_⟩) (Kd.M_below (d.M_bound hp) (below_alloc (Below.refl _ _) _)))
    have h3 : k = W.heap.size := by simpa [Value.ownBlock] using he
    have := hk.2.2.1
    omega
theorem lit_red (W : World) (a b : Int) :
    RedS ((W.alloc (.cells #[.int .i64 a, .int .i64 b] 3)).alloc (.cells #[.slice (some ⟨W.heap.size, 0, none⟩) 2 2] 29)) (some ⟨W.heap.size + 1, 0, none⟩) 1 1 [[a, b]] := by
  have h1 := lit_R (Kd.int .i64) W W.heap.size 3 (xs := [a, b]) (inner := [.int .i64 a, .int .i64 b]) (Reps.one (show Kd.M (Kd.int .i64) _ _ _ a [.int .i64 a] from rfl) (Reps.one (show Kd.M (Kd.int .i64) _ _ _ b [.int .i64 b] from rfl) (Reps.none _ _))) (Nat.le_refl _) (by simp)
  have hsz : (W.alloc (.cells #[.int .i64 a, .int .i64 b] 3)).heap.size = W.heap.size + 1 := Array.size_push _
  have h2 := lit_R (Kd.slice 3 (Kd.int .i64)) (W.alloc (.cells #[.int .i64 a, .int .i64 b] 3)) W.heap.size 29 (xs := [[a, b]]) (inner := [.slice (some ⟨W.heap.size, 0, none⟩) 2 2]) (Reps.one (Kd.M_row h1) (Reps.none _ _)) (by omega) (by simp)
  rw [hsz] at h2
  exact red_R h2
def RetD (w : World) (e : Ending) (w' : World) : Prop := ∃ kind x A c, e = .returned (.tuple #[.int .i64 kind, .slice A x.length c]) ∧ Few x ∧ RedS w' A x.length c x ∧ Below w.heap.size w w'
theorem draw_calls {A : Option Addr} {c : Nat} {l : List Int} (w : World) (h : Code0 w A c l) (hl : l.length ≤ 2000000) : Calls Try.prog 9 #[.slice A l.length c] w (RetD w) := by
  obtain ⟨kind, x, ⟨K, hk⟩, h1, h2⟩ := drawLift2_ev l hl
  refine (spec_DrawLift2.calls K A c l kind x w h.row h.cap (hk K (Nat.le_refl _))).mono ?_
  rintro e w' ⟨v, rfl, ho, hb⟩
  obtain ⟨A', c', rfl⟩ := Kd.S_slice ho
  exact ⟨kind, x, A', c', rfl, ⟨by omega, fun r hr => by have := h2 r hr; omega⟩, red_S ho, hb⟩
theorem big_calls {A : Option Addr} {c : Nat} {l : List Int} (w : World) (h : Code0 w A c l) : Calls Try.prog 8 #[.slice A l.length c] w fun e w' => e = .returned (.bool (decide ((l.length : Int) > 1048576))) ∧ Below w.heap.size w w' := by
  refine (laws_big.calls A c l _ w h.row h.cap rfl).mono ?_
  rintro e w' ⟨rfl, hd⟩
  exact ⟨rfl, hd.below⟩
set_option maxHeartbeats 2000000 in
theorem law_calls {A : Option Addr} {c : Nat} {l : List Int} (w : World) (h : Code0 w A c l) :
    Calls Try.prog 3 #[.slice A l.length c] w fun e w' => e = .returned (.bool true) ∧ Below w.heap.size w w' := by
  go_enter Try.func3, Try.ntmps3
  go_wp2_with fail
  refine (big_calls w h).mono ?_
  rintro e w1 ⟨rfl, hb⟩
  by_cases hbig : (l.length : Int) > 1048576
  · have hbig2 : decide ((l.length : Int) > 1048576) = true := decide_eq_true hbig
    go_wp2_with fail
    go_ret
    exact ⟨rfl, hb⟩
  have hbig2 : decide ((l.length : Int) > 1048576) = false := decide_eq_false hbig
  have h1 : Code0 w1 A c l := ⟨Kd.C_below h.row hb, h.cap, h.small, h.wf⟩
  clear h
  go_wp2_with fail
  refine (draw_calls w1 h1 (by omega)).mono ?_
  rintro e w2 ⟨kind, x, A2, c2, rfl, hs, hx, hbn⟩
  replace hb := below_step hb hbn
  clear hbn h1
  go_wp2_with fail
  refine (lift_calls kind hs w2 hx).mono ?_
  rintro e w3 ⟨A3, c3, rfl, hy, hbn⟩
  replace hx := hx.below hbn
  replace hb := below_step hb hbn
  clear hbn
  go_wp2_with fail
  refine (slift_calls kind hs w3 hx).mono ?_
  rintro e w4 ⟨A4, c4, rfl, hz, hbn⟩
  replace hx := hx.below hbn
  replace hy := hy.below hbn
  replace hb := below_step hb hbn
  clear hbn hz
  have hfew : Few (lift2R kind x).1 := lift2_few kind x hs.1 hs.2
  have hback := back_same kind x
  generalize lift2R kind x = R at *
  obtain ⟨y, ok⟩ := R
  cases ok with
  | false =>
    clear hback hy hx hfew
    go_wp2_with (first
      | ((with_reducible refine gate_dst (N := 40) rfl ?_); refine Kd.R_lit (Kd.int .i64) w4.heap.size 3 ?hg (w0 := w4) (N := 40) ?hd (xs := ([1, 3] : List Int)) (inner := [.int .i64 1, .int .i64 3]) (ok := fun _ => True) (okp := fun _ => True) ?hr ?hp (fun _ hk => hk) trivial (Below.refl _ _) (Nat.le_refl _) (by simp) ?_; (case hd => rfl); (case hg => rfl); (case hr => first | (go_simp; done) | (go_simp; rfl)); (case hp => exact (Reps.one (show Kd.M (Kd.int .i64) _ _ _ 1 [.int .i64 1] from rfl) (Reps.one (show Kd.M (Kd.int .i64) _ _ _ 3 [.int .i64 3] from rfl) (Reps.none _ _)))); intro v40 w5 ho hbn hg_ hnew_; clear hg_ hnew_; obtain ⟨A5, c5, rfl⟩ := Kd.R_slice ho)
      | ((with_reducible refine gate_dst (N := 41) rfl ?_); refine Kd.R_lit (Kd.slice 3 (Kd.int .i64)) w4.heap.size 29 ?hg (w0 := w4) (N := 41) ?hd (xs := ([[1, 3]] : List (List Int))) (inner := [.slice A5 2 c5]) (ok := fun _ => True) (okp := fun _ => True) ?hr ?hp (fun _ hk => hk) trivial hbn hbn.size (by simp) ?_; (case hd => rfl); (case hg => rfl); (case hr => first | (go_simp; done) | (go_simp; rfl)); (case hp => exact (Reps.one (Kd.M_row ho) (Reps.none _ _))); intro v41 w6 ho2 hbn2 hg_ hnew_; clear hg_ hnew_; obtain ⟨A6, c6, rfl⟩ := Kd.R_slice ho2))
    replace hb := below_step hb hbn2
    have hz := red_R ho2
    clear hbn hbn2 ho ho2
    refine (lift_calls 1 (x := [[1, 3]]) ⟨by decide, by decide⟩ w6 hz).mono ?_
    rw [small_one]
    rintro e w7 ⟨A7, c7, rfl, hy, hbn⟩
    replace hb := below_step hb hbn
    clear hbn hz
    go_wp2_with fail
    have hz2 := lit_red w7 2 2
    have hb2 : Below w7.heap.size w7 ((w7.alloc (.cells #[.int .i64 2, .int .i64 2] 3)).alloc (.cells #[.slice (some ⟨w7.heap.size, 0, none⟩) 2 2] 29)) := below_alloc (below_alloc (Below.refl _ _) _) _
    replace hy := hy.below hb2
    replace hb := below_step hb hb2
    refine (same_calls (x := [[2, 2]]) ⟨by decide, by decide⟩ _ hy hz2).mono ?_
    rintro e w8 ⟨rfl, hbn⟩
    replace hb := below_step hb hbn
    go_wp2_with fail
    go_ret
    exact ⟨rfl, hb⟩
  | true =>
    replace hback := hback rfl
    go_wp2_with fail
    refine (unlift_calls kind hfew w4 hy).mono ?_
    rintro e w5 ⟨A5, c5, rfl, hz, hbn⟩
    replace hx := hx.below hbn
    replace hy := hy.below hbn
    replace hb := below_step hb hbn
    clear hbn
    go_wp2_with fail
    refine (sunlift_calls kind hfew w5 hy).mono ?_
    rintro e w6 ⟨A6, c6, rfl, hz2, hbn⟩
    replace hx := hx.below hbn
    replace hz := hz.below hbn
    replace hb := below_step hb hbn
    clear hbn hz2 hy
    generalize unlift2R kind y = R at *
    obtain ⟨z, ok⟩ := R
    cases ok with
    | false =>
      go_wp2_with fail
      go_ret
      exact ⟨rfl, hb⟩
    | true =>
      replace hback := hback rfl
      replace hback : z = x := hback
      subst hback
      go_wp2_with fail
      refine (same_calls hs w6 hz hx).mono ?_
      rintro e w7 ⟨rfl, hbn⟩
      replace hb := below_step hb hbn
      go_wp2_with fail
      go_ret
      exact ⟨rfl, hb⟩
end Go.Proofs.Ytofegdgcafameaa.LRowL
