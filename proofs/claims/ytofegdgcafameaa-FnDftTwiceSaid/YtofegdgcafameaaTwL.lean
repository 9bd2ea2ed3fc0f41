/- The walk of FnDftTwice. -/
import Derived.Test.YtofegdgcafameaaTwX
import Derived.Test.YtofegdgcafameaaTwV
namespace Go.Proofs.Ytofegdgcafameaa.TwL
open Go.RowKit Go.Proofs.YtofegdgcafameaaW.PrintWords Go.Proofs.YtofegdgcafameaaW.PrintLast Go.Proofs.YtofegdgcafameaaW.PrintMore Go.Proofs.Ytofegdgcafameaa.Base Go.Proofs.Ytofegdgcafameaa.Mod
open Go.Proofs.Ytofegdgcafameaa.QFnDftTwice Go.Proofs.Ytofegdgcafameaa.TwP Go.Proofs.Ytofegdgcafameaa.TwW Go.Proofs.Ytofegdgcafameaa.TwX Go.Proofs.Ytofegdgcafameaa.TwV
set_option linter.unusedVariables false
set_option linter.unusedSimpArgs false
/-- the drawn bytes -/
structure Code0 (w : World) (A : Option Addr) (c : Nat) (l : List Int) : Prop where
  row : Kd.C (Kd.int .u8) w A l.length l
  cap : l.length ≤ c
  small : l.length ≤ 140737488351232
  wf : ∀ x ∈ l, (Lit.int .u8 x).wf = true
theorem red_R {w : World} {b n c : Nat} {ok : Nat → Prop} {A : Option Addr} {x : List (List Int)} (h : Kd.R (Kd.slice 3 (Kd.int .i64)) 29 w b ok (.slice A n c) x) : RedS w A n c x := by
  obtain ⟨h1, h2, h3⟩ := Kd.R_reads' h
  subst h1
  exact ⟨h3, h2, rfl⟩
/-- rows and a word come back -/
def RetLB (r : List (List Int) × Bool) (w : World) (e : Ending) (w' : World) : Prop := ∃ A c, e = .returned (.tuple #[.slice A r.1.length c, .bool r.2]) ∧ RedS w' A r.1.length c r.1 ∧ Below w.heap.size w w'
theorem dft_calls (p : Int) (back : Bool) {A : Option Addr} {n c : Nat} {x : List (List Int)} (hs : Small x) (w : World) (h : RedS w A n c x) : Calls Try.prog 18 #[.slice A n c, .int .i64 p, .bool back] w (RetLB (d2R x p back) w) := by
  refine (dft2_calls p back w h hs).mono ?_
  rintro e w' ⟨A', c', rfl, ho, hb⟩
  exact ⟨A', c', rfl, ho.red, hb⟩
theorem sdft_calls' (p : Int) (back : Bool) {A : Option Addr} {n c : Nat} {x : List (List Int)} (hs : Small x) (w : World) (h : RedS w A n c x) : Calls Try.prog 16 #[.slice A n c, .int .i64 p, .bool back] w (RetLB (d2R x p back) w) := by
  refine (sdft2_calls p back w h hs).mono ?_
  rintro e w' ⟨A', c', rfl, ho, hb⟩
  exact ⟨A', c', rfl, ho.red, hb⟩
theorem same_calls {A B : Option Addr} {n m c d : Nat} {x : List (List Int)} (hs : Small x) (w : World) (h : RedS w A n c x) (h' : RedS w B m d x) :
    Calls Try.prog 12 #[.slice A n c, .slice B m d] w fun e w' => e = .returned (.bool true) ∧ Below w.heap.size w w' := by
  obtain ⟨hr, hc, rfl⟩ := h
  obtain ⟨hr', hc', rfl⟩ := h'
  obtain ⟨K, hk⟩ := sameRows_ev x hs.n hs.r
  refine (laws_sameRows.calls K A c x B d x true w hr hc hr' hc' (hk K (Nat.le_refl _))).mono ?_
  rintro e w' ⟨rfl, hd⟩
  exact ⟨rfl, hd.below⟩
def RetL (x : List (List Int)) (w : World) (e : Ending) (w' : World) : Prop := ∃ A c, e = .returned (.slice A x.length c) ∧ RedS w' A x.length c x ∧ Below w.heap.size w w'
theorem turned_calls {A : Option Addr} {n c : Nat} {x : List (List Int)} (hs : Small x) (hn : 0 < x.length) (he : Even x) (w : World) (h : RedS w A n c x) : Calls Try.prog 23 #[.slice A n c] w (RetL (turnT x) w) := by
  obtain ⟨hr, hc, rfl⟩ := h
  obtain ⟨K, hk⟩ := turned_ev x hn hs.n (hs.r _ (rdL_mem (x := x) (i := 0) hn)) he
  refine (laws_turnedRows.calls K A c x _ w hr hc (hk K (Nat.le_refl _))).mono ?_
  rintro e w' ⟨v, rfl, ho, hb⟩
  obtain ⟨A', c', rfl⟩ := Kd.S_slice ho
  exact ⟨A', c', rfl, (of_S ho).red, hb⟩
theorem turn_small {x : List (List Int)} (hs : Small x) (hn : 0 < x.length) : Small (turnT x) := by
  refine ⟨?_, fun r hr => ?_⟩
  · rw [turn_len]
    exact hs.r _ (rdL_mem (x := x) (i := 0) hn)
  · unfold turnT tabL at hr
    obtain ⟨i, hi, rfl⟩ := List.mem_map.1 hr
    rw [col_len]
    exact hs.n
theorem good_of_R {x : List (List Int)} {p : Int} {back : Bool} (h : (d2R x p back).2 = true) : D2ok x p back := by
  unfold d2R at h
  split at h
  · assumption
  · cases h
theorem even_R {x : List (List Int)} {p : Int} {back : Bool} (h : (d2R x p back).2 = true) : 0 < (d2R x p back).1.length ∧ Even (d2R x p back).1 := by
  have hd := good_of_R h
  have e : d2R x p back = (d2V x p back, true) := by unfold d2R; rw [if_pos hd]
  obtain ⟨P, rfl, hq, hP⟩ := good_prime hd
  have h2 := ok_after false hd
  rw [e]
  exact ⟨whole_pos h2.1, good_even h2⟩
def RetD (w : World) (e : Ending) (w' : World) : Prop := ∃ x p o A c, e = .returned (.tuple #[.slice A x.length c, .int .i64 p, .bool o]) ∧ Small x ∧ RedS w' A x.length c x ∧ Below w.heap.size w w'
theorem draw_calls {A : Option Addr} {c : Nat} {l : List Int} (w : World) (h : Code0 w A c l) (hl : l.length ≤ 2000000) : Calls Try.prog 22 #[.slice A l.length c] w (RetD w) := by
  obtain ⟨x, p, o, ⟨K, hk⟩, h1, h2⟩ := drawDft2_ev l hl
  refine (spec_DrawDft2.calls K A c l x p o w h.row h.cap (hk K (Nat.le_refl _))).mono ?_
  rintro e w' ⟨v, rfl, ho, hb⟩
  obtain ⟨A', c', rfl⟩ := Kd.S_slice ho
  exact ⟨x, p, o, A', c', rfl, ⟨by omega, fun r hr => by have := h2 r hr; omega⟩, (of_S ho).red, hb⟩
theorem big_calls {A : Option Addr} {c : Nat} {l : List Int} (w : World) (h : Code0 w A c l) : Calls Try.prog 8 #[.slice A l.length c] w fun e w' => e = .returned (.bool (decide ((l.length : Int) > 1048576))) ∧ Below w.heap.size w w' := by
  refine (laws_big.calls A c l _ w h.row h.cap rfl).mono ?_
  rintro e w' ⟨rfl, hd⟩
  exact ⟨rfl, hd.below⟩
set_option maxHeartbeats 2000000 in
theorem law_calls {A : Option Addr} {c : Nat} {l : List Int} (w : World) (h : Code0 w A c l) :
    Calls Try.prog 5 #[.slice A l.length c] w fun e w' => e = .returned (.bool true) ∧ Below w.heap.size w w' := by
  go_enter Try.func5, Try.ntmps5
  go_wp2_with fail
  refine (big_calls w h).mono ?_
  rintro e w1 ⟨rfl, hb⟩
  by_cases hbig : (l.length : Int) > 1048576
  · have hbig2 : decide ((l.length : Int) > 1048576) = true := decide_eq_true hbig
    go_wp2_with fail
    go_ret
    exact ⟨rfl, hb⟩
  have hbig2 : decide ((l.length : Int) > 1048576) = false := decide_eq_false hbig
  have h1 : Code0 w1 A c l := ⟨Kd.C_below h.row hb, h.cap, h.small, h.wf⟩
  clear h
  go_wp2_with fail
  refine (draw_calls w1 h1 (by omega)).mono ?_
  rintro e w2 ⟨x, p, o, A2, c2, rfl, hs, hx, hbn⟩
  replace hb := below_step hb hbn
  clear hbn h1
  go_wp2_with fail
  refine (dft_calls p false hs w2 hx).mono ?_
  rintro e w3 ⟨A3, c3, rfl, hf, hbn⟩
  replace hx := hx.below hbn
  replace hb := below_step hb hbn
  clear hbn
  go_wp2_with fail
  refine (sdft_calls' p false hs w3 hx).mono ?_
  rintro e w4 ⟨A4, c4, rfl, hz, hbn⟩
  replace hx := hx.below hbn
  replace hf := hf.below hbn
  replace hb := below_step hb hbn
  clear hbn hz
  have hfew := d2_few x p false
  have hback := back_R (x := x) (p := p)
  have hturn := turned_R (x := x) (p := p)
  have hgood := good_of_R (x := x) (p := p) (back := false)
  generalize d2R x p false = R at *
  obtain ⟨f, ok⟩ := R
  cases ok with
  | false =>
    clear hback hf hx hfew hturn hgood
    go_wp2_with (first
      | ((with_reducible refine gate_dst (N := 42) rfl ?_); refine Kd.R_lit (Kd.int .i64) w4.heap.size 3 ?hg (w0 := w4) (N := 42) ?hd (xs := ([5] : List Int)) (inner := [.int .i64 5]) (ok := fun _ => True) (okp := fun _ => True) ?hr ?hp (fun _ hk => hk) trivial (Below.refl _ _) (Nat.le_refl _) (by simp) ?_; (case hd => rfl); (case hg => rfl); (case hr => first | (go_simp; done) | (go_simp; rfl)); (case hp => exact (Reps.one (show Kd.M (Kd.int .i64) _ _ _ 5 [.int .i64 5] from rfl) (Reps.none _ _))); intro v40 w5 ho hbn hg_ hnew_; clear hg_ hnew_; obtain ⟨A5, c5, rfl⟩ := Kd.R_slice ho)
      | ((with_reducible refine gate_dst (N := 43) rfl ?_); refine Kd.R_lit (Kd.slice 3 (Kd.int .i64)) w4.heap.size 29 ?hg (w0 := w4) (N := 43) ?hd (xs := ([[5]] : List (List Int))) (inner := [.slice A5 1 c5]) (ok := fun _ => True) (okp := fun _ => True) ?hr ?hp (fun _ hk => hk) trivial hbn hbn.size (by simp) ?_; (case hd => rfl); (case hg => rfl); (case hr => first | (go_simp; done) | (go_simp; rfl)); (case hp => exact (Reps.one (Kd.M_row ho) (Reps.none _ _))); intro v41 w6 ho2 hbn2 hg_ hnew_; clear hg_ hnew_; obtain ⟨A6, c6, rfl⟩ := Kd.R_slice ho2))
    replace hb := below_step hb hbn2
    have hz := red_R ho2
    clear hbn hbn2 ho ho2
    refine (dft_calls 998244353 false (x := [[5]]) ⟨by decide, by decide⟩ w6 hz).mono ?_
    rw [small_one]
    rintro e w7 ⟨A7, c7, rfl, hy, hbn⟩
    replace hb := below_step hb hbn
    obtain ⟨ad, A0, c0, e0, hc1, hl1, hC1⟩ := at_L2 hy.row (0 : Int) (by omega) (by decide)
    subst e0
    obtain ⟨ad2, rfl, hc2⟩ := Kd.at_int hC1 (0 : Int) (by omega) (by decide)
    clear hbn hz hC1 hl1
    (try rw [show ((0 : Int)).toNat = 0 from rfl] at hc1)
    (try rw [Addr.add_zero'] at hc1)
    (try rw [show ((0 : Int)).toNat = 0 from rfl] at hc2)
    (try rw [Addr.add_zero'] at hc2)
    replace hc1 : w7.cell? ad = some (.slice (some ad2) 1 c0) := hc1
    replace hc2 : w7.cell? ad2 = some (.int .i64 5) := hc2
    go_wp2_with fail
    go_ret
    exact ⟨rfl, hb⟩
  | true =>
    replace hback := hback rfl
    replace hturn := hturn rfl
    replace hgood := hgood rfl
    have hxe := good_even hgood
    have hxn := whole_pos hgood.1
    have hsf : Small f := ⟨hfew.1, hfew.2⟩
    clear hfew hgood
    go_wp2_with fail
    refine (dft_calls p true hsf w4 hf).mono ?_
    replace hback : d2R f p true = (x, true) := hback
    rw [hback]
    rintro e w5 ⟨A5, c5, rfl, hz, hbn⟩
    replace hx := hx.below hbn
    replace hf := hf.below hbn
    replace hb := below_step hb hbn
    clear hbn hback
    go_wp2_with fail
    refine (turned_calls hs hxn hxe w5 hx).mono ?_
    rintro e w6 ⟨A6, c6, rfl, ht, hbn⟩
    replace hx := hx.below hbn
    replace hf := hf.below hbn
    replace hz := hz.below hbn
    replace hb := below_step hb hbn
    clear hbn
    have hst := turn_small hs hxn
    go_wp2_with fail
    refine (dft_calls p false hst w6 ht).mono ?_
    have hfew := d2_few (turnT x) p false
    have hge := even_R (x := turnT x) (p := p) (back := false)
    generalize d2R (turnT x) p false = R at *
    obtain ⟨g, ok⟩ := R
    obtain ⟨h2, h3⟩ := hturn
    replace h2 : ok = true := h2
    replace h3 : turnT g = f := h3
    subst h2
    replace hge := hge rfl
    have hsg : Small g := ⟨hfew.1, hfew.2⟩
    rintro e w7 ⟨A7, c7, rfl, hg, hbn⟩
    replace hx := hx.below hbn
    replace hf := hf.below hbn
    replace hz := hz.below hbn
    replace hb := below_step hb hbn
    clear hbn ht hst hfew
    go_wp2_with fail
    refine (same_calls hs w7 hz hx).mono ?_
    rintro e w8 ⟨rfl, hbn⟩
    replace hg := hg.below hbn
    replace hf := hf.below hbn
    replace hb := below_step hb hbn
    clear hbn hz hx
    go_wp2_with fail
    refine (turned_calls hsg hge.1 hge.2 w8 hg).mono ?_
    rw [h3]
    rintro e w9 ⟨A9, c9, rfl, ht, hbn⟩
    replace hf := hf.below hbn
    replace hb := below_step hb hbn
    clear hbn hg
    go_wp2_with fail
    refine (same_calls hsf w9 ht hf).mono ?_
    rintro e w10 ⟨rfl, hbn⟩
    replace hb := below_step hb hbn
    go_wp2_with fail
    go_ret
    exact ⟨rfl, hb⟩
end Go.Proofs.Ytofegdgcafameaa.TwL
