/- The walk of FnExactAverage. -/
import Derived.Test.YtodgognfnpcdgaaFltW
namespace Go.Proofs.Ytodgognfnpcdgaa.FltY
open Go.RowKit Go.Proofs.Ytodgognfnpcdgaa.Flt Go.Proofs.Ytodgognfnpcdgaa.FltA Go.Proofs.Ytodgognfnpcdgaa.FltB Go.Proofs.Ytodgognfnpcdgaa.FltD Go.Proofs.Ytodgognfnpcdgaa.FltN Go.Proofs.Ytodgognfnpcdgaa.FltO Go.Proofs.Ytodgognfnpcdgaa.FltP Go.Proofs.Ytodgognfnpcdgaa.FltQ Go.Proofs.Ytodgognfnpcdgaa.FltR Go.Proofs.Ytodgognfnpcdgaa.FltT Go.Proofs.Ytodgognfnpcdgaa.FltU Go.Proofs.Ytodgognfnpcdgaa.FltV Go.Proofs.Ytodgognfnpcdgaa.FltW Go.Proofs.YtodgognfnpcdgaaW.PrintWords Go.Proofs.YtodgognfnpcdgaaW.PrintLast Go.Proofs.YtodgognfnpcdgaaW.PrintMore
set_option linter.unusedVariables false
set_option linter.unusedSimpArgs false
attribute [local go_sem] run_store_float

theorem FOwn.span {w w1 : World} {base lo hi : Nat} {e : TypeId} {sz n : Nat} {v : Value} {bs : List Nat} (h : FOwn w base e sz v n bs) (ho : Span w w1 lo hi) (hne : ∀ i, v.ownBlock = some i → ¬ (lo ≤ i ∧ i < hi)) : FOwn w1 base e sz v n bs :=
  ⟨own_move h.out (fun k hk => ho.2 k (own_lt h.out k hk) (hne k hk))⟩
theorem average_len (xs : List (List Nat)) (n : Nat) : (averageC xs n).1.length ≤ 128 := by
  unfold averageC
  split
  · rename_i h
    have := (h.2 0 (by have := h.1.1; omega)).2
    simpa [avgsC] using this
  · simp

/-- the law's argument, in a world that has grown from w -/
structure Arg (w : World) (A : Option Addr) (c n : Nat) (xs : List (List Nat)) : Prop where
  row : rowP.C w A n xs
  cap : n ≤ c
  small : n ≤ maxLen
  rows : ∀ i, i < n → (xs.getD i []).length / 2 ≤ maxLen

set_option maxHeartbeats 4000000 in
theorem exactAverage_calls {A : Option Addr} {c n : Nat} {xs : List (List Nat)} (w : World) (h : Arg w A c n xs) :
    Calls Try.prog 7 #[.slice A n c] w fun e w' => e = .returned (.bool true) ∧ Below w.heap.size w w' := by
  obtain ⟨hA, hc, hm, hrm⟩ := h
  have hlen := average_len xs n
  generalize hX : averageC xs n = X at *
  obtain ⟨X, bX⟩ := X
  have HX := Lib.hid hX
  replace hlen : X.length ≤ 128 := hlen
  clear hX
  go_enter Try.func7, Try.ntmps7
  go_wp2_with fail
  refine (szRows_calls w hA hc hm hrm).mono ?_
  rintro e w0 ⟨v, rfl, hsm, hb⟩
  have HRM := Lib.hid hrm
  clear hrm
  by_cases hneg : v < 0
  · have hneg2 : decide (v < 0) = true := decide_eq_true hneg
    go_wp2_with fail
    go_ret
    exact ⟨rfl, hb⟩
  have hs := hsm (by omega)
  have hneg2 : decide (v < 0) = false := decide_eq_false hneg
  have hfew := hs.few
  have hoff := hs.o
  have hxl : xs.length = n := hA.1
  clear hsm hm
  go_wp2_with fail
  refine (toRows_calls _ (Kd.C_below hA hb) hc hs).mono ?_
  rintro e w1 ⟨va, rfl, oa, hb1⟩
  obtain ⟨Aa, ca, rfl⟩ := Kd.S_slice oa
  obtain ⟨-, hca, fa⟩ := Kd.S_reads' oa
  rw [hxl] at hca fa ⊢
  replace hb := below_step hb hb1
  clear oa hb1
  go_wp2_with fail
  refine (savg_calls _ fa hca hs).mono ?_
  rw [HX.out]
  rintro e w2 ⟨vs, ns, rs, rfl, os, hrs, hb2⟩
  replace hrs : rs.map cls = X := hrs
  have hns : ns = X.length := by rw [← FOwn.len os, ← hrs, List.length_map]
  have HRS := Lib.hid hrs
  clear hrs
  have bks := FOwn.blocks os
  have hz1 := hb.size
  replace hb := below_step hb hb2
  obtain ⟨As, cs, rfl, hcs, fs⟩ := os.flat
  have hz2 := hb2.size
  clear hb2 fa hca
  have hns1 : ns ≤ 128 := by omega
  have HNS := Lib.hid hns
  clear hns
  go_wp2_with fail
  refine (toRows_calls _ (Kd.C_below hA hb) hc hs).mono ?_
  rintro e w3 ⟨vx, rfl, ox, hb3⟩
  have oX := Kd.S_mono (Kd.S_bound ox) (ok' := fun k => w2.heap.size ≤ k ∧ k < w3.heap.size) (fun k hk => ⟨hk.2.1, hk.2.2.1⟩)
  replace os := FOwn.below os hb3
  replace hb := below_step hb hb3
  have hz3 := hb3.size
  obtain ⟨Ax, cx, rfl⟩ := Kd.S_slice ox
  obtain ⟨-, hcx, fx⟩ := Kd.S_reads' ox
  rw [hxl] at hcx fx oX ⊢
  clear hb3 fs ox
  go_wp2_with fail
  refine (iavg_calls _ fx hcx hs).mono ?_
  rw [HX.out]
  rintro e w4 ⟨vg, ng, rg, rfl, og, hrg, hb4⟩
  replace hrg : rg.map cls = X := hrg
  have hng : ng = X.length := by rw [← FOwn.len og, ← hrg, List.length_map]
  obtain rfl : ng = ns := by rw [hng, HNS.out]
  clear hng
  have bkg := FOwn.blocks og
  replace os := FOwn.below os hb4
  replace oX := Kd.S_below oX hb4
  replace hb := below_step hb hb4
  have hz4 := hb4.size
  obtain ⟨Ag, cg, rfl, hcg, fg⟩ := og.flat
  obtain ⟨As', cs', es, hcs', fs⟩ := os.flat
  obtain ⟨rfl, -, rfl⟩ : As = As' ∧ True ∧ cs = cs' := by injection es with e1 e2 e3; exact ⟨e1, trivial, e3⟩
  have hcl : rg.map cls = rs.map cls := by rw [hrg, HRS.out]
  have HCL := Lib.hid hcl
  have HRG := Lib.hid hrg
  clear hb4 fx es hcs' hcl hrg
  go_wp2_with fail
  refine (eqFloats_calls Ag As cg cs ng rg rs HCL.out _ (by simpa using fg) (by simpa using fs) hcg hcs (by omega)).mono ?_
  rintro e w5 ⟨rfl, hb5⟩
  replace os := FOwn.below os hb5
  replace oX := Kd.S_below oX hb5
  replace og := FOwn.below og hb5
  replace hb := below_step hb hb5
  have hz5 := hb5.size
  clear hb5 fg fs
  go_wp2_with fail
  refine (toRows_calls _ (Kd.C_below hA hb) hc hs).mono ?_
  rintro e w6 ⟨vy, rfl, oy, hb6⟩
  replace os := FOwn.below os hb6
  replace oX := Kd.S_below oX hb6
  replace og := FOwn.below og hb6
  replace hb := below_step hb hb6
  have hz6 := hb6.size
  obtain ⟨Ay, cy, rfl⟩ := Kd.S_slice oy
  obtain ⟨-, hcy, fy⟩ := Kd.S_reads' oy
  obtain ⟨-, -, fx⟩ := Kd.S_reads' oX
  rw [hxl] at hcy fy fx ⊢
  clear hb6 oy
  go_wp2_with fail
  refine (eqRows_calls Ax Ay cx cy n xs _ fx fy hcx hcy hs).mono ?_
  rintro e w7 ⟨rfl, hb7⟩
  replace os := FOwn.below os hb7
  replace oX := Kd.S_below oX hb7
  replace og := FOwn.below og hb7
  replace hb := below_step hb hb7
  have hz7 := hb7.size
  clear hb7 fx fy
  go_wp2_with fail
  refine (markRows_calls w _ hb (Kd.S_lower oX (by omega)) hxl hs).mono ?_
  rintro e w8 ⟨rfl, hb8, hon8⟩
  replace os := FOwn.span os hon8 (fun i hi => by have h1 := bks i hi; omega)
  replace og := FOwn.span og hon8 (fun i hi => by have h1 := bkg i hi; omega)
  have hz8 := hon8.1
  obtain ⟨Ag', cg', eg, hcg', fg⟩ := og.flat
  obtain ⟨rfl, -, rfl⟩ : Ag = Ag' ∧ True ∧ cg = cg' := by injection eg with e1 e2 e3; exact ⟨e1, trivial, e3⟩
  obtain ⟨As', cs', es, hcs', fs⟩ := os.flat
  obtain ⟨rfl, -, rfl⟩ : As = As' ∧ True ∧ cs = cs' := by injection es with e1 e2 e3; exact ⟨e1, trivial, e3⟩
  clear hb hon8 oX eg es hcg' hcs'
  have hb := hb8
  clear hb8
  have hk2 : decide (1 + 2 * (offB xs n : Int) < 0) = false := decide_eq_false (by omega)
  go_wp2_with fail
  refine (eqFloats_calls Ag As cg cs ng rg rs HCL.out _ (by simpa using fg) (by simpa using fs) hcg hcs (by omega)).mono ?_
  rintro e w9 ⟨rfl, hb9⟩
  replace os := FOwn.below os hb9
  replace og := FOwn.below og hb9
  replace hb := below_step hb hb9
  have hz9 := hb9.size
  clear hb9 fg fs
  go_wp2_with fail
  refine (markFloats_calls (.slice Ag ng cg) ng rg w.heap.size w _ 1 (FOwn.lower og (by omega)) hb (by omega) (by omega) (by omega)).mono ?_
  rintro e w10 ⟨rfl, og2, hb10, hon10⟩
  replace os := FOwn.only os hon10 (fun i hi hx => by have h1 := bks i hi; have h2 := bkg i hx.symm; omega)
  have hz10 := hon10.1
  obtain ⟨Ag', cg', eg, hcg', fg⟩ := og2.flat
  obtain ⟨rfl, -, rfl⟩ : Ag = Ag' ∧ True ∧ cg = cg' := by injection eg with e1 e2 e3; exact ⟨e1, trivial, e3⟩
  clear hb hon10 og eg hcg'
  have hb := hb10
  clear hb10
  go_wp2_with fail
  refine (heldFloats_calls Ag cg ng _ 1 (by simpa using fg) hcg (by omega) (by omega) (by omega)).mono ?_
  rintro e w11 ⟨rfl, hb11⟩
  replace os := FOwn.below os hb11
  replace fg := fg.below hb11
  replace hb := below_step hb hb11
  have hz11 := hb11.size
  clear hb11 og2
  go_wp2_with fail
  refine (toRows_calls _ (Kd.C_below hA hb) hc hs).mono ?_
  rintro e w12 ⟨vz, rfl, oz, hb12⟩
  obtain ⟨Az, cz, rfl⟩ := Kd.S_slice oz
  obtain ⟨-, hcz, fz⟩ := Kd.S_reads' oz
  rw [hxl] at hcz fz ⊢
  replace os := FOwn.below os hb12
  replace fg := fg.below hb12
  replace hb := below_step hb hb12
  clear hb12 oz
  go_wp2_with fail
  refine (iavg_calls _ fz hcz hs).mono ?_
  rw [HX.out]
  rintro e w13 ⟨vh, nh, rh, rfl, oh, hrh, hb13⟩
  replace hrh : rh.map cls = X := hrh
  have hnh : nh = ng := by rw [HNS.out, ← FOwn.len oh, ← hrh, List.length_map]
  subst hnh
  replace os := FOwn.below os hb13
  replace fg := fg.below hb13
  replace hb := below_step hb hb13
  obtain ⟨Ah, ch, rfl, hch, fh⟩ := oh.flat
  obtain ⟨As', cs', es, hcs', fs⟩ := os.flat
  obtain ⟨rfl, -, rfl⟩ : As = As' ∧ True ∧ cs = cs' := by injection es with e1 e2 e3; exact ⟨e1, trivial, e3⟩
  have HRH := Lib.hid hrh
  clear hb13 es hcs' fz hcz oh hrh
  go_wp2_with fail
  refine (eqFloats_calls Ah As ch cs nh rh rs (by rw [HRH.out, HRS.out]) _ (by simpa using fh) (by simpa using fs) hch hcs (by omega)).mono ?_
  rintro e w14 ⟨rfl, hb14⟩
  replace fg := fg.below hb14
  replace hb := below_step hb hb14
  clear hb14 fh fs os
  go_wp2_with fail
  refine (heldFloats_calls Ag cg nh _ 1 (by simpa using fg) hcg (by omega) (by omega) (by omega)).mono ?_
  rintro e w15 ⟨rfl, hb15⟩
  replace hb := below_step hb hb15
  clear hb15 fg
  go_wp2_with fail
  go_ret
  exact ⟨rfl, hb⟩
end Go.Proofs.Ytodgognfnpcdgaa.FltY
