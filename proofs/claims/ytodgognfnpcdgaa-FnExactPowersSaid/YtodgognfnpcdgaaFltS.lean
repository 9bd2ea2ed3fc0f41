/- The walk of FnExactPowers. -/
import Derived.Test.YtodgognfnpcdgaaFltR
namespace Go.Proofs.Ytodgognfnpcdgaa.FltS
open Go.RowKit Go.Proofs.Ytodgognfnpcdgaa.Flt Go.Proofs.Ytodgognfnpcdgaa.FltA Go.Proofs.Ytodgognfnpcdgaa.FltB Go.Proofs.Ytodgognfnpcdgaa.FltD Go.Proofs.Ytodgognfnpcdgaa.FltN Go.Proofs.Ytodgognfnpcdgaa.FltO Go.Proofs.Ytodgognfnpcdgaa.FltP Go.Proofs.Ytodgognfnpcdgaa.FltQ Go.Proofs.Ytodgognfnpcdgaa.FltR Go.Proofs.YtodgognfnpcdgaaW.PrintWords Go.Proofs.YtodgognfnpcdgaaW.PrintLast Go.Proofs.YtodgognfnpcdgaaW.PrintMore
set_option linter.unusedVariables false
set_option linter.unusedSimpArgs false
attribute [local go_sem] run_store_float

theorem FOwn.lower {w : World} {base base' : Nat} {e : TypeId} {sz n : Nat} {v : Value} {bs : List Nat} (h : FOwn w base e sz v n bs) (hb : base' ≤ base) : FOwn w base' e sz v n bs := ⟨own_weaken h.out hb⟩
theorem FOwn.only {w w1 : World} {base : Nat} {e : TypeId} {sz n : Nat} {v u : Value} {bs : List Nat} (h : FOwn w base e sz v n bs) (ho : Only w w1 u) (hne : ∀ i, v.ownBlock = some i → some i ≠ u.ownBlock) : FOwn w1 base e sz v n bs :=
  ⟨own_move h.out (fun k hk => ho.2 k (own_lt h.out k hk) (hne k hk))⟩
theorem FOwn.len {w : World} {base : Nat} {e : TypeId} {n : Nat} {v : Value} {bs : List Nat} (h : FOwn w base e 1 v n bs) : bs.length = n := by simpa using h.out.1
theorem FOwn.blocks {w : World} {base : Nat} {e : TypeId} {sz n : Nat} {v : Value} {bs : List Nat} (h : FOwn w base e sz v n bs) : ∀ i, v.ownBlock = some i → base ≤ i ∧ i < w.heap.size := fun i hi => ⟨own_base h.out i hi, own_lt h.out i hi⟩
theorem powersC_len (bs : List Nat) (n : Nat) : (powersC bs n).length ≤ 128 := by
  unfold powersC
  split
  · simpa [pwsC]
  · simp

/-- the law's argument, in a world that has grown from w -/
structure Arg (w : World) (A : Option Addr) (c n : Nat) (bs : List Nat) : Prop where
  row : Flat w A (n * 2) bs
  cap : n ≤ c
  small : n ≤ maxLen

set_option maxHeartbeats 4000000 in
theorem exactPowers_calls {A : Option Addr} {c n : Nat} {bs : List Nat} (w : World) (h : Arg w A c n bs) :
    Calls Try.prog 6 #[.slice A n c] w fun e w' => e = .returned (.bool true) ∧ Below w.heap.size w w' := by
  obtain ⟨hA, hc, hm⟩ := h
  by_cases hn : n ≤ 1048576
  · have hlen := powersC_len bs n
    generalize hX : powersC bs n = X at *
    have HX := Lib.hid hX
    clear hX
    go_enter Try.func6, Try.ntmps6
    go_wp2_with fail
    refine (sz_calls A c n _ hm).mono ?_
    rw [if_pos hn]
    rintro e w1 ⟨rfl, rfl⟩
    go_wp2_with fail
    refine (toPairs_calls A c n bs _ hA hc (by omega)).mono ?_
    rintro e w1 ⟨va, rfl, oa, hb⟩
    obtain ⟨Aa, ca, rfl, hca, fa⟩ := oa.flat
    clear oa
    go_wp2_with fail
    refine (spowers_calls Aa ca n bs _ fa hca (by omega)).mono ?_
    rw [HX.out]
    rintro e w2 ⟨vs, ns, rs, rfl, os, hrs, hb2⟩
    have hns : ns = X.length := by rw [← FOwn.len os, ← hrs, List.length_map]
    have HRS := Lib.hid hrs
    clear hrs
    have bks := FOwn.blocks os
    have hz1 := hb.size
    replace hb := below_step hb hb2
    obtain ⟨As, cs, rfl, hcs, fs⟩ := os.flat
    have hz2 := hb2.size
    clear hb2 fa hca
    have hns1 : ns ≤ 128 := by omega
    have HNS := Lib.hid hns
    clear hns
    go_wp2_with fail
    refine (toPairs_calls A c n bs _ (hA.below hb) hc (by omega)).mono ?_
    rintro e w3 ⟨vx, rfl, ox, hb3⟩
    have bkx := FOwn.blocks ox
    replace os := FOwn.below os hb3
    replace hb := below_step hb hb3
    have hz3 := hb3.size
    obtain ⟨Ax, cx, rfl, hcx, fx⟩ := ox.flat
    clear hb3 fs
    go_wp2_with fail
    refine (ipowers_calls Ax cx n bs _ fx hcx (by omega)).mono ?_
    rw [HX.out]
    rintro e w4 ⟨vg, ng, rg, rfl, og, hrg, hb4⟩
    have hng : ng = X.length := by rw [← FOwn.len og, ← hrg, List.length_map]
    obtain rfl : ng = ns := by rw [hng, HNS.out]
    clear hng
    have bkg := FOwn.blocks og
    replace os := FOwn.below os hb4
    replace ox := FOwn.below ox hb4
    replace hb := below_step hb hb4
    have hz4 := hb4.size
    obtain ⟨Ag, cg, rfl, hcg, fg⟩ := og.flat
    obtain ⟨As', cs', es, hcs', fs⟩ := os.flat
    obtain ⟨rfl, -, rfl⟩ : As = As' ∧ True ∧ cs = cs' := by injection es with e1 e2 e3; exact ⟨e1, trivial, e3⟩
    have hcl : rg.map cls = rs.map cls := by rw [hrg, HRS.out]
    have HCL := Lib.hid hcl
    have HRG := Lib.hid hrg
    clear hb4 fx es hcs' hcl hrg
    go_wp2_with fail
    refine (eqFloats_calls Ag As cg cs ng rg rs HCL.out _ (by simpa using fg) (by simpa using fs) hcg hcs (by omega)).mono ?_
    rintro e w5 ⟨rfl, hb5⟩
    replace os := FOwn.below os hb5
    replace ox := FOwn.below ox hb5
    replace og := FOwn.below og hb5
    replace hb := below_step hb hb5
    have hz5 := hb5.size
    clear hb5 fg fs
    go_wp2_with fail
    refine (toPairs_calls A c n bs _ (hA.below hb) hc (by omega)).mono ?_
    rintro e w6 ⟨vy, rfl, oy, hb6⟩
    replace os := FOwn.below os hb6
    replace ox := FOwn.below ox hb6
    replace og := FOwn.below og hb6
    replace hb := below_step hb hb6
    have hz6 := hb6.size
    obtain ⟨Ay, cy, rfl, hcy, fy⟩ := oy.flat
    obtain ⟨Ax', cx', ex, hcx', fx⟩ := ox.flat
    obtain ⟨rfl, -, rfl⟩ : Ax = Ax' ∧ True ∧ cx = cx' := by injection ex with e1 e2 e3; exact ⟨e1, trivial, e3⟩
    clear hb6 oy ex hcx'
    go_wp2_with fail
    refine (eqPairs_calls Ax Ay cx cy n bs bs rfl _ fx fy hcx hcy (by omega)).mono ?_
    rintro e w7 ⟨rfl, hb7⟩
    replace os := FOwn.below os hb7
    replace ox := FOwn.below ox hb7
    replace og := FOwn.below og hb7
    replace hb := below_step hb hb7
    have hz7 := hb7.size
    clear hb7 fx fy
    go_wp2_with fail
    refine (markPairs_calls (.slice Ax n cx) n bs w.heap.size w _ 1 (FOwn.lower ox (by omega)) hb (by omega) (by omega) (by omega)).mono ?_
    rintro e w8 ⟨rfl, hb8, hon8⟩
    replace os := FOwn.only os hon8 (fun i hi hx => by have h1 := bks i hi; have h2 := bkx i hx.symm; omega)
    replace og := FOwn.only og hon8 (fun i hi hx => by have h1 := bkg i hi; have h2 := bkx i hx.symm; omega)
    have hz8 := hon8.1
    obtain ⟨Ag', cg', eg, hcg', fg⟩ := og.flat
    obtain ⟨rfl, -, rfl⟩ : Ag = Ag' ∧ True ∧ cg = cg' := by injection eg with e1 e2 e3; exact ⟨e1, trivial, e3⟩
    obtain ⟨As', cs', es, hcs', fs⟩ := os.flat
    obtain ⟨rfl, -, rfl⟩ : As = As' ∧ True ∧ cs = cs' := by injection es with e1 e2 e3; exact ⟨e1, trivial, e3⟩
    clear hb hon8 ox eg es hcg' hcs' bkx
    have hb := hb8
    clear hb8
    go_wp2_with fail
    refine (eqFloats_calls Ag As cg cs ng rg rs HCL.out _ (by simpa using fg) (by simpa using fs) hcg hcs (by omega)).mono ?_
    rintro e w9 ⟨rfl, hb9⟩
    replace os := FOwn.below os hb9
    replace og := FOwn.below og hb9
    replace hb := below_step hb hb9
    have hz9 := hb9.size
    clear hb9 fg fs
    go_wp2_with fail
    refine (markFloats_calls (.slice Ag ng cg) ng rg w.heap.size w _ 1 (FOwn.lower og (by omega)) hb (by omega) (by omega) (by omega)).mono ?_
    rintro e w10 ⟨rfl, og2, hb10, hon10⟩
    replace os := FOwn.only os hon10 (fun i hi hx => by have h1 := bks i hi; have h2 := bkg i hx.symm; omega)
    have hz10 := hon10.1
    obtain ⟨Ag', cg', eg, hcg', fg⟩ := og2.flat
    obtain ⟨rfl, -, rfl⟩ : Ag = Ag' ∧ True ∧ cg = cg' := by injection eg with e1 e2 e3; exact ⟨e1, trivial, e3⟩
    clear hb hon10 og eg hcg'
    have hb := hb10
    clear hb10
    go_wp2_with fail
    refine (heldFloats_calls Ag cg ng _ 1 (by simpa using fg) hcg (by omega) (by omega) (by omega)).mono ?_
    rintro e w11 ⟨rfl, hb11⟩
    replace os := FOwn.below os hb11
    replace fg := fg.below hb11
    replace hb := below_step hb hb11
    have hz11 := hb11.size
    clear hb11 og2
    go_wp2_with fail
    refine (toPairs_calls A c n bs _ (hA.below hb) hc (by omega)).mono ?_
    rintro e w12 ⟨vz, rfl, oz, hb12⟩
    obtain ⟨Az, cz, rfl, hcz, fz⟩ := oz.flat
    replace os := FOwn.below os hb12
    replace fg := fg.below hb12
    replace hb := below_step hb hb12
    clear hb12 oz
    go_wp2_with fail
    refine (ipowers_calls Az cz n bs _ fz hcz (by omega)).mono ?_
    rw [HX.out]
    rintro e w13 ⟨vh, nh, rh, rfl, oh, hrh, hb13⟩
    have hnh : nh = ng := by rw [HNS.out, ← FOwn.len oh, ← hrh, List.length_map]
    subst hnh
    replace os := FOwn.below os hb13
    replace fg := fg.below hb13
    replace hb := below_step hb hb13
    obtain ⟨Ah, ch, rfl, hch, fh⟩ := oh.flat
    obtain ⟨As', cs', es, hcs', fs⟩ := os.flat
    obtain ⟨rfl, -, rfl⟩ : As = As' ∧ True ∧ cs = cs' := by injection es with e1 e2 e3; exact ⟨e1, trivial, e3⟩
    have HRH := Lib.hid hrh
    clear hb13 es hcs' fz hcz oh hrh
    go_wp2_with fail
    refine (eqFloats_calls Ah As ch cs nh rh rs (by rw [HRH.out, HRS.out]) _ (by simpa using fh) (by simpa using fs) hch hcs (by omega)).mono ?_
    rintro e w14 ⟨rfl, hb14⟩
    replace fg := fg.below hb14
    replace hb := below_step hb hb14
    clear hb14 fh fs os
    go_wp2_with fail
    refine (heldFloats_calls Ag cg nh _ 1 (by simpa using fg) hcg (by omega) (by omega) (by omega)).mono ?_
    rintro e w15 ⟨rfl, hb15⟩
    replace hb := below_step hb hb15
    clear hb15 fg
    go_wp2_with fail
    go_ret
    exact ⟨rfl, hb⟩
  · go_enter Try.func6, Try.ntmps6
    go_wp2_with fail
    refine (sz_calls A c n _ hm).mono ?_
    rw [if_neg hn]
    rintro e w1 ⟨rfl, rfl⟩
    go_wp2_with fail
    go_ret
    exact ⟨rfl, Below.refl _ _⟩
end Go.Proofs.Ytodgognfnpcdgaa.FltS
