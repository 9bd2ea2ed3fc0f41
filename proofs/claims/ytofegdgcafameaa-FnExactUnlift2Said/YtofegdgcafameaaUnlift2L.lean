/- The walk of FnExactUnlift2. -/
import Derived.Test.YtofegdgcafameaaLiftZB
import Derived.Test.YtofegdgcafameaaLiftXB
import Derived.Test.YtofegdgcafameaaLiftB
namespace Go.Proofs.Ytofegdgcafameaa.Unlift2L
open Go.RowKit Go.Proofs.Ytofegdgcafameaa.RowWU Go.Proofs.Ytofegdgcafameaa.LiftZB Go.Proofs.Ytofegdgcafameaa.LiftXB Go.Proofs.Ytofegdgcafameaa.LiftB Go.Proofs.Ytofegdgcafameaa.Base Go.Proofs.YtofegdgcafameaaW.PrintWords Go.Proofs.YtofegdgcafameaaW.PrintLast Go.Proofs.YtofegdgcafameaaW.PrintMore
set_option linter.unusedVariables false
set_option linter.unusedSimpArgs false
set_option maxHeartbeats 8000000 in
set_option maxRecDepth 100000 in
theorem law_calls {A : Option Addr} {n c : Nat} {x : List (List Int)} {kind : Int} (w : World) (h : RedS w A n c x) (hm : x.length ≤ maxLen) (hr : ∀ r ∈ x, r.length ≤ maxLen) :
    Calls Try.prog 7 #[.int .i64 kind, .slice A n c] w fun e w' => e = .returned (.bool true) ∧ Below w.heap.size w w' := by
  obtain ⟨v, hv, hsz⟩ := szSS_calls w h hm hr
  go_enter Try.func7, Try.ntmps7
  have hb := Below.refl w.heap.size w
  have h0 := h
  go_wp2_with fail
  refine (hsz _ h).mono ?_
  rintro e w1 ⟨rfl, hbn⟩
  replace h := RedS.below h hbn
  have hz0 := hbn.size
  replace hb := below_step hb hbn
  clear hbn
  clear hsz
  by_cases hneg : v < 0
  · have hneg2 : decide (v < 0) = true := decide_eq_true hneg
    go_wp2_with fail
    go_ret
    exact ⟨rfl, hb⟩
  have hs := hv (by omega)
  have hneg2 : decide (v < 0) = false := decide_eq_false hneg
  clear hv
  have HI : Aside0 (∀ (A : Option Addr) (n c : Nat) (W : World), RedS W A n c x → Calls Try.prog 13 #[.int .i64 kind, .slice A n c] W (RetT (unlift2R kind x) W)) := ⟨fun A n c W h_ => unlift2_calls kind W h_ hs⟩
  have HS : Aside0 (∀ (A : Option Addr) (n c : Nat) (W : World), RedS W A n c x → Calls Try.prog 14 #[.int .i64 kind, .slice A n c] W (RetT (unlift2R kind x) W)) := ⟨fun A n c W h_ => sunlift2_calls kind W h_ hs⟩
  have hsR : Small (unlift2R kind x).1 := unlift2_small kind x hs
  generalize unlift2R kind x = R at *
  go_wp2_with fail
  refine (toSS_calls _ h hs).mono ?_
  rintro e w2 ⟨A3, c3, rfl, o3, hbn⟩
  replace h := RedS.below h hbn
  have hz1 := hbn.size
  replace hb := below_step hb hbn
  clear hbn
  have q3 := o3.red
  clear o3
  go_wp2_with fail
  refine (HS.out _ _ _ _ q3).mono ?_
  rintro e w3 ⟨As, cs, rfl, os, hbn⟩
  replace h := RedS.below h hbn
  replace q3 := RedS.below q3 hbn
  have hz2 := hbn.size
  replace hb := below_step hb hbn
  clear hbn
  clear q3
  go_wp2_with fail
  refine (toSS_calls _ h hs).mono ?_
  rintro e w4 ⟨A10, c10, rfl, o10, hbn⟩
  replace os := OwnS.below os hbn
  replace h := RedS.below h hbn
  have hz3 := hbn.size
  replace hb := below_step hb hbn
  clear hbn
  go_wp2_with fail
  refine (HI.out _ _ _ _ o10.red).mono ?_
  rintro e w5 ⟨Ag, cg, rfl, og, hbn⟩
  replace os := OwnS.below os hbn
  replace o10 := OwnS.below o10 hbn
  replace h := RedS.below h hbn
  have hz4 := hbn.size
  replace hb := below_step hb hbn
  clear hbn
  go_wp2_with fail
  refine (eqSS_calls _ og.red os.red hsR).mono ?_
  rintro e w6 ⟨rfl, hbn⟩
  replace os := OwnS.below os hbn
  replace o10 := OwnS.below o10 hbn
  replace og := OwnS.below og hbn
  replace h := RedS.below h hbn
  have hz5 := hbn.size
  replace hb := below_step hb hbn
  clear hbn
  go_wp2_with fail
  refine (toSS_calls _ h hs).mono ?_
  rintro e w7 ⟨A13, c13, rfl, o13, hbn⟩
  replace os := OwnS.below os hbn
  replace o10 := OwnS.below o10 hbn
  replace og := OwnS.below og hbn
  replace h := RedS.below h hbn
  have hz6 := hbn.size
  replace hb := below_step hb hbn
  clear hbn
  go_wp2_with fail
  refine (eqSS_calls _ o10.red o13.red hs).mono ?_
  rintro e w8 ⟨rfl, hbn⟩
  replace os := OwnS.below os hbn
  replace o10 := OwnS.below o10 hbn
  replace og := OwnS.below og hbn
  replace o13 := OwnS.below o13 hbn
  replace h := RedS.below h hbn
  have hz7 := hbn.size
  replace hb := below_step hb hbn
  clear hbn
  clear o13
  clear h
  go_wp2_with fail
  refine (markSS_calls w _ hb (o10.lower (by omega)) hs (by omega) (by omega)).mono ?_
  rintro e w9 ⟨rfl, om, hbm, hsp⟩
  replace os := os.span hsp (by omega)
  replace og := og.span hsp (by omega)
  have hz8 := hsp.out.1
  replace hb := hbm
  clear hbm hsp o10
  have o10 := om
  clear om
  clear o10
  go_wp2_with fail
  refine (eqSS_calls _ og.red os.red hsR).mono ?_
  rintro e w10 ⟨rfl, hbn⟩
  replace os := OwnS.below os hbn
  replace og := OwnS.below og hbn
  have hz9 := hbn.size
  replace hb := below_step hb hbn
  clear hbn
  go_wp2_with fail
  refine (markSS_calls w _ hb (og.lower (by omega)) hsR (by omega) (by omega)).mono ?_
  rintro e w11 ⟨rfl, om, hbm, hsp⟩
  replace os := os.span hsp (by omega)
  have hz10 := hsp.out.1
  replace hb := hbm
  clear hbm hsp og
  have og := om
  clear om
  go_wp2_with fail
  refine (heldSS_calls _ og.red hsR (by omega) (by omega)).mono ?_
  rintro e w12 ⟨rfl, hbn⟩
  replace os := OwnS.below os hbn
  replace og := OwnS.below og hbn
  have hz11 := hbn.size
  replace hb := below_step hb hbn
  clear hbn
  go_wp2_with fail
  refine (toSS_calls _ (h0.below hb) hs).mono ?_
  rintro e w13 ⟨A14, c14, rfl, o14, hbn⟩
  replace os := OwnS.below os hbn
  replace og := OwnS.below og hbn
  have hz12 := hbn.size
  replace hb := below_step hb hbn
  clear hbn
  have q14 := o14.red
  clear o14
  go_wp2_with fail
  refine (HI.out _ _ _ _ q14).mono ?_
  rintro e w14 ⟨Ah, ch, rfl, oh, hbn⟩
  replace os := OwnS.below os hbn
  replace og := OwnS.below og hbn
  replace q14 := RedS.below q14 hbn
  have hz13 := hbn.size
  replace hb := below_step hb hbn
  clear hbn
  clear q14
  go_wp2_with fail
  refine (eqSS_calls _ oh.red os.red hsR).mono ?_
  rintro e w15 ⟨rfl, hbn⟩
  replace os := OwnS.below os hbn
  replace og := OwnS.below og hbn
  replace oh := OwnS.below oh hbn
  have hz14 := hbn.size
  replace hb := below_step hb hbn
  clear hbn
  go_wp2_with fail
  refine (heldSS_calls _ og.red hsR (by omega) (by omega)).mono ?_
  rintro e w16 ⟨rfl, hbn⟩
  replace os := OwnS.below os hbn
  replace og := OwnS.below og hbn
  replace oh := OwnS.below oh hbn
  have hz15 := hbn.size
  replace hb := below_step hb hbn
  clear hbn
  go_wp2_with fail
  go_ret
  exact ⟨rfl, hb⟩
end Go.Proofs.Ytofegdgcafameaa.Unlift2L
