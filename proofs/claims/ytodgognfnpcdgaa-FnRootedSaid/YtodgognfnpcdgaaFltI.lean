/- The walk of FnRooted. -/
import Derived.Test.YtodgognfnpcdgaaFltH
namespace Go.Proofs.Ytodgognfnpcdgaa.FltI
open Go.RowKit Go.Proofs.Ytodgognfnpcdgaa.Flt Go.Proofs.Ytodgognfnpcdgaa.FltA Go.Proofs.Ytodgognfnpcdgaa.FltB Go.Proofs.Ytodgognfnpcdgaa.FltC Go.Proofs.Ytodgognfnpcdgaa.FltD Go.Proofs.Ytodgognfnpcdgaa.FltF Go.Proofs.Ytodgognfnpcdgaa.FltG Go.Proofs.Ytodgognfnpcdgaa.FltH Go.Proofs.YtodgognfnpcdgaaW.PrintWords Go.Proofs.YtodgognfnpcdgaaW.PrintLast Go.Proofs.YtodgognfnpcdgaaW.PrintMore Go.Proofs.Ytodgognfnpcdgaa.PFnDivided
set_option linter.unusedVariables false
set_option linter.unusedSimpArgs false
attribute [local go_sem] run_store_float

theorem at_fix {A : Option Addr} {c : Nat} {l : List Int} (w0 : World) (h : Code0 w0 A c l) (i v : Int) (hv : laws_at.f l i = some v) (w : World) (hb : Below w0.heap.size w0 w) :
    Calls Try.prog 11 #[.slice A l.length c, .int .i64 i] w fun e w' => e = .returned (.int .i64 v) ∧ Below w.heap.size w w' := by
  refine (laws_at.calls A c l i v w (Kd.C_below h.row hb) h.cap hv).mono ?_
  rintro e w' ⟨rfl, ⟨n, rfl⟩⟩
  exact ⟨rfl, by repeat (first | exact Below.refl _ _ | apply pw_below_drewN)⟩

/-- the drawn roots -/
def Drawn (w : World) (k : Nat) (v : Value) (wr : World) : Prop := ∃ ws : List (Int × Int), ws.length ≤ k ∧ k ≤ ws.length ∧ AllFit ws 2 ∧ cx.R 26 wr w.heap.size (fun _ => True) v ws ∧ Below w.heap.size w wr

set_option maxHeartbeats 2000000 in
theorem rooted_calls {A : Option Addr} {c : Nat} {l : List Int} (w : World) (h : Code0 w A c l) :
    Calls Try.prog 5 #[.slice A l.length c] w fun e w' => e = .returned (.bool true) ∧ Below w.heap.size w w' := by
  by_cases hbig : (l.length : Int) > 1048576
  · go_enter Try.func5, Try.ntmps5
    go_wp2_with (go_at_call 8; refine (laws_big.calls A c l true w h.row h.cap (by unfold laws_big.f; rw [decide_eq_true hbig])).mono ?_; rintro e w' ⟨rfl, ⟨n, rfl⟩⟩)
    go_ret
    exact ⟨rfl, by repeat (first | exact Below.refl _ _ | apply below_alloc | apply below_drew1 | apply pw_below_drewN)⟩
  · obtain ⟨v0, hv0, hv1, hv2⟩ := at_ok l 0 h.small h.wf (by omega) (by omega)
    go_enter Try.func5, Try.ntmps5
    go_wp2_with (first
      | (go_at_call 8; refine (laws_big.calls A c l false w h.row h.cap (by unfold laws_big.f; rw [decide_eq_false hbig])).mono ?_; rintro e w' ⟨rfl, ⟨n, rfl⟩⟩)
      | ((with_reducible refine gate_dst (N := 9) rfl ?_); refine Kd.R_lit cx (w0 := w) w.heap.size 26 ?hg (N := 9) ?hd (xs := ([] : List (Int × Int))) (inner := []) (ok := fun _ => True) (okp := fun _ => True) ?hr ?hp (fun _ hk => hk) trivial ?hB ?hS (by simp) ?_; (case hd => rfl); (case hg => rfl); (case hr => first | (go_simp; done) | (go_simp; rfl)); (case hp => exact Reps.none _ _); (case hB => (repeat (first | exact Below.refl _ _ | apply pw_below_drewN))); (case hS => (simp; done)); intro v1 w1 ho1 hb1 hg1 hnew1; clear hg1 hnew1))
    go_loopw [3, 4] (fun v i wr => ∃ k : Nat, (k : Int) ≤ 1 + v0 % 8 ∧ i = .int .i64 k ∧ Drawn w k v wr) (fun _ i _ => ((1 + v0 % 8) - intOf i).toNat)
    case atStart => exact ⟨0, by omega, rfl, [], by simp, by simp, fun x hx => by simp at hx, ho1, hb1⟩
    case round =>
      clear ho1 hb1 w1
      obtain ⟨k, hk, rfl, ws, hl1, hl2, hW, ho, hb⟩ := hrel
      by_cases hlt : (k : Int) < 1 + v0 % 8
      · go_wp2_with fail
        refine (at_fix w h 0 v0 hv0 _ hb).mono ?_
        rintro e w2 ⟨rfl, hb2⟩
        replace ho := Kd.R_below ho hb2
        replace hb := below_step hb hb2
        clear hb2
        go_wp2_with fail
        refine (gauss_calls w h (2 * (k : Int) + 1) (by omega) (by omega) _ hb).mono ?_
        rintro e w3 ⟨z, hz, p, q, rfl, hp, hq, hb3⟩
        replace ho := Kd.R_below ho hb3
        replace hb := below_step hb hb3
        clear hb3
        go_wp2_with ((with_reducible refine gate_builtin (b := .append) (xs := #[.tmp 18, .tmp 24]) rfl ?_); at_builtin; refine Kd.R_append cx (w0 := w) w.heap.size rfl (.tmp 18) (.tmp 24) 33 26 (.agg #[.float .f64 0, .float .f64 0]) 16 rfl Try.underlying33 info26 rfl (by decide) (by omega) u3 ws z [.float .f64 p, .float .f64 q] (fun _ => True) (fun _ => False) rfl rfl ?aP (fun _ hk => hk.elim) ?aF ?aO ?aB ?aS ?aL ?_; (case aP => exact ⟨_, _, rfl, hp, hq⟩); (case aB => exact hb); (case aF => exact (fun _ _ => trivial)); (case aO => exact ho); (case aS => exact hb.size); (case aL => omega); intro v9 w9 ho9 hb9 hg9 hat9; clear hg9 hat9)
        go_roundw
        case rel => exact ⟨k + 1, by omega, by go_num, ws ++ [z], by simp; omega, by simp; omega, fun x hx => by
          rcases List.mem_append.1 hx with hx | hx
          · exact hW x hx
          · have : x = z := by simpa using hx
            subst this
            exact hz, ho9, hb9⟩
        case measure => (simp [intOf]; try omega)
      · obtain ⟨Ar, cr, rfl, hcr, hCr⟩ := Kd.R_reads ho
        have hk8 : ws.length ≤ 8 := by omega
        have hk1 : 1 ≤ ws.length := by omega
        clear ho
        go_wp2_with fail
        refine (at_fix w h 0 v0 hv0 _ hb).mono ?_
        rintro e w2 ⟨rfl, hb2⟩
        replace hCr := Kd.C_below hCr hb2
        replace hb := below_step hb hb2
        clear hb2
        go_wp2_with fail
        refine (roots_calls Ar cr ws _ hCr hcr hk8 hW).mono ?_
        rintro e w3 ⟨vp, rfl, hop, hb3⟩
        replace hCr := Kd.C_below hCr hb3
        replace hb := below_step hb hb3
        clear hb3
        obtain ⟨Ap, cp, rfl, hcp, hCp⟩ := Kd.R_reads hop
        clear hop
        have htop : Top (rootsC [oneC] ws) := roots_top _ _ ⟨[], rfl⟩
        have hroot : ∀ x ∈ ws, evalC x (rootsC [oneC] ws) = zeroC := fun x hx => eval_roots x ws _ (.inl hx)
        have hfit : AllFit (rootsC [oneC] ws) 390625 := by
          have h1 := fits_roots hW (xs := [oneC]) (X := 1) (by
            intro x hx
            have : x = oneC := by simpa using hx
            subst this
            exact ⟨by decide, by decide⟩)
          have h2 : 5 ^ ws.length ≤ 5 ^ 8 := Nat.pow_le_pow_right (by omega) hk8
          intro y hy
          exact fits_mono (h1 y hy) (by rw [Nat.mul_one]; exact Nat.le_trans h2 (by decide))
        have hlen : (rootsC [oneC] ws).length = ws.length + 1 := by rw [roots_length]; simp; omega
        generalize rootsC [oneC] ws = xs at *
        have hlast : xs.getD (xs.length - 1) zeroC = (1, 0) := by
          obtain ⟨ys, rfl⟩ := htop
          simp [List.getD_eq_getElem?_getD, oneC]
        obtain ⟨adp, pl, ql, rfl, g1, g2, hl⟩ := cx_load hCp ws.length (by omega)
        rw [show ws.length = xs.length - 1 by omega, hlast] at g1 g2
        obtain ⟨hl3, hl4⟩ := hl _ (Below.refl _ _)
        have hx1 : xs.length ≤ ws.length + 1 := by omega
        have hx2 : ws.length + 1 ≤ xs.length := by omega
        clear hlast hl hlen htop
        go_wp2_with fail
        refine (equal_same (1, 0) pl ql 4607182418800017408 0 _ g1 g2 one_int zero_int).mono ?_
        rintro e w4 ⟨rfl, hb4⟩
        replace hCr := Kd.C_below hCr hb4
        replace hCp := Kd.C_below hCp hb4
        replace hb := below_step hb hb4
        clear hb4 hl3 hl4 g1 g2
        go_wp2_with fail
        go_loopw [6] (fun i wr => ∃ m : Nat, m ≤ ws.length ∧ i = .int .i64 m ∧ Below w4.heap.size w4 wr) (fun i _ => ws.length - (intOf i).toNat)
        case atStart => exact ⟨0, Nat.zero_le _, rfl, Below.refl _ _⟩
        case round =>
          obtain ⟨m, hm, rfl, hbr⟩ := hrel
          by_cases hml : m < ws.length
          · obtain ⟨adr, px, qx, rfl, g1, g2, hl⟩ := cx_load hCr m hml
            obtain ⟨hl3, hl4⟩ := hl _ hbr
            have hz := hroot (ws.getD m zeroC) (by rw [List.getD_eq_getElem?_getD, List.getElem?_eq_getElem hml]; exact List.getElem_mem hml)
            have hxm := hW.get m
            clear hl
            go_wp2_with fail
            refine (poly_calls (some adp) cp xs (ws.getD m zeroC) px qx _ (Kd.C_below hCp hbr) hcp (by omega) (by omega) hfit hxm g1 g2).mono ?_
            rintro e w5 ⟨p5, q5, rfl, k1, k2, hb5⟩
            rw [hz] at k1 k2
            replace hbr := below_step hbr hb5
            clear hb5 hl3 hl4
            go_wp2_with fail
            refine (equal_same zeroC p5 q5 0 0 _ k1 k2 zero_int zero_int).mono ?_
            rintro e w6 ⟨rfl, hb6⟩
            replace hbr := below_step hbr hb6
            clear hb6
            go_wp2_with fail
            go_roundw
            case rel => exact ⟨m + 1, by omega, by go_num, hbr⟩
            case measure => (simp [intOf]; try omega)
          · have hlt2 : decide ((m : Int) < (ws.length : Int)) = false := decide_eq_false (by omega)
            have hlt3 : decide (m < ws.length) = false := decide_eq_false hml
            go_wp2_with fail
            go_ret
            exact ⟨rfl, below_step hb hbr⟩
end Go.Proofs.Ytodgognfnpcdgaa.FltI
