/- The walk of the reference's Dft2. -/
import Derived.Test.YtofegdgcafameaaTwW
namespace Go.Proofs.Ytofegdgcafameaa.TwX
open Go.RowKit Go.Proofs.Ytofegdgcafameaa.QFnDftTwice Go.Proofs.YtofegdgcafameaaW.PrintWords Go.Proofs.YtofegdgcafameaaW.PrintLast Go.Proofs.YtofegdgcafameaaW.PrintMore Go.Proofs.Ytofegdgcafameaa.Base Go.Proofs.Ytofegdgcafameaa.Mod Go.Proofs.Ytofegdgcafameaa.TwP Go.Proofs.Ytofegdgcafameaa.TwW
set_option linter.unusedVariables false
set_option linter.unusedSimpArgs false
theorem whole_calls (n : Nat) (w : World) (hn : n ≤ 2000000) : Calls Try.prog 40 #[.int .i64 n] w fun e w' => e = .returned (.bool (decide (Whole n))) ∧ Below w.heap.size w w' := by
  obtain ⟨K, hk⟩ := specWholeN_ev n
  refine (spec_l6Whole.calls K n _ w (hk K (Nat.le_refl _))).mono ?_
  rintro e w' ⟨rfl, hd⟩
  exact ⟨rfl, hd.below⟩
def RetD (r : List Int × Bool) (w : World) (e : Ending) (w' : World) : Prop := ∃ A c, e = .returned (.tuple #[.slice A r.1.length c, .bool r.2]) ∧ Kd.R (Kd.int .i64) 3 w' w.heap.size (fun _ => True) (.slice A r.1.length c) r.1 ∧ Below w.heap.size w w'
theorem sdft_calls {A : Option Addr} {c : Nat} (l : List Int) (p : Int) (back : Bool) (w : World) (hr : Kd.C (Kd.int .i64) w A l.length l) (hc : l.length ≤ c) (hl : l.length ≤ 2000000) : Calls Try.prog 41 #[.slice A l.length c, .int .i64 p, .bool back] w (RetD (dftR l p back) w) := by
  obtain ⟨K, hk⟩ := specDft_ev l p back hl
  refine (spec_Dft.calls K A c l p back _ _ w hr hc (hk K (Nat.le_refl _))).mono ?_
  rintro e w' ⟨v, rfl, ho, hb⟩
  obtain ⟨A', c', rfl⟩ := Kd.R_slice ho
  exact ⟨A', c', rfl, ho, hb⟩
/-- the reference's out, when the columns ahead of c are done -/
noncomputable def outT (x : List (List Int)) (p : Int) (back : Bool) (c : Nat) : List (List Int) := tabL x.length fun i => tab c fun d => rd (colOut x p back d) (i : Int)
noncomputable def st4 (x : List (List Int)) (p : Int) (back : Bool) (c i : Nat) : List (List Int) := tabL x.length fun i' => tab (if i' < i then c + 1 else c) fun d => rd (colOut x p back d) (i' : Int)
theorem at_S {w : World} {b : Nat} {ok : Nat → Prop} {v : Value} {x : List (List Int)} (h : Kd.S (Kd.slice 3 (Kd.int .i64)) 29 w b ok v x) (i : Nat) (hi' : i < x.length) :
    ∃ g c u oki, v = .slice (some ⟨g, 0, none⟩) x.length c ∧ w.cell? ⟨g, i, none⟩ = some u ∧ w.frozen? ⟨g, i, none⟩ = false ∧ b ≤ g ∧ g < w.heap.size ∧ ok g ∧ (∀ k, oki k → ok k ∧ k ≠ g) ∧ Kd.R (Kd.int .i64) 3 w b oki u (rd_L2 x (i : Int)) ∧
      Kd.H (Kd.slice 3 (Kd.int .i64)) 29 w b ok v x (i : Int) oki [u] := by
  obtain ⟨g, c, rfl, hg, hl, cells, hc⟩ := Kd.S_form h (by omega)
  obtain ⟨oki, cs, hcl, hM, hcc, hfr, hok, hH⟩ := Kd.S_elem h [] (i : Int) (by omega) (by omega)
  obtain ⟨u, rfl, hR⟩ := hM
  have hcell := hcc 0 u rfl
  have hf := hfr 0
  simp only [show (Kd.slice 3 (Kd.int .i64)).sz = 1 from rfl, Nat.mul_one, Nat.add_zero, Int.toNat_natCast] at hcell hf
  exact ⟨g, c, u, oki, rfl, hcell, hf, hg, hl, (Kd.S_R h).1 g (by simp [Value.ownBlock]), hok, hR, hH⟩
theorem d2R_no {x : List (List Int)} {p : Int} {back : Bool} (h : ¬ D2ok x p back) : d2R x p back = ([], false) := by unfold d2R; rw [if_neg h]
theorem retT_none {w w' : World} {v : Value} {r : List (List Int) × Bool} (hr : r = ([], false)) (ho : Kd.S (Kd.slice 3 (Kd.int .i64)) 29 w' w.heap.size (fun _ => True) v []) (hb : Below w.heap.size w w') : RetT r w (.returned (.tuple #[v, .bool false])) w' := by
  subst hr
  obtain ⟨A, c, rfl⟩ := Kd.S_slice ho
  exact ⟨A, c, rfl, of_S ho, hb⟩
set_option maxHeartbeats 4000000 in
theorem sdft2_calls {A : Option Addr} {n c : Nat} {x : List (List Int)} (p : Int) (back : Bool) (w : World) (h : RedS w A n c x) (hs : Small x) : Calls Try.prog 16 #[.slice A n c, .int .i64 p, .bool back] w (RetT (d2R x p back) w) := by
  obtain ⟨hC, hcap, rfl⟩ := h
  have hsn := hs.n
  by_cases hw : Whole x.length
  · have hdw : decide (Whole x.length) = true := decide_eq_true hw
    have hpos := whole_pos hw
    go_enter Try.func16, Try.ntmps16
    go_wp2_with fail
    refine (whole_calls x.length _ hsn).mono ?_
    rintro e w1 ⟨rfl, hb⟩
    go_wp2_with (first | ((with_reducible refine gate_dst (N := 24) rfl ?_); refine Kd.S_lit (Kd.slice 3 (Kd.int .i64)) w.heap.size 29 ?hg (w0 := w) (N := 24) ?hd (xs := ([] : List (List Int))) (inner := []) (ok := fun _ => True) (okp := fun _ => True) ?hr ?hp (fun _ hk => hk) trivial hb hb.size (by simp) ?_; (case hd => rfl); (case hg => rfl); (case hr => first | (go_simp; done) | (go_simp; rfl)); (case hp => exact (Reps.none _ _)); intro v2 w2 ho hb2 hg_ hnew_; clear hg_ hnew_))
    replace hb := hb2
    clear hb2
    go_loopw [8, 9] (fun v8 i wr => ∃ j : Nat, j ≤ x.length ∧ i = .int .i64 j ∧ (∀ i', i' < j → GoodR x p back i') ∧ Kd.S (Kd.slice 3 (Kd.int .i64)) 29 wr w.heap.size (fun _ => True) v8 (tabL j (mid x p back)) ∧ Below w.heap.size w wr) (fun _ i _ => x.length - (intOf i).toNat)
    case atStart => exact ⟨0, Nat.zero_le _, rfl, fun _ h => absurd h (by omega), ho, hb⟩
    case round =>
      clear ho hb
      obtain ⟨j, hj, rfl, hgood, ho, hbr⟩ := hrel
      by_cases hlt : j < x.length
      · have hlt2 : decide ((j : Int) < (x.length : Int)) = true := decide_eq_true (by omega)
        have hlt3 : decide (j < x.length) = true := decide_eq_true hlt
        have hCr := Kd.C_below hC hbr
        obtain ⟨ad, A0, c0, rfl, hx, hlc, hC0⟩ := at_L2 hCr (j : Int) (by omega) (by omega)
        obtain ⟨ad', A1, c1, he, hx1, hlc1, hC1⟩ := at_L2 hCr 0 (by omega) (by omega)
        obtain rfl : ad = ad' := by injection he
        have hl0 := hs.r _ (rdL_mem hlt)
        rw [Int.toNat_natCast] at hx
        clear he hC1 hlc1
        go_wp2_with fail
        refine (sdft_calls (rd_L2 x (j : Int)) p back _ hC0 hlc hl0).mono ?_
        rintro e w3 ⟨A3, c3, rfl, ho3, hb3⟩
        replace ho := Kd.S_elder' ho (Kd.R_base ho3) hb3
        replace ho3 := Kd.R_lower ho3 hbr.size
        replace hx1 := (hb3.cell (World.block_lt_of_cell? wr _ hx1)).trans hx1
        (try rw [show ((0 : Int)).toNat = 0 from rfl] at hx1)
        (try rw [Addr.add_zero'] at hx1)
        replace hbr := below_step hbr hb3
        clear hb3 hx hC0 hlc hCr
        by_cases q : (dftR (rd_L2 x (j : Int)) p back).2 = true
        · rw [q]
          have hlen := dftR_len q
          by_cases q2 : (rd_L2 x (j : Int)).length = (rd_L2 x 0).length
          · have hgj : GoodR x p back j := ⟨q, q2⟩
            rw [hlen, q2] at ho3 ho
            have hslen : (tabL j (mid x p back)).length = j := tabL_length _ _
            go_wp2_with (first | ((with_reducible refine gate_builtin (b := .append) (xs := #[.tmp 53, .tmp 55]) rfl ?_); at_builtin; refine Kd.S_append (Kd.slice 3 (Kd.int .i64)) (w0 := w) w.heap.size rfl (.tmp 53) (.tmp 55) 24 29 (.slice none 0 0) 24 rfl Try.underlying24 info29 rfl (by decide) (by omega) u8 (tabL j (mid x p back)) (mid x p back j) [.slice A3 (rd_L2 x 0).length c3] (fun _ => True) (fun k_ => some k_ = (.slice A3 (rd_L2 x 0).length c3 : Value).ownBlock) rfl rfl ?aP (fun k_ hk_ => ⟨trivial, ((Kd.R_apart' ho3 (Kd.S_typed ho) (by decide)).1 k_ hk_.symm).2⟩) (fun _ _ => trivial) ?aO ?aB ?aS ?aL ?_; (case aP => exact Kd.M_row (Kd.R_mono (Kd.R_tight rfl ho3) (fun _ h_ => h_))); (case aB => exact hbr); (case aO => exact Kd.S_mono ho (fun k_ hk => ⟨trivial, fun e_ => hk.2 e_⟩)); (case aS => exact hbr.size); (case aL => omega); intro v9 w9 ho9 hb9 hg9 hat9; clear hg9 hat9))
            go_roundw
            case rel =>
              refine ⟨j + 1, by omega, by go_num, fun i' hi' => ?_, ?_, hb9⟩
              · by_cases e : i' = j
                · subst e; exact hgj
                · exact hgood i' (by omega)
              · rw [tabL_succ]; exact ho9
            case measure => (simp [intOf]; try omega)
          · have hne : (((dftR (rd_L2 x (j : Int)) p back).1.length : Int) != ((rd_L2 x 0).length : Int)) = true := by rw [hlen]; simp; omega
            clear hlen
            go_wp2_with (first | ((with_reducible refine gate_dst (N := 52) rfl ?_); refine Kd.S_lit (Kd.slice 3 (Kd.int .i64)) w.heap.size 29 ?hg (w0 := w) (N := 52) ?hd (xs := ([] : List (List Int))) (inner := []) (ok := fun _ => True) (okp := fun _ => True) ?hr ?hp (fun _ hk => hk) trivial hbr hbr.size (by simp) ?_; (case hd => rfl); (case hg => rfl); (case hr => first | (go_simp; done) | (go_simp; rfl)); (case hp => exact (Reps.none _ _)); intro v2 w2 ho hb2 hg_ hnew_; clear hg_ hnew_))
            go_ret2
            exact retT_none (d2R_no (fun h => q2 (h.2 j hlt).2)) ho hb2
        · have q3 : (dftR (rd_L2 x (j : Int)) p back).2 = false := by simpa using q
          rw [q3]
          go_wp2_with (first | ((with_reducible refine gate_dst (N := 52) rfl ?_); refine Kd.S_lit (Kd.slice 3 (Kd.int .i64)) w.heap.size 29 ?hg (w0 := w) (N := 52) ?hd (xs := ([] : List (List Int))) (inner := []) (ok := fun _ => True) (okp := fun _ => True) ?hr ?hp (fun _ hk => hk) trivial hbr hbr.size (by simp) ?_; (case hd => rfl); (case hg => rfl); (case hr => first | (go_simp; done) | (go_simp; rfl)); (case hp => exact (Reps.none _ _)); intro v2 w2 ho hb2 hg_ hnew_; clear hg_ hnew_))
          go_ret2
          exact retT_none (d2R_no (fun h => q (h.2 j hlt).1)) ho hb2
      · have e : j = x.length := by omega
        subst e
        have hd : D2ok x p back := ⟨hw, hgood⟩
        have hlt2 : decide ((x.length : Int) < (x.length : Int)) = false := decide_eq_false (by omega)
        have hlt3 : decide (x.length < x.length) = false := decide_eq_false hlt
        clear hgood hlt hj
        obtain ⟨Am, cm, he, hcm, hCm⟩ := Kd.S_reads ho
        rw [tabL_length] at he hcm hCm
        subst he
        obtain ⟨wm, rfl⟩ : ∃ wm, wm = wr := ⟨wr, rfl⟩
        have hmrow : ∀ i : Nat, i < x.length → rd_L2 (tabL x.length (mid x p back)) (i : Int) = mid x p back i := fun i hi => rdL_tab hi
        have hmlen : ∀ i : Nat, i < x.length → (mid x p back i).length = (rd_L2 x 0).length := fun i hi => mid_len (hd.2 i hi)
        have hm0 := hs.r _ (rdL_mem (x := x) (i := 0) hpos)
        replace hm0 : (rd_L2 x 0).length ≤ 2000000 := hm0
        clear ho
        go_wp2_with (first | ((with_reducible refine gate_dst (N := 59) rfl ?_); refine Kd.S_make (Kd.slice 3 (Kd.int .i64)) (w0 := wm) wm.heap.size 29 rfl (N := 59) rfl 24 _ _ rfl (x.length : Int) rfl rfl Try.underlying24 (.slice none 0 0) 24 info29 rfl (by decide) (by omega) [] (ok := fun _ => True) (okp := fun _ => True) ⟨_, rfl, Kd.R_nil _ _ _ _ _⟩ (fun _ hk => hk) trivial (by omega) (by rw [Int.toNat_natCast]; omega) (Below.refl _ _) (Nat.le_refl _) ?_; intro v12 w4 ho4 hb4 hg_ hnew_; clear hg_ hnew_))
        have e0 : List.replicate (x.length : Int).toNat ([] : List Int) = outT x p back 0 := by
          refine eq_tabL (by simp) fun i hi => ?_
          rw [rdL_nat, List.getD_eq_getElem?_getD, List.getElem?_replicate, Int.toNat_natCast, if_pos hi]
          rfl
        rw [e0] at ho4
        clear e0
        go_loopw [13] (fun k wz => ∃ cc : Nat, cc ≤ (rd_L2 x 0).length ∧ k = .int .i64 cc ∧ Kd.S (Kd.slice 3 (Kd.int .i64)) 29 wz wm.heap.size (fun _ => True) v12 (outT x p back cc) ∧ Below wm.heap.size wm wz) (fun k _ => (rd_L2 x 0).length - (intOf k).toNat)
        case atStart => exact ⟨0, Nat.zero_le _, rfl, ho4, hb4⟩
        case round =>
          clear ho4 hb4
          obtain ⟨cc, hcc, rfl, hS, hbz⟩ := hrel
          obtain ⟨w2, rfl⟩ : ∃ w2, w2 = wr := ⟨wr, rfl⟩
          have hC2 := Kd.C_below hCm hbz
          obtain ⟨am, A1, c1, rfl, hx1, hlc1, hC1⟩ := at_L2 hC2 0 (by omega) (by omega)
          have e00 : rd_L2 (tabL x.length (mid x p back)) 0 = mid x p back 0 := hmrow 0 hpos
          rw [e00, hmlen 0 hpos] at hx1
          (try rw [show ((0 : Int)).toNat = 0 from rfl] at hx1)
          (try rw [Addr.add_zero'] at hx1)
          clear hlc1 hC1 e00
          by_cases hlt : cc < (rd_L2 x 0).length
          · have hlt2 : decide ((cc : Int) < ((rd_L2 x 0).length : Int)) = true := decide_eq_true (by omega)
            have hlt3 : decide (cc < (rd_L2 x 0).length) = true := decide_eq_true hlt
            go_wp2_with (first | ((with_reducible refine gate_dst (N := 68) rfl ?_); refine Kd.R_lit (Kd.int .i64) (w0 := w2) w2.heap.size 3 ?hg (N := 68) ?hd (xs := ([] : List Int)) (inner := []) (ok := fun _ => True) (okp := fun _ => True) ?hr ?hp (fun _ hk => hk) trivial (Below.refl _ _) (Nat.le_refl _) (by simp) ?_; (case hd => rfl); (case hg => rfl); (case hr => first | (go_simp; done) | (go_simp; rfl)); (case hp => exact (Reps.none _ _)); intro v14 w5 ho5 hb5 hg_ hnew_; clear hg_ hnew_))
            go_loopw [14, 15] (fun v i wz => ∃ ii : Nat, ii ≤ x.length ∧ i = .int .i64 ii ∧ Kd.R (Kd.int .i64) 3 wz w2.heap.size (fun _ => True) v (tab ii fun i' => rd (mid x p back i') (cc : Int)) ∧ Below w2.heap.size w2 wz) (fun _ i _ => x.length - (intOf i).toNat)
            case atStart => exact ⟨0, Nat.zero_le _, rfl, ho5, hb5⟩
            case round =>
              clear ho5 hb5 hx1
              obtain ⟨ii, hii, rfl, hR, hb3⟩ := hrel
              by_cases hl3 : ii < x.length
              · have hl4 : decide ((ii : Int) < (x.length : Int)) = true := decide_eq_true (by omega)
                have hl5 : decide (ii < x.length) = true := decide_eq_true hl3
                have hC3 := Kd.C_below hC2 hb3
                obtain ⟨am', A2, c2, he, hx2, hlc2, hCe⟩ := at_L2 hC3 (ii : Int) (by omega) (by omega)
                obtain rfl : am = am' := by injection he
                rw [hmrow ii hl3] at hx2 hlc2 hCe
                have hml := hmlen ii hl3
                rw [hml] at hx2 hlc2
                obtain ⟨ae, rfl, hx3⟩ := Kd.at_int hCe (cc : Int) (by omega) (by omega)
                rw [Int.toNat_natCast] at hx2 hx3
                have hcc1 : decide ((cc : Int) < ((rd_L2 x 0).length : Int)) = true := hlt2
                clear he hC3 hCe hlc2 hml
                go_wp2_with (first | ((with_reducible refine gate_builtin (b := .append) (xs := #[.tmp 75, .tmp 83]) rfl ?_); at_builtin; refine Kd.R_append (Kd.int .i64) (w0 := w2) w2.heap.size rfl (.tmp 75) (.tmp 83) 29 3 (.int .i64 0) 8 rfl Try.underlying29 info3 rfl (by decide) (by omega) u14 (tab ii fun i' => rd (mid x p back i') (cc : Int)) (rd (mid x p back ii) (cc : Int)) [.int .i64 (rd (mid x p back ii) (cc : Int))] (fun _ => True) (fun _ => False) rfl rfl ?aP (fun _ hk => hk.elim) ?aF ?aO ?aB ?aS ?aL ?_; (case aP => exact rfl); (case aB => exact hb3); (case aF => exact (fun _ _ => trivial)); (case aO => exact hR); (case aS => exact hb3.size); (case aL => simp; omega); intro v9 w9 ho9 hb9 hg9 hat9; clear hg9 hat9))
                go_roundw
                case rel => exact ⟨ii + 1, by omega, by go_num, by rw [tab_succ]; exact ho9, hb9⟩
                case measure => (simp [intOf]; try omega)
              · have e : ii = x.length := by omega
                subst e
                have hl4 : decide ((x.length : Int) < (x.length : Int)) = false := decide_eq_false (by omega)
                have hl5 : decide (x.length < x.length) = false := decide_eq_false hl3
                obtain ⟨Aq, cq, he, hcq, hCq⟩ := Kd.R_reads hR
                rw [tab_length] at he hcq hCq
                subst he
                obtain ⟨w5, rfl⟩ : ∃ w5, w5 = wr := ⟨wr, rfl⟩
                clear hR hii hl3
                go_wp2_with fail
                have hcl : (colIn x p back cc).length = x.length := by unfold colIn; rw [tab_length]
                have hdf := sdft_calls (A := Aq) (c := cq) (colIn x p back cc) p back w5 (by rw [hcl]; exact hCq) (by rw [hcl]; exact hcq) (by rw [hcl]; exact hsn)
                rw [hcl] at hdf
                refine hdf.mono ?_
                clear hdf
                rintro e w6 ⟨A6, c6, rfl, ho6, hb6⟩
                rw [col_ok hd hlt, show (dftR (colIn x p back cc) p back).1 = colOut x p back cc from rfl] at *
                have hoL := colOut_len hd hlt
                rw [hoL] at ho6 ⊢
                have hD : Kd.R (Kd.int .i64) 3 w6 w5.heap.size (fun k => w2.heap.size ≤ k ∧ k < w6.heap.size) (.slice A6 x.length c6) (colOut x p back cc) := Kd.R_mono (Kd.R_bound ho6) (fun k hk => ⟨Nat.le_trans hb3.size hk.2.1, hk.2.2.1⟩)
                have hS6 : Kd.S (Kd.slice 3 (Kd.int .i64)) 29 w6 wm.heap.size (fun k => k < w2.heap.size ∨ w6.heap.size ≤ k) v12 (outT x p back cc) := Kd.S_below (Kd.S_mono (Kd.S_bound hS) (fun k hk => .inl hk.2.2.1)) (below_step hb3 hb6)
                have hbz6 : Below wm.heap.size wm w6 := below_step hbz (below_step hb3 hb6)
                have hz26 : w2.heap.size ≤ w6.heap.size := (below_step hb3 hb6).size
                rw [show outT x p back cc = st4 x p back cc 0 from tabL_congr fun i' _ => by rw [if_neg (by omega)]] at hS6
                obtain ⟨A12, c12, he⟩ := Kd.S_slice hS6
                rw [show (st4 x p back cc 0).length = x.length from tabL_length _ _] at he
                subst he
                clear ho6 hb6 hS hbz hC2 hCq hcq hb3
                go_wp2_with fail
                go_loopw [18] (fun k wz => ∃ i : Nat, i ≤ x.length ∧ k = .int .i64 i ∧ Kd.S (Kd.slice 3 (Kd.int .i64)) 29 wz wm.heap.size (fun k => k < w2.heap.size ∨ w6.heap.size ≤ k) (.slice A12 x.length c12) (st4 x p back cc i) ∧ Below wm.heap.size wm wz ∧ Kept w6 wz (fun k => k < w2.heap.size ∨ w6.heap.size ≤ k)) (fun k _ => x.length - (intOf k).toNat)
                case atStart => exact ⟨0, Nat.zero_le _, rfl, hS6, hbz6, Kept.refl _ _⟩
                case round =>
                  clear hS6 hbz6
                  obtain ⟨i, hi, rfl, hS7, hbz7, hkp⟩ := hrel
                  by_cases hl3 : i < x.length
                  · have hl4 : decide ((i : Int) < (x.length : Int)) = true := decide_eq_true (by omega)
                    have hl5 : decide (i < x.length) = true := decide_eq_true hl3
                    have hsl : (st4 x p back cc i).length = x.length := tabL_length _ _
                    obtain ⟨g, c', u, oki, he, hcell, hfr, hbg, hgd, hokg, hok, hR, hH⟩ := at_S hS7 i (by omega)
                    injection he with e1 e2 e3
                    subst e1
                    subst e3
                    have hrl : (rd_L2 (st4 x p back cc i) (i : Int)).length = cc := by unfold st4; rw [rdL_tab hl3, if_neg (by omega), tab_length]
                    obtain ⟨Au, cu, rfl⟩ := Kd.R_slice hR
                    rw [hrl] at hcell hR hH
                    have hDr := Kd.R_kept hD hkp (fun k hk hk' => by omega)
                    obtain ⟨ad6, he6, hdc⟩ := Kd.at_int (Kd.R_reads' hDr).2.2 (i : Int) (by omega) (by omega)
                    subst he6
                    rw [Int.toNat_natCast] at hdc
                    clear hDr e2 hsl hS7
                    go_wp2_with fail
                    replace hR := Kd.R_drew hR
                    replace hH := Kd.H_drew hH
                    replace hbz7 := below_drew1 hbz7
                    replace hkp := Kept.drew hkp
                    replace hcell : wr.drew.cell? ⟨g, i, none⟩ = some (.slice Au cc cu) := hcell
                    replace hfr : wr.drew.frozen? ⟨g, i, none⟩ = false := hfr
                    replace hdc : wr.drew.cell? (ad6.add i) = some (.int .i64 (rd (colOut x p back cc) (i : Int))) := hdc
                    replace hgd : g < wr.drew.heap.size := hgd
                    refine start_ (n := 14) (S := fun w' => w'.cell? ⟨g, i, none⟩ = some (.slice Au cc cu) ∧ w'.cell? (ad6.add i) = some (.int .i64 (rd (colOut x p back cc) (i : Int)))) (ds := [11, 13]) #[false, false, false, false, false, false, false, false, false, false, false, false, false, false] (by kernel_rfl) rfl rfl ⟨hcell, hdc⟩ (fun hHeld => ?_)
                    generalize wr.drew = wd at hbz7 hkp hR hH hcell hfr hdc hHeld hgd ⊢
                    refine pure_ (i := 0) (N := some 98) (v := ?_) (a' := ?_) #[true, false, false, false, false, false, false, false, false, false, false, false, false, false] rfl rfl (by kernel_rfl) (fun _ _ _ h => h) (Or.inl ⟨by rfl, ?_⟩) ?_ ?_
                    rotate_left
                    · intro w'
                      go_simp
                      with_reducible rfl
                    rotate_left
                    · simp only [Act.put, List.setIfInBounds_toArray, List.set_cons_zero, List.set_cons_succ, i64_w, i32_w]
                      rfl
                    refine pure_ (i := 1) (N := some 99) (v := ?_) (a' := ?_) #[true, true, false, false, false, false, false, false, false, false, false, false, false, false] rfl rfl (by kernel_rfl) (fun _ _ _ h => h) (Or.inl ⟨by rfl, ?_⟩) ?_ ?_
                    rotate_left
                    · intro w'
                      go_simp
                      with_reducible rfl
                    rotate_left
                    · simp only [Act.put, List.setIfInBounds_toArray, List.set_cons_zero, List.set_cons_succ, i64_w, i32_w]
                      rfl
                    refine pure_ (i := 2) (N := some 100) (v := ?_) (a' := ?_) #[true, true, true, false, false, false, false, false, false, false, false, false, false, false] rfl rfl (by kernel_rfl) (fun _ _ _ h => h) (Or.inl ⟨by rfl, ?_⟩) ?_ ?_
                    rotate_left
                    · intro w'
                      go_simp
                      with_reducible rfl
                    rotate_left
                    · simp only [Act.put, List.setIfInBounds_toArray, List.set_cons_zero, List.set_cons_succ, i64_w, i32_w]
                      rfl
                    refine pure_ (i := 3) (N := some 101) (v := ?_) (a' := ?_) #[true, true, true, true, false, false, false, false, false, false, false, false, false, false] rfl rfl (by kernel_rfl) (fun _ _ _ h => h) (Or.inl ⟨by rfl, ?_⟩) ?_ ?_
                    rotate_left
                    · intro w'
                      go_simp
                      with_reducible rfl
                    rotate_left
                    · simp only [Act.put, List.setIfInBounds_toArray, List.set_cons_zero, List.set_cons_succ, i64_w, i32_w]
                      rfl
                    refine pure_ (i := 4) (N := some 102) (v := ?_) (a' := ?_) #[true, true, true, true, true, false, false, false, false, false, false, false, false, false] rfl rfl (by kernel_rfl) (fun _ _ _ h => h) (Or.inl ⟨by rfl, ?_⟩) ?_ ?_
                    rotate_left
                    · intro w'
                      go_simp
                      with_reducible rfl
                    rotate_left
                    · simp only [Act.put, List.setIfInBounds_toArray, List.set_cons_zero, List.set_cons_succ, i64_w, i32_w]
                      rfl
                    refine take_ (i := 5) (N := some 103) (v := ?_) (a' := ?_) #[true, true, true, true, true, true, false, false, false, false, false, false, false, false] rfl rfl (by kernel_rfl) (fun _ _ _ h => h) (Or.inl ⟨by rfl, ?_⟩) hHeld ?_ ?_
                    rotate_left
                    · rintro w' ⟨s0, s1⟩
                      go_simp
                      with_reducible rfl
                    rotate_left
                    · simp only [Act.put, List.setIfInBounds_toArray, List.set_cons_zero, List.set_cons_succ, i64_w, i32_w]
                      rfl
                    refine pure_ (i := 6) (N := some 104) (v := ?_) (a' := ?_) #[true, true, true, true, true, true, true, false, false, false, false, false, false, false] rfl rfl (by kernel_rfl) (fun _ _ _ h => h) (Or.inl ⟨by rfl, ?_⟩) ?_ ?_
                    rotate_left
                    · intro w'
                      go_simp
                      with_reducible rfl
                    rotate_left
                    · simp only [Act.put, List.setIfInBounds_toArray, List.set_cons_zero, List.set_cons_succ, i64_w, i32_w]
                      rfl
                    refine pure_ (i := 7) (N := some 105) (v := ?_) (a' := ?_) #[true, true, true, true, true, true, true, true, false, false, false, false, false, false] rfl rfl (by kernel_rfl) (fun _ _ _ h => h) (Or.inl ⟨by rfl, ?_⟩) ?_ ?_
                    rotate_left
                    · intro w'
                      go_simp
                      with_reducible rfl
                    rotate_left
                    · simp only [Act.put, List.setIfInBounds_toArray, List.set_cons_zero, List.set_cons_succ, i64_w, i32_w]
                      rfl
                    refine pure_ (i := 8) (N := some 106) (v := ?_) (a' := ?_) #[true, true, true, true, true, true, true, true, true, false, false, false, false, false] rfl rfl (by kernel_rfl) (fun _ _ _ h => h) (Or.inl ⟨by rfl, ?_⟩) ?_ ?_
                    rotate_left
                    · intro w'
                      go_simp
                      with_reducible rfl
                    rotate_left
                    · simp only [Act.put, List.setIfInBounds_toArray, List.set_cons_zero, List.set_cons_succ, i64_w, i32_w]
                      rfl
                    refine take_ (i := 9) (N := some 107) (v := ?_) (a' := ?_) #[true, true, true, true, true, true, true, true, true, true, false, false, false, false] rfl rfl (by kernel_rfl) (fun _ _ _ h => h) (Or.inl ⟨by rfl, ?_⟩) hHeld ?_ ?_
                    rotate_left
                    · rintro w' ⟨s0, s1⟩
                      go_simp
                      with_reducible rfl
                    rotate_left
                    · simp only [Act.put, List.setIfInBounds_toArray, List.set_cons_zero, List.set_cons_succ, i64_w, i32_w]
                      rfl
                    refine one_ (i := 10) (N := some 108) #[true, true, true, true, true, true, true, true, true, true, true, false, false, false] rfl rfl (by kernel_rfl) (by decide) (fun K hK => ?_)
                    refine value_ (w1 := ?_) (v := ?_) (by rfl) rfl ?_ ?_
                    rotate_left 2
                    · go_simp
                      constructor
                      · rfl
                      · rfl
                    refine hK.out _ _ ⟨((below_alloc (Below.refl _ _) _).cell (World.block_lt_of_cell? wd _ hcell)).trans hcell, ((below_alloc (Below.refl _ _) _).cell (World.block_lt_of_cell? wd _ hdc)).trans hdc⟩ (fun _ => ?_)
                    clear hK K
                    refine norm_ (a' := ?_) ?_ ?_
                    rotate_left
                    · show Act.put _ (some 108) _ = _
                      simp only [Act.put, List.setIfInBounds_toArray, List.set_cons_zero, List.set_cons_succ, i64_w, i32_w]
                      rfl
                    refine last_ (i := 11) (N := some 109) #[true, true, true, true, true, true, true, true, true, true, true, true, false, false] rfl rfl (by kernel_rfl) (by decide) (fun K hK => ?_)
                    refine Kd.R_append_step (Kd.int .i64) (w0 := wm) wm.heap.size (by rfl) (.tmp 103) (.tmp 108) 29 3 (.int .i64 0) 8 rfl Try.underlying29 info3 rfl (by decide) (by omega) (.slice Au cc cu) (rd_L2 (st4 x p back cc i) (i : Int)) (rd (colOut x p back cc) (i : Int)) [.int .i64 (rd (colOut x p back cc) (i : Int))] (fun k_ => oki k_ ∨ wd.heap.size ≤ k_) (fun _ => False) rfl rfl rfl (fun _ hk => hk.elim) (fun _ hk => .inr hk) (Kd.R_mono hR (fun _ hk => .inl hk)) hbz7 hbz7.size ?aL ?_
                    case aL => rw [hrl]; omega
                    intro v9 w9 ho9 hb9 hg9 hat9
                    have hgne : some g ≠ (Value.slice Au cc cu).ownBlock := fun e_ => (hok g (hR.1 g e_.symm)).2 rfl
                    have hh9 : w9.heap[g]? = wd.heap[g]? := hg9.block g hgd hgne
                    have hcell9 : w9.cell? ⟨g, i, none⟩ = some (.slice Au cc cu) := by simpa [World.cell?, hh9] using hcell
                    have hfr9 : w9.frozen? ⟨g, i, none⟩ = false := by simpa [World.frozen?, hh9] using hfr
                    have hH9 := Kd.H_grown (Kd.H_widen hH) hg9 (fun k hk => .inl (hR.1 k hk))
                    obtain ⟨A9, c9, rfl⟩ := Kd.R_slice ho9
                    clear hcell hfr hdc hat9 hgne hh9
                    refine hK.out _ _ ?_
                    clear hK K
                    refine norm_ (a' := ?_) ?_ ?_
                    rotate_left
                    · show Act.put _ (some 109) _ = _
                      simp only [Act.put, List.setIfInBounds_toArray, List.set_cons_zero, List.set_cons_succ, i64_w, i32_w]
                      rfl
                    refine pure_ (i := 12) (N := some 110) (v := ?_) (a' := ?_) #[true, true, true, true, true, true, true, true, true, true, true, true, true, false] rfl rfl (by kernel_rfl) (fun _ _ _ h => h) (Or.inl ⟨by rfl, ?_⟩) ?_ ?_
                    rotate_left
                    · intro w'
                      go_simp
                      with_reducible rfl
                    rotate_left
                    · simp only [Act.put, List.setIfInBounds_toArray, List.set_cons_zero, List.set_cons_succ, i64_w, i32_w]
                      rfl
                    refine last_ (i := 13) (N := none) #[true, true, true, true, true, true, true, true, true, true, true, true, true, true] rfl rfl (by kernel_rfl) (by decide) (fun K hK => ?_)
                    refine skip_ (w1 := ?_) (by rfl) rfl ?_ ?_
                    rotate_left
                    · go_simp
                      rfl
                    refine hK.out _ _ ?_
                    clear hK K
                    refine done_ (by kernel_rfl) ?_
                    obtain ⟨hH8, hg8⟩ := Kd.H_seg hH9 (by omega) (by omega) (seg := [.slice A9 (rd_L2 (st4 x p back cc i) (i : Int) ++ [rd (colOut x p back cc) (i : Int)]).length c9]) (j := 0) (show 0 + 1 ≤ 1 by omega) (fun q hq => by rw [List.mem_singleton.1 hq]; rfl)
                    have e8 : w9.setCells g ((i : Int).toNat * (Kd.slice 3 (Kd.int .i64)).sz + 0) [.slice A9 (rd_L2 (st4 x p back cc i) (i : Int) ++ [rd (colOut x p back cc) (i : Int)]).length c9] = w9.setCell ⟨g, i, none⟩ (.slice A9 (cc + 1) c9) := by
                      rw [show (rd_L2 (st4 x p back cc i) (i : Int) ++ [rd (colOut x p back cc) (i : Int)]).length = cc + 1 by rw [List.length_append, hrl]; rfl]
                      simp [World.setCells, show (Kd.slice 3 (Kd.int .i64)).sz = 1 from rfl]
                    rw [e8] at hH8 hg8
                    have hM8 := Kd.R_grown ho9 hg8 (fun k hk e_ => by
                      injection e_ with e_
                      rcases hk with hk | hk
                      · exact (hok k hk).2 e_
                      · omega)
                    have hz6 := hkp.1
                    have hS8 := Kd.H_back hH8 (Kd.M_row hM8) (fun k hk => by
                      rcases hk with hk | hk
                      · exact .inl hk
                      · exact .inr ⟨.inr (by omega), hk⟩)
                    have e9 : (st4 x p back cc i).set (i : Int).toNat (rd_L2 (st4 x p back cc i) (i : Int) ++ [rd (colOut x p back cc) (i : Int)]) = st4 x p back cc (i + 1) := by
                      rw [Int.toNat_natCast, show rd_L2 (st4 x p back cc i) (i : Int) = tab cc (fun d => rd (colOut x p back d) (i : Int)) by unfold st4; rw [rdL_tab hl3, if_neg (by omega)], ← tab_succ]
                      have := tabL_set (n := x.length) (i := i) (g := fun i' => tab (if i' < i then cc + 1 else cc) fun d => rd (colOut x p back d) (i' : Int)) (h := fun i' => tab (if i' < i + 1 then cc + 1 else cc) fun d => rd (colOut x p back d) (i' : Int)) hl3 (fun i' _ hne => by
                        by_cases q : i' < i
                        · simp only [if_pos q, if_pos (show i' < i + 1 by omega)]
                        · simp only [if_neg q, if_neg (show ¬ i' < i + 1 by omega)])
                      simp only [if_pos (Nat.lt_succ_self i)] at this
                      exact this
                    rw [e9] at hS8
                    have hb8 : Below wm.heap.size wm (w9.setCell ⟨g, i, none⟩ (.slice A9 (cc + 1) c9)) := below_set hb9 hbg
                    have hkp8 : Kept w6 (w9.setCell ⟨g, i, none⟩ (.slice A9 (cc + 1) c9)) (fun k => k < w2.heap.size ∨ w6.heap.size ≤ k) := Kept.of_grown hg8 (Kept.of_grown hg9 hkp (fun k hk => .inl (hok k (hR.1 k hk)).1)) (fun k hk => by
                      injection hk with hk
                      subst hk
                      exact .inl hokg)
                    clear hH8 hg8 hM8 hg9 hH9 hb9 ho9 hR hH hkp hbz7 e8 e9
                    go_wp2_with fail
                    go_roundw
                    case rel => exact ⟨i + 1, by omega, by go_num, hS8, hb8, hkp8⟩
                    case measure => (simp [intOf]; try omega)
                  · have e : i = x.length := by omega
                    subst e
                    have hl4 : decide ((x.length : Int) < (x.length : Int)) = false := decide_eq_false (by omega)
                    have hl5 : decide (x.length < x.length) = false := decide_eq_false hl3
                    go_wp2_with fail
                    go_roundw
                    case rel => exact ⟨cc + 1, by omega, by go_num, by
                      rw [show outT x p back (cc + 1) = st4 x p back cc x.length from tabL_congr fun i' h' => by rw [if_pos h']]
                      exact Kd.S_mono hS7 (fun _ _ => trivial), hbz7⟩
                    case measure => (simp [intOf]; try omega)
          · have e : cc = (rd_L2 x 0).length := by omega
            subst e
            have hlt2 : decide (((rd_L2 x 0).length : Int) < ((rd_L2 x 0).length : Int)) = false := decide_eq_false (by omega)
            have hlt3 : decide ((rd_L2 x 0).length < (rd_L2 x 0).length) = false := decide_eq_false hlt
            obtain ⟨A12, c12, he, _, _⟩ := Kd.S_reads hS
            rw [show (outT x p back (rd_L2 x 0).length).length = x.length from tabL_length _ _] at he
            subst he
            go_wp2_with fail
            go_ret2
            have hres : d2R x p back = (d2V x p back, true) := by unfold d2R; rw [if_pos hd]
            unfold RetT
            rw [hres]
            have hl9 : (d2V x p back).length = x.length := tabL_length _ _
            replace hS : Kd.S (Kd.slice 3 (Kd.int .i64)) 29 w2 wm.heap.size (fun _ => True) (.slice A12 x.length c12) (d2V x p back) := hS
            rw [← hl9] at hS
            exact ⟨A12, c12, by rw [hl9]; rfl, of_S (Kd.S_lower hS hbr.size), below_step hbr hbz⟩
  · have hdw : decide (Whole x.length) = false := decide_eq_false hw
    go_enter Try.func16, Try.ntmps16
    go_wp2_with fail
    refine (whole_calls x.length _ hsn).mono ?_
    rintro e w1 ⟨rfl, hb⟩
    go_wp2_with (first | ((with_reducible refine gate_dst (N := 23) rfl ?_); refine Kd.S_lit (Kd.slice 3 (Kd.int .i64)) w.heap.size 29 ?hg (w0 := w) (N := 23) ?hd (xs := ([] : List (List Int))) (inner := []) (ok := fun _ => True) (okp := fun _ => True) ?hr ?hp (fun _ hk => hk) trivial hb hb.size (by simp) ?_; (case hd => rfl); (case hg => rfl); (case hr => first | (go_simp; done) | (go_simp; rfl)); (case hp => exact (Reps.none _ _)); intro v2 w2 ho hb2 hg_ hnew_; clear hg_ hnew_))
    go_ret2
    exact retT_none (d2R_no (fun h => hw h.1)) ho hb2
end Go.Proofs.Ytofegdgcafameaa.TwX
