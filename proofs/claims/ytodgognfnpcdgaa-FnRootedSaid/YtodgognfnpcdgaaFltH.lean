/- The walk of RootsTo. -/
import Derived.Test.YtodgognfnpcdgaaFltG
namespace Go.Proofs.Ytodgognfnpcdgaa.FltH
open Go.RowKit Go.Proofs.Ytodgognfnpcdgaa.Flt Go.Proofs.Ytodgognfnpcdgaa.FltA Go.Proofs.Ytodgognfnpcdgaa.FltB Go.Proofs.Ytodgognfnpcdgaa.FltC Go.Proofs.Ytodgognfnpcdgaa.FltD Go.Proofs.Ytodgognfnpcdgaa.FltF Go.Proofs.YtodgognfnpcdgaaW.PrintWords Go.Proofs.YtodgognfnpcdgaaW.PrintLast Go.Proofs.YtodgognfnpcdgaaW.PrintMore
set_option linter.unusedVariables false
set_option linter.unusedSimpArgs false
attribute [local go_sem] run_store_float

theorem info26 : (Try.prog.info? 26).map (fun i => (i.zero, i.size, i.bytes)) = some (some (.agg #[.float .f64 0, .float .f64 0]), 2, 16) := by kernel_rfl

section
variable {P : Program} {ops : Array Oper} {rest : List Oper} {o : Oper} {a : Act} {Q : Exit → Act → World → Prop} {α : Type}
/-- make([]T, 0, n) -/
theorem R_make0 (d : Kd α) {w0 W : World} (base e : Nat) (hgd : o.guard = none) {N : Tmp} (hd : o.dst = some N) (t : TypeId) (x y : Operand) (ho : o.op = .makeSlice t x y) (n : Nat) (hx : a.eval x = .int .i64 0) (hy : a.eval y = .int .i64 (n : Int))
    (ht : P.underlying t = some (.slice e)) (z : Value) (bytes : Nat) (hinfo : (P.info? e).map (fun i => (i.zero, i.size, i.bytes)) = some (some z, d.sz, bytes)) (hb0 : 0 < bytes) {ok : Nat → Prop} (hfresh : ok W.heap.size) (hl : bytes * n ≤ 281474976710656) (HB : Below base w0 W) (hbase : base ≤ W.heap.size)
    (h : ∀ v1 w1, d.R e w1 base ok v1 [] → Below base w0 w1 → W.grownBy w1 none → wpList P ops Q rest (a.put o.dst v1) w1) : wpList P ops Q (o :: rest) a W := by
  obtain ⟨i0, hi, hzz⟩ := Option.map_eq_some_iff.1 hinfo
  simp only [Prod.mk.injEq] at hzz
  obtain ⟨hz0, hz1, hz2⟩ := hzz
  have hm : n ≤ 281474976710656 := Nat.le_trans (Nat.le_mul_of_pos_left _ hb0) hl
  obtain ⟨w', hr, hown, hg⟩ := run_make_own (P := P) W base t e i0 z d.sz ht hi hz0 hz1 .i64 .i64 n (by rw [hz2]; exact hl) (by simp [maxLen]; omega) hbase
  refine Kd.event_run hgd ?_ (h _ _ ⟨fun k hk => ?_, [], hown, Reps.none _ _⟩ (HB.grown hg hbase (fun k hk => by cases hk)) hg)
  · simp [execOp, ho, hx, hy, hr]
  · have : W.heap.size = k := by simpa [Value.ownBlock] using hk
    subst this
    exact hfresh
end

theorem cell_of_block {w w1 : World} {B : Nat} (h : w1.heap[B]? = w.heap[B]?) (o : Nat) : w1.cell? ⟨B, o, none⟩ = w.cell? ⟨B, o, none⟩ ∧ w1.frozen? ⟨B, o, none⟩ = w.frozen? ⟨B, o, none⟩ :=
  ⟨World.cell?_of_block (w := w) h, World.frozen?_of_block (w := w) h⟩
theorem Cell2.grown {w w1 : World} {B p q : Nat} {row : Option Nat} (h : Cell2 w B p q) (hg : w.grownBy w1 row) (hB : B < w.heap.size) (hne : some B ≠ row) : Cell2 w1 B p q := by
  have hb := hg.block B hB hne
  obtain ⟨h1, h2, h3, h4⟩ := h
  exact ⟨(cell_of_block hb 0).1.trans h1, (cell_of_block hb 1).1.trans h2, (cell_of_block hb 0).2.trans h3, (cell_of_block hb 1).2.trans h4⟩

theorem own_base_of {w : World} {base : Nat} {ok : Nat → Prop} {v : Value} {xs : List (Int × Int)} (h : cx.R 26 w base ok v xs) (k : Nat) (hk : v.ownBlock = some k) : base ≤ k := by
  obtain ⟨_, inner, ho, _⟩ := h
  exact own_base ho k hk
/-- the inner loop: what is made of the first j numbers; the one below the next in block L -/
def InStep (w wo : World) (BW L : Nat) (u : Int × Int) (xs : List (Int × Int)) (j : Nat) (v : Value) (wx : World) : Prop :=
  ∃ p q r s, L < wx.heap.size ∧ Cell2 wx L p q ∧ Cell2 wx BW r s ∧ IsF p ((zeroC :: xs).getD j zeroC).1 ∧ IsF q ((zeroC :: xs).getD j zeroC).2 ∧ IsF r u.1 ∧ IsF s u.2 ∧ Below wo.heap.size wo wx ∧ cx.R 26 wx wo.heap.size (fun k => k ≠ L) v ((mulroot u zeroC xs).take j)

def RetP (w : World) (xs : List (Int × Int)) (e : Ending) (w' : World) : Prop := ∃ v, e = .returned v ∧ cx.R 26 w' w.heap.size (fun _ => True) v xs ∧ Below w.heap.size w w'

set_option maxHeartbeats 4000000 in
theorem roots_calls (A : Option Addr) (c : Nat) (ws : List (Int × Int)) (w : World) (hr : cx.C w A ws.length ws) (hc : ws.length ≤ c) (h8 : ws.length ≤ 8) (hW : AllFit ws 2) :
    Calls Try.prog 16 #[.slice A ws.length c] w (RetP w (rootsC [oneC] ws)) := by
  have hone : AllFit [oneC] 1 := by
    intro x hx
    have : x = oneC := by simpa using hx
    subst this
    exact ⟨by decide, by decide⟩
  go_enter Try.func16, Try.ntmps16
  go_wp2_with ((with_reducible refine gate_dst (N := 14) rfl ?_); refine Kd.R_lit cx w.heap.size 26 ?hg (N := 14) ?hd (xs := [oneC]) (inner := [.float .f64 4607182418800017408, .float .f64 0]) (ok := fun _ => True) (okp := fun _ => True) ?hr ?hp (fun _ hk => hk) trivial (Below.refl _ _) (Nat.le_refl _) (by simp) ?_; (case hd => rfl); (case hg => rfl); (case hr => first | (go_simp; done) | (go_simp; rfl)); (case hp => exact Reps.snoc (Reps.none _ _) ⟨_, _, rfl, one_int, zero_int⟩ rfl); intro v1 w1 ho1 hb1 hg1 hnew1; clear hg1 hnew1)
  go_loopw [3, 17] (fun v i wr => ∃ k : Nat, k ≤ ws.length ∧ i = .int .i64 k ∧ cx.R 26 wr w.heap.size (fun _ => True) v (rootsC [oneC] (ws.take k)) ∧ Below w.heap.size w wr) (fun _ i _ => ws.length - (intOf i).toNat)
  case atStart => exact ⟨0, Nat.zero_le _, rfl, ho1, hb1⟩
  case round =>
    clear ho1 hb1 w1
    obtain ⟨k, hk, rfl, ho, hb⟩ := hrel
    by_cases hlt : k < ws.length
    · obtain ⟨ad, p, q, rfl, e1, e2, hl⟩ := cx_load hr k hlt
      obtain ⟨hl1, hl2⟩ := hl _ hb
      clear hl
      obtain ⟨Ao, co, rfl, hco, hro⟩ := Kd.R_reads ho
      have hlen : (rootsC [oneC] (ws.take k)).length = k + 1 := by rw [roots_length]; simp; omega
      have htop : Top (rootsC [oneC] (ws.take k)) := roots_top _ _ ⟨[], rfl⟩
      have hfit : AllFit (rootsC [oneC] (ws.take k)) 390625 := by
        have h1 := fits_roots (fun y hy => hW y (List.mem_of_mem_take hy)) hone (ws := ws.take k)
        have h2 : 5 ^ (ws.take k).length ≤ 5 ^ 8 := Nat.pow_le_pow_right (by omega) (by rw [List.length_take]; omega)
        intro y hy
        exact fits_mono (h1 y hy) (by rw [Nat.mul_one]; exact Nat.le_trans h2 (by decide))
      have hsnoc : mulroot (ws.getD k zeroC) zeroC (rootsC [oneC] (ws.take k)) = rootsC [oneC] (ws.take (k + 1)) := by
        rw [List.take_add_one, List.getElem?_eq_getElem hlt, Option.toList_some, roots_snoc, List.getD_eq_getElem?_getD, List.getElem?_eq_getElem hlt]
        rfl
      have hu : Fits (ws.getD k zeroC) 2 := hW.get k
      generalize rootsC [oneC] (ws.take k) = xs at *
      generalize ws.getD k zeroC = u at *
      clear ho
      go_upto_region 7 with fail
      have hz2 := hb.size
      have hl1' : xs.length ≤ k + 1 := by omega
      have hl2' : k + 1 ≤ xs.length := by omega
      clear hlen
      have cw := Cell2.new wr p q
      replace hro := Kd.C_below hro (below_alloc (Below.refl _ wr) (Obj.cells #[.float .f64 p, .float .f64 q] 26))
      replace hb := Below.alloc hb hb.size (Obj.cells #[.float .f64 p, .float .f64 q] 26)
      have hz1 : wr.heap.size < (wr.alloc (Obj.cells #[.float .f64 p, .float .f64 q] 26)).heap.size := by simp
      clear hl1 hl2
      generalize hBW : wr.heap.size = BW at *
      clear hBW
      generalize wr.alloc (Obj.cells #[.float .f64 p, .float .f64 q] 26) = wo at *
      go_upto_region 8 with ((with_reducible refine gate_dst (N := 24) rfl ?_); refine R_make0 cx (w0 := wo) wo.heap.size 26 ?hg (N := 24) ?hd 33 (.const (.int .i64 0)) (.tmp 23) rfl (xs.length + 1) rfl ?hy Try.underlying33 _ 16 info26 (by decide) (ok := fun _ => True) trivial ?hl (Below.refl _ _) (Nat.le_refl _) ?_; (case hd => rfl); (case hg => rfl); (case hy => rfl); (case hl => omega); intro v1 w1 ho1 hb1 hg1)
      clear hg1
      have ho1' : cx.R 26 (w1.alloc (Obj.cells #[.float .f64 0, .float .f64 0] 26)) wo.heap.size (fun k => k ≠ w1.heap.size) v1 [] := Kd.R_alloc (Kd.R_mono (Kd.R_bound ho1) (fun k hk => Nat.ne_of_lt hk.2.2.1)) _
      have cl := Cell2.new w1 0 0
      have cw1 := (cw.below hb1 hz1).below (Below.alloc (Below.refl w1.heap.size w1) (Nat.le_refl _) (Obj.cells #[.float .f64 0, .float .f64 0] 26)) (by have := hb1.size; omega)
      have hzL := hb1.size
      have hLs : w1.heap.size < (w1.alloc (Obj.cells #[.float .f64 0, .float .f64 0] 26)).heap.size := by simp
      replace hb1 := Below.alloc hb1 hb1.size (Obj.cells #[.float .f64 0, .float .f64 0] 26)
      have hzw := hb.size
      clear ho1 cw
      go_upto_region 9 with fail
      generalize hL : w1.heap.size = L at *
      clear hL
      generalize w1.alloc (Obj.cells #[.float .f64 0, .float .f64 0] 26) = w2 at *
      clear w1
      have hst : InStep w wo BW L u xs 0 v1 w2 := ⟨0, 0, p, q, hLs, cl, cw1, zero_int, zero_int, e1, e2, hb1, ho1'⟩
      clear ho1' cl cw1 e1 e2 hb1 hLs
      obtain ⟨woo, hwoo⟩ : ∃ woo, woo = wr := ⟨_, rfl⟩
      clear hwoo
      go_wp2_with fail
      go_loopw [6, 28] (fun v i wi => ∃ j : Nat, j ≤ xs.length ∧ i = .int .i64 j ∧ InStep w wo BW L u xs j v wi) (fun _ i _ => xs.length - (intOf i).toNat)
      case atStart => exact ⟨0, Nat.zero_le _, rfl, hst⟩
      case round =>
        clear hst
        obtain ⟨j, hj, rfl, p1, q1, r, s, hL1, cl, cw, f1, f2, f3, f4, hbi, hoi⟩ := hrel
        by_cases hjl : j < xs.length
        · obtain ⟨ad2, px, qx, rfl, g1, g2, hl⟩ := cx_load hro j hjl
          obtain ⟨hl1, hl2⟩ := hl _ hbi
          clear hl
          have hXL : L < wr.heap.size := hL1
          have cX := Cell2.new wr px qx
          have hza := Below.alloc (Below.refl wr.heap.size wr) (Nat.le_refl _) (Obj.cells #[.float .f64 px, .float .f64 qx] 26)
          have hzX : wr.heap.size < (wr.alloc (Obj.cells #[.float .f64 px, .float .f64 qx] 26)).heap.size := by simp
          have hzo := hbi.size
          have hBWi : BW < wr.heap.size := by omega
          have hoa : cx.R 26 (wr.alloc (Obj.cells #[.float .f64 px, .float .f64 qx] 26)) wo.heap.size (fun k => k ≠ L ∧ k < wr.heap.size) u6 ((mulroot u zeroC xs).take j) := Kd.R_below (Kd.R_mono (Kd.R_bound hoi) (fun k hk => ⟨hk.1, hk.2.2.1⟩)) hza
          go_upto_region 12 with fail
          generalize hX : wr.heap.size = X at *
          clear hX
          replace cl := cl.below hza hL1
          replace cw := cw.below hza hBWi
          have hlow : Fits ((zeroC :: xs).getD j zeroC) 390625 := by
            refine AllFit.get (xs := zeroC :: xs) (X := 390625) ?_ j
            intro y hy
            rcases List.mem_cons.1 hy with rfl | hy
            · exact fits_zero _
            · exact hfit y hy
          have hcl := cl
          have hcw := cw
          have hcX := cX
          generalize hwa : wr.alloc (Obj.cells #[.float .f64 px, .float .f64 qx] 26) = wa at *
          have hk0 := fun w' (h : Below wa.heap.size wa w') => (hcl.below h (by omega)).1
          have hk1 := fun w' (h : Below wa.heap.size wa w') => (hcl.below h (by omega)).2.1
          have hk2 := fun w' (h : Below wa.heap.size wa w') => (hcw.below h (by omega)).1
          have hk3 := fun w' (h : Below wa.heap.size wa w') => (hcw.below h (by omega)).2.1
          have hk4 := fun w' (h : Below wa.heap.size wa w') => (hcX.below h hzX).1
          have hk5 := fun w' (h : Below wa.heap.size wa w') => (hcX.below h hzX).2.1
          have hboa : Below wo.heap.size wo wa := by rw [← hwa]; exact Below.alloc hbi hbi.size _
          clear hwa hcl hcw hcX
          refine start_ (n := 9) (S := fun w' => Below wa.heap.size wa w') (ds := [6, 7]) #[false, false, false, false, false, false, false, false, false] (by kernel_rfl) rfl rfl (Below.drew (Below.refl _ _)) (fun hHeld => ?_)
          generalize wa.drew = w2 at hHeld ⊢
          refine pure_ (i := 0) (N := some 32) (v := ?_) (a' := ?_) #[true, false, false, false, false, false, false, false, false] rfl rfl (by kernel_rfl) (fun _ _ _ h => h) (Or.inl ⟨by rfl, ?_⟩) ?_ ?_
          rotate_left
          · intro w'
            go_simp
            with_reducible rfl
          rotate_left
          · simp only [Act.put, List.setIfInBounds_toArray, List.set_cons_zero, List.set_cons_succ, i64_w, i32_w]
            rfl
          refine take_ (i := 1) (N := some 33) (v := ?_) (a' := ?_) #[true, true, false, false, false, false, false, false, false] rfl rfl (by kernel_rfl) (fun _ _ _ h => h) (Or.inl ⟨by rfl, ?_⟩) hHeld ?_ ?_
          rotate_left
          · rintro w' hS_
            go_simp
            with_reducible rfl
          rotate_left
          · simp only [Act.put, List.setIfInBounds_toArray, List.set_cons_zero, List.set_cons_succ, i64_w, i32_w]
            rfl
          refine take_ (i := 2) (N := some 34) (v := ?_) (a' := ?_) #[true, true, true, false, false, false, false, false, false] rfl rfl (by kernel_rfl) (fun _ _ _ h => h) (Or.inl ⟨by rfl, ?_⟩) hHeld ?_ ?_
          rotate_left
          · rintro w' hS_
            go_simp
            with_reducible rfl
          rotate_left
          · simp only [Act.put, List.setIfInBounds_toArray, List.set_cons_zero, List.set_cons_succ, i64_w, i32_w]
            rfl
          refine take_ (i := 3) (N := some 35) (v := ?_) (a' := ?_) #[true, true, true, true, false, false, false, false, false] rfl rfl (by kernel_rfl) (fun _ _ _ h => h) (Or.inl ⟨by rfl, ?_⟩) hHeld ?_ ?_
          rotate_left
          · rintro w' hS_
            go_simp
            with_reducible rfl
          rotate_left
          · simp only [Act.put, List.setIfInBounds_toArray, List.set_cons_zero, List.set_cons_succ, i64_w, i32_w]
            rfl
          refine one_ (i := 4) (N := some 36) #[true, true, true, true, true, false, false, false, false] rfl rfl (by kernel_rfl) (by decide) (fun K hK => ?_)
          refine goes_ Try.func14 (by kernel_rfl) rfl #[.agg #[.float .f64 r, .float .f64 s], .agg #[.float .f64 px, .float .f64 qx]] (by rfl) rfl rfl (by (try simp only [List.map_toArray, List.map_cons, List.map_nil]); first | done | rfl) ?_
          refine (mul_calls u (xs.getD j zeroC) 2 390625 r s px qx _ hu (hfit.get j) (by omega) f3 f4 g1 g2).mono ?_
          rintro e w3 ⟨p3, q3, rfl, m1, m2, hb3⟩
          refine ⟨_, rfl, ?_⟩
          have hB3 := (bstep (n := wa.heap.size) (w := wa) hHeld hb3 hHeld.size).1
          clear hb3 hHeld
          refine hK.out _ _ hB3 (fun hHeld => ?_)
          clear hK K
          refine norm_ (a' := ?_) ?_ ?_
          rotate_left
          · show Act.put _ (some 36) _ = _
            simp only [Act.put, List.setIfInBounds_toArray, List.set_cons_zero, List.set_cons_succ, i64_w, i32_w]
            rfl
          refine one_ (i := 5) (N := some 37) #[true, true, true, true, true, true, false, false, false] rfl rfl (by kernel_rfl) (by decide) (fun K hK => ?_)
          refine goes_ Try.func34 (by kernel_rfl) rfl #[.agg #[.float .f64 p1, .float .f64 q1], .agg #[.float .f64 p3, .float .f64 q3]] (by rfl) rfl rfl (by (try simp only [List.map_toArray, List.map_cons, List.map_nil]); first | done | rfl) ?_
          refine (sub_calls ((zeroC :: xs).getD j zeroC) (mulC u (xs.getD j zeroC)) 390625 1562500 p1 q1 p3 q3 _ hlow (fits_mono (fits_mul hu (hfit.get j)) (by omega)) (by omega) f1 f2 m1 m2).mono ?_
          rintro e w4 ⟨p4, q4, rfl, m3, m4, hb4⟩
          refine ⟨_, rfl, ?_⟩
          have hB4 := (bstep (n := wa.heap.size) (w := wa) hB3 hb4 hB3.size).1
          clear hb4 hB3
          refine hK.out _ _ hB4 (fun hHeld => ?_)
          clear hK K
          refine norm_ (a' := ?_) ?_ ?_
          rotate_left
          · show Act.put _ (some 37) _ = _
            simp only [Act.put, List.setIfInBounds_toArray, List.set_cons_zero, List.set_cons_succ, i64_w, i32_w]
            rfl
          refine last_ (i := 6) (N := some 38) #[true, true, true, true, true, true, true, false, false] rfl rfl (by kernel_rfl) (by decide) (fun K hK => ?_)
          refine value_ (w1 := ?_) (v := ?_) (by rfl) rfl ?_ ?_
          rotate_left 2
          · go_simp
            constructor
            · rfl
            · rfl
          refine hK.out _ _ ?_
          clear hK K
          refine norm_ (a' := ?_) ?_ ?_
          rotate_left
          · show Act.put _ (some 38) _ = _
            simp only [Act.put, List.setIfInBounds_toArray, List.set_cons_zero, List.set_cons_succ, i64_w, i32_w]
            rfl
          refine last_ (i := 7) (N := some 39) #[true, true, true, true, true, true, true, true, false] rfl rfl (by kernel_rfl) (by decide) (fun K hK => ?_)
          refine Kd.R_append_step cx (w0 := wo) wo.heap.size (by rfl) (.tmp 32) (.tmp 38) 33 26 (.agg #[.float .f64 0, .float .f64 0]) 16 rfl Try.underlying33 info26 rfl (by decide) (by omega) u6 ((mulroot u zeroC xs).take j) (subC ((zeroC :: xs).getD j zeroC) (mulC u (xs.getD j zeroC))) [.float .f64 p4, .float .f64 q4] (fun k => k ≠ L ∧ k ≠ X) (fun _ => False) rfl rfl ?aP (fun _ hk => hk.elim) ?aF ?aO ?aB ?aS ?aL ?_
          (case aP => exact ⟨p4, q4, rfl, m3, m4⟩)
          (case aF => exact fun k hk => by have := hHeld.size; constructor <;> omega)
          (case aO => exact Kd.R_below (Kd.R_mono hoa (fun k hk => ⟨hk.1, by omega⟩)) hHeld)
          (case aB => exact below_step hboa hHeld)
          (case aS => exact (below_step hboa hHeld).size)
          (case aL => rw [List.length_take]; omega)
          intro v5 w5 ho5 hb5 hg5 hat5
          rw [← mulroot_take u zeroC xs j hjl] at ho5
          have cl5 : Cell2 w5 L p1 q1 := Cell2.grown (cl.below hHeld (by omega)) hg5 (by have := hHeld.size; omega) (fun h => (hoi.1 L h.symm) rfl)
          have cX5 : Cell2 w5 X px qx := Cell2.grown (cX.below hHeld hzX) hg5 (by have := hHeld.size; omega) (fun h => by have := (hoa.1 X h.symm).2; omega)
          have cw5 : Cell2 w5 BW r s := Cell2.grown (cw.below hHeld (by omega)) hg5 (by have := hHeld.size; omega) (fun h => by have := own_base_of hoi BW h.symm; omega)
          have hz5 := hg5.size
          have hzh := hHeld.size
          clear hat5 hg5 hk0 hk1 hk2 hk3 hk4 hk5 cl cX cw hHeld m1 m2 m3 m4
          refine hK.out _ _ ?_
          clear hK K
          refine norm_ (a' := ?_) ?_ ?_
          rotate_left
          · show Act.put _ (some 39) _ = _
            simp only [Act.put, List.setIfInBounds_toArray, List.set_cons_zero, List.set_cons_succ, i64_w, i32_w]
            rfl
          refine pure_ (i := 8) (N := some 6) (v := ?_) (a' := ?_) #[true, true, true, true, true, true, true, true, true] rfl rfl (by kernel_rfl) (fun _ _ _ h => h) (Or.inl ⟨by rfl, ?_⟩) ?_ ?_
          rotate_left
          · intro w'
            go_simp
            with_reducible rfl
          rotate_left
          · simp only [Act.put, List.setIfInBounds_toArray, List.set_cons_zero, List.set_cons_succ, i64_w, i32_w]
            rfl
          refine done_ (by kernel_rfl) ?_
          have cX5w := cX5
          obtain ⟨y0, y1, y2, y3⟩ := cX5w
          have cl5w := cl5
          obtain ⟨z0, z1, z2, z3⟩ := cl5w
          go_wp2_with fail
          go_roundw
          case rel => exact ⟨j + 1, by omega, by go_num, px, qx, r, s, by first | omega | (simp; done) | (simp; omega), cl5.same _ _, cw5.other _ _ (by omega), g1, g2, f3, f4, (hb5.setCell (by first | omega | (simp; done) | (simp; omega)) _).setCell (by first | omega | (simp; done) | (simp; omega)) _, Kd.R_far (p := ⟨L, 1, none⟩) (Kd.R_far (p := ⟨L, 0, none⟩) (Kd.R_mono ho5 (fun k hk => hk.1)) (fun k hk => hk) _) (fun k hk => hk) _⟩
          case measure => (simp [intOf]; try omega)
        · have hje : j = xs.length := by omega
          rw [hje] at hoi
          clear hje
          have hlt2 : decide ((j : Int) < (xs.length : Int)) = false := decide_eq_false (by omega)
          have hlt3 : decide (j < xs.length) = false := decide_eq_false hjl
          go_wp2_with ((with_reducible refine gate_builtin (b := .append) (xs := #[.tmp 42, .tmp 44]) rfl ?_); at_builtin; refine Kd.R_append cx (w0 := wo) wo.heap.size rfl (.tmp 42) (.tmp 44) 33 26 (.agg #[.float .f64 0, .float .f64 0]) 16 rfl Try.underlying33 info26 rfl (by decide) (by omega) u6 ((mulroot u zeroC xs).take xs.length) oneC [.float .f64 4607182418800017408, .float .f64 0] (fun _ => True) (fun _ => False) rfl rfl ?aP (fun _ hk => hk.elim) ?aF ?aO ?aB ?aS ?aL ?_; (case aP => exact ⟨_, _, rfl, one_int, zero_int⟩); (case aB => exact hbi); (case aF => exact (fun _ _ => trivial)); (case aO => exact Kd.R_mono hoi (fun _ _ => trivial)); (case aS => exact hbi.size); (case aL => rw [List.length_take]; omega); intro v9 w9 ho9 hb9 hg9 hat9)
          rw [top_mulroot htop u] at ho9
          rw [hsnoc] at ho9
          have hb10 := below_step hb hb9
          have ho10 := Kd.R_mono (Kd.R_lower ho9 hzw) (fun _ _ => trivial) (ok' := fun _ => True)
          clear hg9 hat9 ho9 hb9 hoi
          go_wp2_with fail
          go_roundw
          case rel => exact ⟨k + 1, by omega, by go_num, ho10, hb10⟩
          case measure => (simp [intOf]; try omega)
    · have hke : ws.take k = ws := List.take_of_length_le (by omega)
      rw [hke] at ho
      clear hke
      have hlt2 : decide ((k : Int) < (ws.length : Int)) = false := decide_eq_false (by omega)
      have hlt3 : decide (k < ws.length) = false := decide_eq_false hlt
      go_wp2_with fail
      go_ret
      exact ⟨_, rfl, ho, hb⟩
end Go.Proofs.Ytodgognfnpcdgaa.FltH
