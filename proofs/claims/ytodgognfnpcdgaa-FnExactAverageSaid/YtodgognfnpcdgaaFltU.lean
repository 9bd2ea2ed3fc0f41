/- Rows of rows of pairs: the walks of toPairSS, eqPairSS, markPairSS. -/
import Derived.Test.YtodgognfnpcdgaaFltT
namespace Go.Proofs.Ytodgognfnpcdgaa.FltU
open Go.RowKit Go.Proofs.Ytodgognfnpcdgaa.Flt Go.Proofs.Ytodgognfnpcdgaa.FltA Go.Proofs.Ytodgognfnpcdgaa.FltB Go.Proofs.Ytodgognfnpcdgaa.FltD Go.Proofs.Ytodgognfnpcdgaa.FltN Go.Proofs.Ytodgognfnpcdgaa.FltO Go.Proofs.Ytodgognfnpcdgaa.FltP Go.Proofs.Ytodgognfnpcdgaa.FltQ Go.Proofs.Ytodgognfnpcdgaa.FltR Go.Proofs.Ytodgognfnpcdgaa.FltT Go.Proofs.YtodgognfnpcdgaaW.PrintWords Go.Proofs.YtodgognfnpcdgaaW.PrintLast Go.Proofs.YtodgognfnpcdgaaW.PrintMore
set_option linter.unusedVariables false
set_option linter.unusedSimpArgs false
attribute [local go_sem] run_store_float

theorem info33 : (Try.prog.info? 33).map (fun i => (i.zero, i.size, i.bytes)) = some (some (.slice none 0 0), 1, 24) := by kernel_rfl
theorem at_S {w : World} {b : Nat} {ok : Nat → Prop} {v : Value} {xs : List (List Nat)} (h : Kd.S rowP 33 w b ok v xs) (i : Nat) (hi' : i < xs.length) :
    ∃ g c u m oki, v = .slice (some ⟨g, 0, none⟩) xs.length c ∧ w.cell? ⟨g, i, none⟩ = some u ∧ w.frozen? ⟨g, i, none⟩ = false ∧ b ≤ g ∧ g < w.heap.size ∧ ok g ∧ (∀ k, oki k → ok k ∧ k ≠ g) ∧ (∀ k, u.ownBlock = some k → oki k) ∧ FOwn w b 26 2 u m (xs.getD i []) ∧
      Kd.H rowP 33 w b ok v xs (i : Int) oki [u] := by
  obtain ⟨g, c, rfl, hg, hl, cells, hc⟩ := Kd.S_form h (by omega)
  obtain ⟨oki, cs, hcl, hM, hcc, hfr, hok, hH⟩ := Kd.S_elem h [] (i : Int) (by omega) (by omega)
  obtain ⟨u, m, rfl, hu, hF⟩ := hM
  have hcell := hcc 0 u rfl
  have hf := hfr 0
  simp only [show rowP.sz = 1 from rfl, Nat.mul_one, Nat.add_zero, Int.toNat_natCast] at hcell hf hF
  exact ⟨g, c, u, m, oki, rfl, hcell, hf, hg, hl, (Kd.S_R h).1 g (by simp [Value.ownBlock]), hok, hu, hF, hH⟩
theorem getD_setL (l : List (List Nat)) (i j : Nat) (x : List Nat) (h : i < l.length) : (l.set i x).getD j [] = if j = i then x else l.getD j [] := by
  rw [List.getD_eq_getElem?_getD, List.getElem?_set, List.getD_eq_getElem?_getD]
  by_cases e : j = i
  · subst e; simp [h]
  · rw [if_neg (fun h' => e h'.symm), if_neg e]
theorem ext_getDL {xs ys : List (List Nat)} (hl : xs.length = ys.length) (h : ∀ j, j < xs.length → xs.getD j [] = ys.getD j []) : xs = ys := by
  apply List.ext_getElem hl
  intro j h1 h2
  have := h j h1
  rw [List.getD_eq_getElem?_getD, List.getD_eq_getElem?_getD, List.getElem?_eq_getElem h1, List.getElem?_eq_getElem h2] at this
  exact this
/-- rows of rows of its own come back -/
def RetS (n : Nat) (xs : List (List Nat)) (w : World) (e : Ending) (w' : World) : Prop := ∃ v, e = .returned v ∧ Kd.S rowP 33 w' w.heap.size (fun _ => True) v xs ∧ Below w.heap.size w w'

set_option maxHeartbeats 2000000 in
theorem toRows_calls {A : Option Addr} {c n : Nat} {xs : List (List Nat)} (w : World) (hC : rowP.C w A n xs) (hc : n ≤ c) (hs : Small n xs) :
    Calls Try.prog 29 #[.slice A n c] w (RetS n xs w) := by
  have hn := hs.few
  have hxl : xs.length = n := hC.1
  go_enter Try.func29, Try.ntmps29
  go_wp2_with (first | ((with_reducible refine gate_dst (N := 7) rfl ?_); refine Kd.S_make rowP (w0 := w) w.heap.size 33 rfl (N := 7) rfl 50 _ _ rfl (n : Int) rfl rfl Try.underlying50 (.slice none 0 0) 24 info33 rfl (by decide) (by omega) [] (ok := fun _ => True) (okp := fun _ => True) ⟨_, 0, rfl, (fun k hk => by simp [Value.ownBlock] at hk), ⟨World.ownsRow_nil _ _ _ _⟩⟩ (fun _ hk => hk) trivial (by omega) (by rw [Int.toNat_natCast]; omega) (Below.refl _ _) (Nat.le_refl _) ?_; intro v3 w1 ho1 hb1 hg_ hnew_; clear hg_ hnew_))
  rw [Int.toNat_natCast] at ho1
  go_loopw [4] (fun i wr => ∃ k : Nat, k ≤ n ∧ i = .int .i64 k ∧ ∃ ys : List (List Nat), ys.length = n ∧ (∀ j, j < k → ys.getD j [] = xs.getD j []) ∧ Kd.S rowP 33 wr w.heap.size (fun _ => True) v3 ys ∧ Below w.heap.size w wr) (fun i _ => n - (intOf i).toNat)
  case atStart => exact ⟨0, Nat.zero_le _, rfl, _, by simp, fun j hj => by omega, ho1, hb1⟩
  case round =>
    clear ho1 hb1
    obtain ⟨k, hk, rfl, ys, hyl, heq, ho, hb⟩ := hrel
    by_cases hlt : k < n
    · obtain ⟨ad, A0, m, c0, rfl, hx, hmc, hF⟩ := at_rows (Kd.C_below hC hb) k hlt
      have hml : (xs.getD k []).length / 2 = m := by have := hF.1; omega
      have hm2 := hs.row hlt
      rw [hml] at hm2
      obtain ⟨g, cg, u, mu, oki, he, hcell, hfr, hbg, hgl, _, hok, hu, hFu, hH⟩ := at_S ho k (by omega)
      rw [hyl] at he
      subst he
      have hl2 : decide ((k : Int) < (n : Int)) = true := decide_eq_true (by omega)
      have hl3 : decide (k < n) = true := decide_eq_true hlt
      have HEQ := Lib.hid heq
      clear hml hFu hu heq
      go_wp2_with fail
      refine (toPairs_calls A0 c0 m _ _ hF hmc hm2).mono ?_
      rintro e w2 ⟨v2, rfl, o2, hb2⟩
      obtain ⟨A2, c2, rfl, hc2, _⟩ := o2.flat
      have hcell2 := (hb2.cell (World.block_lt_of_cell? wr _ hcell)).trans hcell
      have hfr2 : w2.frozen? ⟨g, k, none⟩ = false := by
        have hh : w2.heap[g]? = wr.heap[g]? := hb2.block g hgl
        simpa [World.frozen?, hh] using hfr
      have hH2 := Kd.H_below (Kd.H_widen hH) hb2
      have hz2 := hb2.size
      replace hb := below_step hb hb2
      clear hcell hfr hx hmc hc2 hH hb2
      go_wp2_with fail
      obtain ⟨hH8, hg8⟩ := Kd.H_seg hH2 (by omega) (by omega) (seg := [.slice A2 m c2]) (j := 0) (show 0 + 1 ≤ 1 by omega) (fun q hq => by rw [List.mem_singleton.1 hq]; rfl)
      have e8 : w2.setCells g ((k : Int).toNat * rowP.sz + 0) [.slice A2 m c2] = w2.setCell ⟨g, k, none⟩ (.slice A2 m c2) := by
        simp [World.setCells, show rowP.sz = 1 from rfl]
      rw [e8] at hH8 hg8
      have hM : rowP.M w2 w.heap.size (fun i => wr.heap.size ≤ i) (xs.getD k []) [.slice A2 m c2] := ⟨_, m, rfl, fun i hi => (FOwn.blocks o2 i hi).1, FOwn.lower o2 (by omega)⟩
      have hM8 := Kd.M_grown hM hg8 (fun i hi e_ => by injection e_ with e_; omega)
      have hS8 := Kd.H_back hH8 hM8 (fun i hi => .inr ⟨trivial, hi⟩)
      rw [Int.toNat_natCast] at hS8
      go_roundw
      case rel => exact ⟨k + 1, by omega, by go_num, ys.set k (xs.getD k []), by rw [List.length_set]; exact hyl, fun j hj => by
          rw [getD_setL _ _ _ _ (by omega)]
          by_cases e1 : j = k
          · rw [if_pos e1, e1]
          · rw [if_neg e1]; exact HEQ.out j (by omega), hS8, below_set hb hbg⟩
      case measure => (simp [intOf]; try omega)
    · have hkn : n ≤ k := by omega
      have hlt2 : decide ((k : Int) < (n : Int)) = false := decide_eq_false (by omega)
      have hlt3 : decide (k < n) = false := decide_eq_false hlt
      have he : ys = xs := ext_getDL (by omega) (fun j hj => heq j (by omega))
      subst he
      obtain ⟨A3, c3, rfl⟩ := Kd.S_slice ho
      clear heq
      go_wp2_with fail
      go_ret
      exact ⟨_, rfl, ho, hb⟩

set_option maxHeartbeats 1000000 in
theorem eqRows_calls (A B : Option Addr) (c d n : Nat) (xs : List (List Nat)) (w : World) (hA : rowP.C w A n xs) (hB : rowP.C w B n xs) (hc : n ≤ c) (hd : n ≤ d) (hs : Small n xs) :
    Calls Try.prog 31 #[.slice A n c, .slice B n d] w fun e w' => e = .returned (.bool true) ∧ Below w.heap.size w w' := by
  have hn := hs.few
  go_enter Try.func31, Try.ntmps31
  go_wp2_with fail
  go_loopw [5] (fun i wr => ∃ k : Nat, k ≤ n ∧ i = .int .i64 k ∧ Below w.heap.size w wr) (fun i _ => n - (intOf i).toNat)
  case atStart => exact ⟨0, Nat.zero_le _, rfl, Below.refl _ _⟩
  case round =>
    obtain ⟨k, hk, rfl, hb⟩ := hrel
    by_cases hlt : k < n
    · obtain ⟨ad, A0, m, c0, rfl, ha, hmc, FA⟩ := at_rows (Kd.C_below hA hb) k hlt
      obtain ⟨bd, B0, m2, d0, rfl, hbx, hmd, FB⟩ := at_rows (Kd.C_below hB hb) k hlt
      obtain rfl : m = m2 := by have h1 := FA.1; have h2 := FB.1; omega
      have hm2 : m ≤ 2000000 := by have := hs.row hlt; have := FA.1; omega
      have hl2 : decide ((k : Int) < (n : Int)) = true := decide_eq_true (by omega)
      have hl3 : decide (k < n) = true := decide_eq_true hlt
      go_wp2_with fail
      have hk0 := fun w' (h : Below wr.heap.size wr w') => (h.cell (World.block_lt_of_cell? wr _ ha)).trans ha
      have hk1 := fun w' (h : Below wr.heap.size wr w') => (h.cell (World.block_lt_of_cell? wr _ hbx)).trans hbx
      refine start_ (n := 10) (S := fun w' => Below wr.heap.size wr w') (ds := []) #[false, false, false, false, false, false, false, false, false, false] (by kernel_rfl) rfl rfl (Below.drew (Below.refl _ _)) (fun hHeld => ?_)
      generalize wr.drew = w2 at hHeld ⊢
      refine take_ (i := 0) (N := some 17) (v := ?_) (a' := ?_) #[true, false, false, false, false, false, false, false, false, false] rfl rfl (by kernel_rfl) (fun _ _ _ h => h) (Or.inl ⟨by rfl, ?_⟩) hHeld ?_ ?_
      rotate_left
      · rintro w' hS_
        go_simp
        with_reducible rfl
      rotate_left
      · simp only [Act.put, List.setIfInBounds_toArray, List.set_cons_zero, List.set_cons_succ, i64_w, i32_w]
        rfl
      refine take_ (i := 1) (N := some 18) (v := ?_) (a' := ?_) #[true, true, false, false, false, false, false, false, false, false] rfl rfl (by kernel_rfl) (fun _ _ _ h => h) (Or.inl ⟨by rfl, ?_⟩) hHeld ?_ ?_
      rotate_left
      · rintro w' hS_
        go_simp
        with_reducible rfl
      rotate_left
      · simp only [Act.put, List.setIfInBounds_toArray, List.set_cons_zero, List.set_cons_succ, i64_w, i32_w]
        rfl
      refine take_ (i := 2) (N := some 19) (v := ?_) (a' := ?_) #[true, true, true, false, false, false, false, false, false, false] rfl rfl (by kernel_rfl) (fun _ _ _ h => h) (Or.inl ⟨by rfl, ?_⟩) hHeld ?_ ?_
      rotate_left
      · rintro w' hS_
        go_simp
        with_reducible rfl
      rotate_left
      · simp only [Act.put, List.setIfInBounds_toArray, List.set_cons_zero, List.set_cons_succ, i64_w, i32_w]
        rfl
      refine take_ (i := 3) (N := some 20) (v := ?_) (a' := ?_) #[true, true, true, true, false, false, false, false, false, false] rfl rfl (by kernel_rfl) (fun _ _ _ h => h) (Or.inl ⟨by rfl, ?_⟩) hHeld ?_ ?_
      rotate_left
      · rintro w' hS_
        go_simp
        with_reducible rfl
      rotate_left
      · simp only [Act.put, List.setIfInBounds_toArray, List.set_cons_zero, List.set_cons_succ, i64_w, i32_w]
        rfl
      refine take_ (i := 4) (N := some 21) (v := ?_) (a' := ?_) #[true, true, true, true, true, false, false, false, false, false] rfl rfl (by kernel_rfl) (fun _ _ _ h => h) (Or.inl ⟨by rfl, ?_⟩) hHeld ?_ ?_
      rotate_left
      · rintro w' hS_
        go_simp
        with_reducible rfl
      rotate_left
      · simp only [Act.put, List.setIfInBounds_toArray, List.set_cons_zero, List.set_cons_succ, i64_w, i32_w]
        rfl
      refine take_ (i := 5) (N := some 22) (v := ?_) (a' := ?_) #[true, true, true, true, true, true, false, false, false, false] rfl rfl (by kernel_rfl) (fun _ _ _ h => h) (Or.inl ⟨by rfl, ?_⟩) hHeld ?_ ?_
      rotate_left
      · rintro w' hS_
        go_simp
        with_reducible rfl
      rotate_left
      · simp only [Act.put, List.setIfInBounds_toArray, List.set_cons_zero, List.set_cons_succ, i64_w, i32_w]
        rfl
      refine take_ (i := 6) (N := some 23) (v := ?_) (a' := ?_) #[true, true, true, true, true, true, true, false, false, false] rfl rfl (by kernel_rfl) (fun _ _ _ h => h) (Or.inl ⟨by rfl, ?_⟩) hHeld ?_ ?_
      rotate_left
      · rintro w' hS_
        go_simp
        with_reducible rfl
      rotate_left
      · simp only [Act.put, List.setIfInBounds_toArray, List.set_cons_zero, List.set_cons_succ, i64_w, i32_w]
        rfl
      refine take_ (i := 7) (N := some 24) (v := ?_) (a' := ?_) #[true, true, true, true, true, true, true, true, false, false] rfl rfl (by kernel_rfl) (fun _ _ _ h => h) (Or.inl ⟨by rfl, ?_⟩) hHeld ?_ ?_
      rotate_left
      · rintro w' hS_
        go_simp
        with_reducible rfl
      rotate_left
      · simp only [Act.put, List.setIfInBounds_toArray, List.set_cons_zero, List.set_cons_succ, i64_w, i32_w]
        rfl
      refine one_ (i := 8) (N := some 25) #[true, true, true, true, true, true, true, true, true, false] rfl rfl (by kernel_rfl) (by decide) (fun K hK => ?_)
      refine goes_ Try.func23 (by kernel_rfl) rfl #[.slice A0 m c0, .slice B0 m d0] (by rfl) rfl rfl (by (try simp only [List.map_toArray, List.map_cons, List.map_nil]); first | done | rfl) ?_
      refine (eqPairs_calls A0 B0 c0 d0 m _ _ rfl _ (FA.below hHeld) (FB.below hHeld) hmc hmd hm2).mono ?_
      rintro e w3 ⟨rfl, hb3⟩
      refine ⟨_, rfl, ?_⟩
      have hB3 := (bstep (n := wr.heap.size) (w := wr) hHeld hb3 hHeld.size).1
      clear hb3 hHeld
      refine hK.out _ _ hB3 (fun hHeld => ?_)
      clear hK K
      refine norm_ (a' := ?_) ?_ ?_
      rotate_left
      · show Act.put _ (some 25) _ = _
        simp only [Act.put, List.setIfInBounds_toArray, List.set_cons_zero, List.set_cons_succ, i64_w, i32_w]
        rfl
      refine pure_ (i := 9) (N := some 26) (v := ?_) (a' := ?_) #[true, true, true, true, true, true, true, true, true, true] rfl rfl (by kernel_rfl) (fun _ _ _ h => h) (Or.inl ⟨by rfl, ?_⟩) ?_ ?_
      rotate_left
      · intro w'
        go_simp
        with_reducible rfl
      rotate_left
      · simp only [Act.put, List.setIfInBounds_toArray, List.set_cons_zero, List.set_cons_succ, i64_w, i32_w]
        rfl
      refine done_ (by kernel_rfl) ?_
      go_wp2_with fail
      go_roundw
      case rel => exact ⟨k + 1, by omega, by go_num, below_step hb hHeld⟩
      case measure => (simp [intOf]; try omega)
    · have hlt2 : decide ((k : Int) < (n : Int)) = false := decide_eq_false (by omega)
      have hlt3 : decide (k < n) = false := decide_eq_false hlt
      go_wp2_with fail
      go_ret
      exact ⟨rfl, hb⟩

set_option maxHeartbeats 1000000 in
theorem markRow_calls (v : Value) (n : Nat) (bs : List Nat) (base : Nat) (w0 w : World) (k : Int) (ho : FOwn w base 26 2 v n bs) (hb : Below base w0 w) (hn : n ≤ 2000000) (h0 : 0 ≤ k) (h1 : k ≤ 1000000000) :
    Calls Try.prog 24 #[v, .int .i64 k] w fun e w' => e = .returned (.int .i64 (k + 2 * n)) ∧ (∃ cs, FOwn w' base 26 2 v n cs) ∧ Below base w0 w' ∧ Only w w' v := by
  rcases Nat.eq_zero_or_pos n with hz | hz
  · subst hz
    obtain ⟨A, c, rfl, hc, hF⟩ := ho.flat
    go_enter Try.func24, Try.ntmps24
    go_wp2_with fail
    go_loopw [1, 5] (fun a i wr => a = .int .i64 k ∧ i = .int .i64 0 ∧ wr = w) (fun _ i _ => 0)
    case atStart => exact ⟨rfl, rfl, rfl⟩
    case round =>
      obtain ⟨rfl, rfl, rfl⟩ := hrel
      go_wp2_with fail
      go_ret
      exact ⟨by simp, ⟨_, ho⟩, hb, Nat.le_refl _, fun _ _ _ => rfl⟩
  · rcases ho.out.2 with ⟨_, hnil⟩ | ⟨g, cap, cur, rfl, hg, _, hcap, _⟩
    · omega
    go_enter Try.func24, Try.ntmps24
    go_wp2_with fail
    go_loopw [1, 5] (fun a i wr => ∃ m : Nat, m ≤ n ∧ a = .int .i64 (k + 2 * m) ∧ i = .int .i64 m ∧ ∃ cs : List Nat, FOwn wr base 26 2 (.slice (some ⟨g, 0, none⟩) n cap) n cs ∧ Below base w0 wr ∧ Only w wr (.slice (some ⟨g, 0, none⟩) n cap)) (fun _ i _ => n - (intOf i).toNat)
    case atStart => exact ⟨0, Nat.zero_le _, by simp, rfl, bs, ho, hb, Nat.le_refl _, fun _ _ _ => rfl⟩
    case round =>
      clear ho hb
      obtain ⟨m, hm, rfl, rfl, cs, ho, hb, hon⟩ := hrel
      by_cases hlt : m < n
      · obtain ⟨k0, k1⟩ := FOwn.cell ho (m * 2) (by omega)
        obtain ⟨k2, k3⟩ := FOwn.cell ho (m * 2 + 1) (by omega)
        go_wp2_with fail
        go_roundw
        case rel => exact ⟨m + 1, by omega, by go_num, by go_num, _, FOwn.put (FOwn.put ho (m * 2) _) (m * 2 + 1) _, (hb.setCell hg _).setCell hg _, (hon.trans_set _ _).trans_set _ _⟩
        case measure => (simp [intOf]; try omega)
      · have hmn : m = n := by omega
        have hlt2 : decide ((m : Int) < (n : Int)) = false := decide_eq_false (by omega)
        have hlt3 : decide (m < n) = false := decide_eq_false hlt
        have HN := Lib.hid hmn
        clear hmn
        go_wp2_with fail
        go_ret
        exact ⟨by (rw [HN.out]; try rfl), ⟨cs, ho⟩, hb, hon⟩
/-- only the blocks lo .. hi have been written -/
def Span (w w' : World) (lo hi : Nat) : Prop := w.heap.size ≤ w'.heap.size ∧ ∀ i, i < w.heap.size → ¬ (lo ≤ i ∧ i < hi) → w'.heap[i]? = w.heap[i]?

set_option maxHeartbeats 2000000 in
theorem markRows_calls {v : Value} {n : Nat} {xs : List (List Nat)} {lo hi : Nat} (w0 w : World) (hb : Below w0.heap.size w0 w) (hS : Kd.S rowP 33 w w0.heap.size (fun k => lo ≤ k ∧ k < hi) v xs) (hn : xs.length = n) (hs : Small n xs) :
    Calls Try.prog 32 #[v, .int .i64 1] w fun e w' => e = .returned (.int .i64 (1 + 2 * (offB xs n : Int))) ∧ Below w0.heap.size w0 w' ∧ Span w w' lo hi := by
  obtain ⟨A, c, rfl⟩ := Kd.S_slice hS
  rw [hn] at hS ⊢
  have hfew := hs.few
  have hoo := hs.o
  go_enter Try.func32, Try.ntmps32
  go_wp2_with fail
  go_loopw [1, 5] (fun a i wr => ∃ j : Nat, j ≤ n ∧ a = .int .i64 (1 + 2 * (offB xs j : Int)) ∧ i = .int .i64 j ∧ ∃ ys : List (List Nat), ys.length = n ∧ (∀ q, j ≤ q → ys.getD q [] = xs.getD q []) ∧ Kd.S rowP 33 wr w0.heap.size (fun k => lo ≤ k ∧ k < hi) (.slice A n c) ys ∧ Below w0.heap.size w0 wr ∧ Span w wr lo hi) (fun _ i _ => n - (intOf i).toNat)
  case atStart => exact ⟨0, Nat.zero_le _, by simp [offB], rfl, xs, hn, fun _ _ => rfl, hS, hb, Nat.le_refl _, fun _ _ _ => rfl⟩
  case round =>
    clear hS hb
    obtain ⟨j, hj, rfl, rfl, ys, hyl, heq, hS, hb, hsp⟩ := hrel
    by_cases hlt : j < n
    · obtain ⟨g, cg, u, mu, oki, he, hcell, hfr, hbg, hgl, hokg, hok, hu, hFu, hH⟩ := at_S hS j (by omega)
      rw [hyl] at he
      injection he with e1 e2 e3
      subst e1
      subst e3
      rw [heq j (Nat.le_refl _)] at hFu
      have hmu : (xs.getD j []).length / 2 = mu := by have : (xs.getD j []).length = mu * 2 := by simpa using hFu.out.1
                                                      omega
      have hm2 := hs.row hlt
      have hl1 := len_le_offB xs hlt
      rw [hmu] at hm2
      have hnext : offB xs (j + 1) = offB xs j + mu := by rw [offB, hmu]
      have hl2 := offB_le xs (Nat.le_of_lt hlt)
      have hl4 : decide ((j : Int) < (n : Int)) = true := decide_eq_true (by omega)
      have hl5 : decide (j < n) = true := decide_eq_true hlt
      have HN := Lib.hid hnext
      have HEQ := Lib.hid heq
      have HMU := Lib.hid hmu
      obtain ⟨Au, cu, rfl, _, _⟩ := hFu.flat
      clear hnext heq hmu hl1
      go_wp2_with fail
      refine (markRow_calls _ mu _ w0.heap.size w0 wr _ hFu hb hm2 (by omega) (by omega)).mono ?_
      rintro e w2 ⟨rfl, ⟨cs, ho2⟩, hb2, hon⟩
      have hH2 := Kd.H_step (w1 := w2) hH (fun k hk hnk hlt => hon.2 k hlt (fun he => hnk (hu k he.symm)))
      have hM : rowP.M w2 w0.heap.size oki cs [.slice Au mu cu] := ⟨_, mu, rfl, hu, ho2⟩
      have hS2 := Kd.H_back hH2 hM (fun _ h => h)
      rw [Int.toNat_natCast] at hS2
      have hsp2 : Span w w2 lo hi := ⟨Nat.le_trans hsp.1 hon.1, fun k hk hno => (hon.2 k (by have := hsp.1; omega) (fun he => hno (hok k (hu k he.symm)).1)).trans (hsp.2 k hk hno)⟩
      clear hH hH2 hM ho2 hcell hfr hS hb hsp hFu hu hon
      go_wp2_with fail
      go_roundw
      case rel => exact ⟨j + 1, by omega, by rw [HN.out]; go_num; (try omega), by go_num, ys.set j cs, by rw [List.length_set]; exact hyl, fun q hq => by
        rw [getD_setL _ _ _ _ (by omega), if_neg (by omega)]
        exact HEQ.out q (by omega), hS2, hb2, hsp2⟩
      case measure => (simp [intOf]; try omega)
    · have hjn : j = n := by omega
      have hlt2 : decide ((j : Int) < (n : Int)) = false := decide_eq_false (by omega)
      have hlt3 : decide (j < n) = false := decide_eq_false hlt
      have HN := Lib.hid hjn
      clear hjn heq
      go_wp2_with fail
      go_ret
      exact ⟨by (rw [HN.out]; try rfl), hb, hsp⟩
end Go.Proofs.Ytodgognfnpcdgaa.FltU
