/- The walks of the closure, eachRow, eachColumn. -/
import Derived.Test.YtofegdgcafameaaLRowB
namespace Go.Proofs.Ytofegdgcafameaa.LRowXB
open Go.RowKit Go.Proofs.YtofegdgcafameaaW.PrintWords Go.Proofs.YtofegdgcafameaaW.PrintLast Go.Proofs.YtofegdgcafameaaW.PrintMore Go.Proofs.Ytofegdgcafameaa.Base
open Go.Proofs.Ytofegdgcafameaa.QFnLiftedRows hiding rd_L2 at_L2
open Go.Proofs.Ytofegdgcafameaa.RowT Go.Proofs.Ytofegdgcafameaa.LRowB
open Go.Proofs.Ytofegdgcafameaa.LRowP
set_option linter.unusedVariables false
set_option linter.unusedSimpArgs false
def RetL (xs : List Int) (w : World) (e : Ending) (w' : World) : Prop := ∃ A c, e = .returned (.slice A xs.length c) ∧ Kd.R (Kd.int .i64) 3 w' w.heap.size (fun _ => True) (.slice A xs.length c) xs ∧ Below w.heap.size w w'
def RetLL (x : List (List Int)) (w : World) (e : Ending) (w' : World) : Prop := ∃ A c, e = .returned (.slice A x.length c) ∧ Kd.S (Kd.slice 3 (Kd.int .i64)) 29 w' w.heap.size (fun _ => True) (.slice A x.length c) x ∧ Below w.heap.size w w'
theorem at_row {w : World} {A : Option Addr} {n : Nat} {x : List (List Int)} (h : Kd.C (Kd.slice 3 (Kd.int .i64)) w A n x) (i : Nat) (h1 : i < n) :
    ∃ ad A0 c0, A = some ad ∧ w.cell? (ad.add i) = some (.slice A0 (rd_L1 x (i : Int)).length c0) ∧ (rd_L1 x (i : Int)).length ≤ c0 ∧ Kd.C (Kd.int .i64) w A0 (rd_L1 x (i : Int)).length (rd_L1 x (i : Int)) := by
  obtain ⟨ad, A0, c0, h1, h2, h3, h4⟩ := Go.Proofs.Ytofegdgcafameaa.QFnLiftedRows.at_L2 h (i : Int) (by omega) (by omega)
  rw [rdq] at h2 h3 h4
  rw [Int.toNat_natCast] at h2
  exact ⟨ad, A0, c0, h1, h2, h3, h4⟩
theorem clo_calls (kind : Int) (gk : Nat) {A : Option Addr} {c : Nat} {l : List Int} (w : World) (hr : Kd.C (Kd.int .i64) w A l.length l) (hc : l.length ≤ c) (hl : l.length ≤ 1000000) (hk : w.cell? ⟨gk, 0, none⟩ = some (.int .i64 kind)) :
    Calls Try.prog 37 #[.slice A l.length c, .pointer (some ⟨gk, 0, none⟩)] w (RetL (bwd kind l) w) := by
  unfold bwd
  have hm1 : (l.length + 1) / 2 ≤ l.length + 0 := by omega
  have hm2 : l.length - (l.length + 1) / 2 ≤ (l.length + 1) / 2 := by omega
  have hm3 : (l.length + 1) / 2 ≤ l.length - (l.length + 1) / 2 + 1 := by omega
  have hdiv : Int.tdiv ((l.length : Int) + 1) 2 = (((l.length + 1) / 2 : Nat) : Int) := by rw [Int.tdiv_eq_ediv_of_nonneg (by omega)]; omega
  generalize (l.length + 1) / 2 = m at *
  obtain ⟨K0, hK0⟩ := implBack_ev kind (l.take m) (l.drop m) (by rw [List.length_take]; omega) (by rw [List.length_take, List.length_drop]; omega) (by rw [List.length_take, List.length_drop]; omega)
  obtain ⟨i017, hi017, _, hsz17, _⟩ := info_parts info3
  obtain ⟨hcut17, hA17, hC17⟩ := print_take_of (P := Try.prog) (Value.int .i64) 0 29 3 .i64 Try.underlying29 hi017 hsz17 A c l (m : Int) (by omega) (by omega) hc
  obtain ⟨A18, hcut18, hA18, hC18⟩ := print_drop_of (P := Try.prog) (Value.int .i64) 0 29 3 .i64 Try.underlying29 hi017 hsz17 A c l (m : Int) (by omega) (by omega) hc
  have hT : Kd.C (Kd.int .i64) w A (l.take (m : Int).toNat).length (l.take (m : Int).toNat) := Kd.C_of_reads (h1 := fun _ => rfl) (hA17 _ (Kd.reads_of_C hr))
  have hD : Kd.C (Kd.int .i64) w A18 (l.drop (m : Int).toNat).length (l.drop (m : Int).toNat) := Kd.C_of_reads (h1 := fun _ => rfl) (hA18 _ (Kd.reads_of_C hr))
  clear hA17 hA18 hr hi017 hsz17
  simp only [Int.toNat_natCast] at hcut17 hcut18 hC17 hC18 hT hD
  generalize l.take m = lo at *
  generalize l.drop m = hi at *
  go_enter Try.func37, Try.ntmps37
  go_wp2_with fail
  refine start_ (n := 9) (S := fun w' => Below w.heap.size w w') (ds := []) #[false, false, false, false, false, false, false, false, false] (by kernel_rfl) rfl rfl (Below.drew (Below.refl _ _)) (fun hHeld => ?_)
  have hkk := fun w' (hS : Below w.heap.size w w') => (hS.cell (World.block_lt_of_cell? w _ hk)).trans hk
  generalize w.drew = u0 at hHeld ⊢
  refine take_ (i := 0) (N := some 9) (v := ?_) (a' := ?_) #[true, false, false, false, false, false, false, false, false] rfl rfl (by kernel_rfl) (fun _ _ _ h => h) (Or.inl ⟨by rfl, ?_⟩) hHeld ?_ ?_
  rotate_left
  · rintro w' hS_
    go_simp
    with_reducible rfl
  rotate_left
  · simp only [Act.put, List.setIfInBounds_toArray, List.set_cons_zero, List.set_cons_succ, i64_w, i32_w]
    rfl
  refine pure_ (i := 1) (N := some 10) (v := ?_) (a' := ?_) #[true, true, false, false, false, false, false, false, false] rfl rfl (by kernel_rfl) (fun _ _ _ h => h) (Or.inl ⟨by rfl, ?_⟩) ?_ ?_
  rotate_left
  · intro w'
    go_simp
    with_reducible rfl
  rotate_left
  · simp only [Act.put, List.setIfInBounds_toArray, List.set_cons_zero, List.set_cons_succ, i64_w, i32_w]
    rfl
  refine pure_ (i := 2) (N := some 11) (v := ?_) (a' := ?_) #[true, true, true, false, false, false, false, false, false] rfl rfl (by kernel_rfl) (fun _ _ _ h => h) (Or.inl ⟨by rfl, ?_⟩) ?_ ?_
  rotate_left
  · intro w'
    go_simp
    with_reducible rfl
  rotate_left
  · simp only [Act.put, List.setIfInBounds_toArray, List.set_cons_zero, List.set_cons_succ, i64_w, i32_w]
    rfl
  refine pure_ (i := 3) (N := some 12) (v := ?_) (a' := ?_) #[true, true, true, true, false, false, false, false, false] rfl rfl (by kernel_rfl) (fun _ _ _ h => h) (Or.inl ⟨by rfl, ?_⟩) ?_ ?_
  rotate_left
  · intro w'
    go_simp
    with_reducible rfl
  rotate_left
  · simp only [Act.put, List.setIfInBounds_toArray, List.set_cons_zero, List.set_cons_succ, i64_w, i32_w]
    rfl
  refine pure_ (i := 4) (N := some 13) (v := ?_) (a' := ?_) #[true, true, true, true, true, false, false, false, false] rfl rfl (by kernel_rfl) (fun _ _ _ h => h) (Or.inl ⟨by rfl, ?_⟩) ?_ ?_
  rotate_left
  · intro w'
    go_simp
    with_reducible rfl
  rotate_left
  · simp only [Act.put, List.setIfInBounds_toArray, List.set_cons_zero, List.set_cons_succ, i64_w, i32_w]
    rfl
  refine pure_ (i := 5) (N := some 14) (v := ?_) (a' := ?_) #[true, true, true, true, true, true, false, false, false] rfl rfl (by kernel_rfl) (fun _ _ _ h => h) (Or.inl ⟨by rfl, ?_⟩) ?_ ?_
  rotate_left
  · intro w'
    go_simp
    with_reducible rfl
  rotate_left
  · simp only [Act.put, List.setIfInBounds_toArray, List.set_cons_zero, List.set_cons_succ, i64_w, i32_w]
    rfl
  refine pure_ (i := 6) (N := some 15) (v := ?_) (a' := ?_) #[true, true, true, true, true, true, true, false, false] rfl rfl (by kernel_rfl) (fun _ _ _ h => h) (Or.inl ⟨by rfl, ?_⟩) ?_ ?_
  rotate_left
  · intro w'
    go_simp
    with_reducible rfl
  rotate_left
  · simp only [Act.put, List.setIfInBounds_toArray, List.set_cons_zero, List.set_cons_succ, i64_w, i32_w]
    rfl
  have hB_ := hHeld
  have hsz := hHeld.size
  refine one_ (i := 7) (N := some 16) #[true, true, true, true, true, true, true, true, false] rfl rfl (by kernel_rfl) (by decide) (fun K hK => ?_)
  refine goes_ Try.func38 (by kernel_rfl) rfl #[.int .i64 kind, .slice A lo.length c, .slice A18 hi.length (c - m)] (by rfl) rfl rfl (by (try simp only [List.map_toArray, List.map_cons, List.map_nil]); first | done | rfl) ?_
  refine (impl_liftBack.calls K0 kind A c lo A18 (c - m) hi _ _ (Kd.C_below hT hHeld) hC17 (Kd.C_below hD hHeld) hC18 (hK0 K0 (Nat.le_refl _))).mono ?_
  rintro e u1 ⟨v9, rfl, o9, hbn⟩
  refine ⟨_, rfl, ?_⟩
  obtain ⟨A9, c9, rfl⟩ := Kd.R_slice o9
  refine hK.out _ _ (below_step hHeld hbn) (fun hHeld => ?_)
  clear hK K
  refine norm_ (a' := ?_) ?_ ?_
  rotate_left
  · show Act.put _ (some 16) _ = _
    simp only [Act.put, List.setIfInBounds_toArray, List.set_cons_zero, List.set_cons_succ, i64_w, i32_w]
    rfl
  refine pure_ (i := 8) (N := some 3) (v := ?_) (a' := ?_) #[true, true, true, true, true, true, true, true, true] rfl rfl (by kernel_rfl) (fun _ _ _ h => h) (Or.inl ⟨by rfl, ?_⟩) ?_ ?_
  rotate_left
  · intro w'
    go_simp
    with_reducible rfl
  rotate_left
  · simp only [Act.put, List.setIfInBounds_toArray, List.set_cons_zero, List.set_cons_succ, i64_w, i32_w]
    rfl
  refine done_ (by kernel_rfl) ?_
  go_wp2_with fail
  go_ret
  exact ⟨A9, c9, rfl, Kd.R_lower o9 hsz, below_step hB_ hbn⟩
theorem clone_calls {A : Option Addr} {c : Nat} {l : List Int} (w : World) (hr : Kd.C (Kd.int .i64) w A l.length l) (hc : l.length ≤ c) (hl : l.length ≤ 1000000) :
    Calls Try.prog 58 #[.slice A l.length c] w (RetL l w) := by
  refine (slices_Clone_int_int.calls A c l l w hr hc (clone_eq l (by omega))).mono ?_
  rintro e w1 ⟨v0, rfl, h0, hb⟩
  obtain ⟨A1, c1, rfl⟩ := Kd.R_slice h0
  exact ⟨A1, c1, rfl, h0, hb⟩
set_option maxHeartbeats 2000000 in
theorem eachClone_calls {A : Option Addr} {n c : Nat} {x : List (List Int)} (w : World) (hC : Kd.C (Kd.slice 3 (Kd.int .i64)) w A n x) (hcap : n ≤ c) (hn : n = x.length) (hn1 : n ≤ 1000000) (hs : ∀ r ∈ x, r.length ≤ 1000000) :
    Calls Try.prog 31 #[.slice A n c, .func (.func 58) #[] #[]] w (RetLL (x) w) := by
  subst hn
  go_enter Try.func31, Try.ntmps31
  go_wp2_with fail
  go_loopw [5, 10] (fun v i wr => ∃ j : Nat, j ≤ x.length ∧ i = .int .i64 j ∧ Kd.S (Kd.slice 3 (Kd.int .i64)) 29 wr w.heap.size (fun _ => True) v (tabL j fun i => (rd_L1 x (i : Int))) ∧ Below w.heap.size w wr) (fun _ i _ => x.length - (intOf i).toNat)
  case atStart => exact ⟨0, Nat.zero_le _, rfl, Kd.S_nil _ _ _ _ _, Below.refl _ _⟩
  case round =>
    obtain ⟨j, hj, rfl, ho, hbr⟩ := hrel
    by_cases hlt : j < x.length
    · have hlt2 : decide ((j : Int) < (x.length : Int)) = true := decide_eq_true (by omega)
      have hlt3 : decide (j < x.length) = true := decide_eq_true hlt
      obtain ⟨ad, A0, c0, rfl, hx, hlc, hC0⟩ := at_row (Kd.C_below hC hbr) j hlt
      have hl0 := hs _ (rdL_mem hlt)
      go_wp2_with fail
      refine (clone_calls _ hC0 hlc hl0).mono ?_
      rintro e w3 ⟨A3, c3, rfl, ho3, hb3⟩
      replace ho := Kd.S_elder' ho (Kd.R_base ho3) hb3
      replace ho3 := Kd.R_lower ho3 hbr.size
      replace hbr := below_step hbr hb3
      have hslen : (tabL j fun i => (rd_L1 x (i : Int))).length = j := tabL_length _ _
      clear hb3 hx hC0 hlc
      go_wp2_with (first | ((with_reducible refine gate_builtin (b := .append) (xs := #[.tmp 14, .tmp 18]) rfl ?_); at_builtin; refine Kd.S_append (Kd.slice 3 (Kd.int .i64)) (w0 := w) w.heap.size rfl (.tmp 14) (.tmp 18) 24 29 (.slice none 0 0) 24 rfl Try.underlying24 info29 rfl (by decide) (by omega) u5 (tabL j fun i => (rd_L1 x (i : Int))) (rd_L1 x (j : Int)) [.slice A3 (rd_L1 x (j : Int)).length c3] (fun _ => True) (fun k_ => some k_ = (.slice A3 (rd_L1 x (j : Int)).length c3 : Value).ownBlock) rfl rfl ?aP (fun k_ hk_ => ⟨trivial, ((Kd.R_apart' ho3 (Kd.S_typed ho) (by decide)).1 k_ hk_.symm).2⟩) (fun _ _ => trivial) ?aO ?aB ?aS ?aL ?_; (case aP => exact Kd.M_row (Kd.R_mono (Kd.R_tight rfl ho3) (fun _ h_ => h_))); (case aB => exact hbr); (case aO => exact Kd.S_mono ho (fun k_ hk => ⟨trivial, fun e_ => hk.2 e_⟩)); (case aS => exact hbr.size); (case aL => omega); intro v9 w9 ho9 hb9 hg9 hat9; clear hg9 hat9))
      go_roundw
      case rel => exact ⟨j + 1, by omega, by go_num, by rw [tabL_succ]; exact ho9, hb9⟩
      case measure => (simp [intOf]; try omega)
    · have e : j = x.length := by omega
      subst e
      have hlt2 : decide ((x.length : Int) < (x.length : Int)) = false := decide_eq_false (by omega)
      have hlt3 : decide (x.length < x.length) = false := decide_eq_false hlt
      obtain ⟨Ao, co, he⟩ := Kd.S_slice ho
      rw [tabL_length] at he
      subst he
      go_wp2_with fail
      go_ret
      rw [tabL_rd] at ho
      exact ⟨Ao, co, rfl, ho, hbr⟩
set_option maxHeartbeats 2000000 in
theorem eachRow_calls (kind : Int) (gk : Nat) {A : Option Addr} {n c : Nat} {x : List (List Int)} (w : World) (hC : Kd.C (Kd.slice 3 (Kd.int .i64)) w A n x) (hcap : n ≤ c) (hn : n = x.length) (hn1 : n ≤ 1000000) (hs : ∀ r ∈ x, r.length ≤ 1000000) (hk : w.cell? ⟨gk, 0, none⟩ = some (.int .i64 kind)) :
    Calls Try.prog 31 #[.slice A n c, .func (.func 37) #[] #[.pointer (some ⟨gk, 0, none⟩)]] w (RetLL (eachT (bwd kind) x) w) := by
  subst hn
  go_enter Try.func31, Try.ntmps31
  go_wp2_with fail
  go_loopw [5, 10] (fun v i wr => ∃ j : Nat, j ≤ x.length ∧ i = .int .i64 j ∧ Kd.S (Kd.slice 3 (Kd.int .i64)) 29 wr w.heap.size (fun _ => True) v (tabL j fun i => (bwd kind (rd_L1 x (i : Int)))) ∧ Below w.heap.size w wr) (fun _ i _ => x.length - (intOf i).toNat)
  case atStart => exact ⟨0, Nat.zero_le _, rfl, Kd.S_nil _ _ _ _ _, Below.refl _ _⟩
  case round =>
    obtain ⟨j, hj, rfl, ho, hbr⟩ := hrel
    by_cases hlt : j < x.length
    · have hlt2 : decide ((j : Int) < (x.length : Int)) = true := decide_eq_true (by omega)
      have hlt3 : decide (j < x.length) = true := decide_eq_true hlt
      obtain ⟨ad, A0, c0, rfl, hx, hlc, hC0⟩ := at_row (Kd.C_below hC hbr) j hlt
      have hl0 := hs _ (rdL_mem hlt)
      have hkr := (hbr.cell (World.block_lt_of_cell? w _ hk)).trans hk
      go_wp2_with fail
      refine (clo_calls kind gk _ hC0 hlc hl0 hkr).mono ?_
      rintro e w3 ⟨A3, c3, rfl, ho3, hb3⟩
      replace ho := Kd.S_elder' ho (Kd.R_base ho3) hb3
      replace ho3 := Kd.R_lower ho3 hbr.size
      replace hbr := below_step hbr hb3
      have hslen : (tabL j fun i => (bwd kind (rd_L1 x (i : Int)))).length = j := tabL_length _ _
      clear hb3 hx hC0 hlc
      go_wp2_with (first | ((with_reducible refine gate_builtin (b := .append) (xs := #[.tmp 14, .tmp 18]) rfl ?_); at_builtin; refine Kd.S_append (Kd.slice 3 (Kd.int .i64)) (w0 := w) w.heap.size rfl (.tmp 14) (.tmp 18) 24 29 (.slice none 0 0) 24 rfl Try.underlying24 info29 rfl (by decide) (by omega) u5 (tabL j fun i => (bwd kind (rd_L1 x (i : Int)))) (bwd kind (rd_L1 x (j : Int))) [.slice A3 (bwd kind (rd_L1 x (j : Int))).length c3] (fun _ => True) (fun k_ => some k_ = (.slice A3 (bwd kind (rd_L1 x (j : Int))).length c3 : Value).ownBlock) rfl rfl ?aP (fun k_ hk_ => ⟨trivial, ((Kd.R_apart' ho3 (Kd.S_typed ho) (by decide)).1 k_ hk_.symm).2⟩) (fun _ _ => trivial) ?aO ?aB ?aS ?aL ?_; (case aP => exact Kd.M_row (Kd.R_mono (Kd.R_tight rfl ho3) (fun _ h_ => h_))); (case aB => exact hbr); (case aO => exact Kd.S_mono ho (fun k_ hk => ⟨trivial, fun e_ => hk.2 e_⟩)); (case aS => exact hbr.size); (case aL => omega); intro v9 w9 ho9 hb9 hg9 hat9; clear hg9 hat9))
      go_roundw
      case rel => exact ⟨j + 1, by omega, by go_num, by rw [tabL_succ]; exact ho9, hb9⟩
      case measure => (simp [intOf]; try omega)
    · have e : j = x.length := by omega
      subst e
      have hlt2 : decide ((x.length : Int) < (x.length : Int)) = false := decide_eq_false (by omega)
      have hlt3 : decide (x.length < x.length) = false := decide_eq_false hlt
      obtain ⟨Ao, co, he⟩ := Kd.S_slice ho
      rw [tabL_length] at he
      subst he
      go_wp2_with fail
      go_ret
      have hel : (eachT (bwd kind) x).length = x.length := tabL_length _ _
      refine ⟨Ao, co, ?_, ?_, hbr⟩
      · rw [hel]; rfl
      · rw [hel]; exact ho
def stC (F : List Int → List Int) (x : List (List Int)) (c j : Nat) : List (List Int) := tabL x.length fun i => tab (rd_L1 x 0).length fun d => if d < c ∨ (d = c ∧ i < j) then rd (F (colT x d)) (i : Int) else rd (rd_L1 x (i : Int)) (d : Int)
theorem stC_row (F : List Int → List Int) (x : List (List Int)) (c j : Nat) {i : Nat} (h : i < x.length) : rd_L1 (stC F x c j) (i : Int) = tab (rd_L1 x 0).length fun d => if d < c ∨ (d = c ∧ i < j) then rd (F (colT x d)) (i : Int) else rd (rd_L1 x (i : Int)) (d : Int) := rdL_tab h
theorem stC_next (F : List Int → List Int) (x : List (List Int)) {c i : Nat} (h : i < x.length) (hc : c < (rd_L1 x 0).length) :
    (stC F x c i).set i ((rd_L1 (stC F x c i) (i : Int)).set c (rd (F (colT x c)) (i : Int))) = stC F x c (i + 1) := by
  rw [stC_row F x c i h]
  have e1 := tab_set (n := (rd_L1 x 0).length) (i := c) (g := fun d => if d < c ∨ (d = c ∧ i < i) then rd (F (colT x d)) (i : Int) else rd (rd_L1 x (i : Int)) (d : Int)) (h := fun d => if d < c ∨ (d = c ∧ i < i + 1) then rd (F (colT x d)) (i : Int) else rd (rd_L1 x (i : Int)) (d : Int)) hc (fun d _ hne => by
    by_cases q : d < c
    · simp only [if_pos (Or.inl q : d < c ∨ (d = c ∧ i < i)), if_pos (Or.inl q : d < c ∨ (d = c ∧ i < i + 1))]
    · simp only [if_neg (show ¬ (d < c ∨ (d = c ∧ i < i)) by omega), if_neg (show ¬ (d < c ∨ (d = c ∧ i < i + 1)) by omega)])
  rw [show (if c < c ∨ (c = c ∧ i < i + 1) then rd (F (colT x c)) (i : Int) else rd (rd_L1 x (i : Int)) (c : Int)) = rd (F (colT x c)) (i : Int) from if_pos (by omega)] at e1
  rw [e1]
  exact tabL_set (n := x.length) (i := i) (g := fun i' => tab (rd_L1 x 0).length fun d => if d < c ∨ (d = c ∧ i' < i) then rd (F (colT x d)) (i' : Int) else rd (rd_L1 x (i' : Int)) (d : Int)) (h := fun i' => tab (rd_L1 x 0).length fun d => if d < c ∨ (d = c ∧ i' < i + 1) then rd (F (colT x d)) (i' : Int) else rd (rd_L1 x (i' : Int)) (d : Int)) h (fun i' _ hne => tab_congr fun d _ => by
    by_cases q : d < c ∨ (d = c ∧ i' < i)
    · rw [if_pos q, if_pos (by omega)]
    · rw [if_neg q, if_neg (by omega)])
theorem stC_end (F : List Int → List Int) (x : List (List Int)) (c : Nat) : stC F x c x.length = stC F x (c + 1) 0 := tabL_congr fun i hi => tab_congr fun d _ => by
  by_cases q : d < c ∨ (d = c ∧ i < x.length)
  · rw [if_pos q, if_pos (by omega)]
  · rw [if_neg q, if_neg (by omega)]
theorem stC_first (F : List Int → List Int) (x : List (List Int)) (he : Even x) : stC F x 0 0 = x := by
  conv => rhs; rw [← tabL_rd x]
  refine tabL_congr fun i hi => ?_
  symm
  refine eq_tab (he i hi) fun d _ => ?_
  rw [if_neg (by omega)]
theorem stC_all (F : List Int → List Int) (x : List (List Int)) : stC F x (rd_L1 x 0).length 0 = colsT F x := tabL_congr fun i _ => tab_congr fun d hd => by rw [if_pos (Or.inl hd)]
theorem at_S {w : World} {b : Nat} {ok : Nat → Prop} {v : Value} {x : List (List Int)} (h : Kd.S (Kd.slice 3 (Kd.int .i64)) 29 w b ok v x) (i : Nat) (hi' : i < x.length) :
    ∃ g c u oki, v = .slice (some ⟨g, 0, none⟩) x.length c ∧ w.cell? ⟨g, i, none⟩ = some u ∧ b ≤ g ∧ g < w.heap.size ∧ (∀ k, oki k → ok k) ∧ Kd.R (Kd.int .i64) 3 w b oki u (rd_L1 x (i : Int)) ∧
      ∀ {w1 : World} {row : Option Nat} {y : List Int}, w.grownBy w1 row → (∀ k, row = some k → oki k) → Kd.R (Kd.int .i64) 3 w1 b oki u y → Kd.S (Kd.slice 3 (Kd.int .i64)) 29 w1 b ok v (x.set i y) := by
  obtain ⟨g, c, rfl, hg, hl, cells, hc⟩ := Kd.S_form h (by omega)
  obtain ⟨oki, cs, hcl, hM, hcc, hok, hbk⟩ := Kd.S_borrow h [] (i : Int) (by omega) (by omega)
  obtain ⟨u, rfl, hR⟩ := hM
  have hcell := hcc 0 u rfl
  rw [show (i : Int).toNat * (Kd.slice 3 (Kd.int .i64)).sz + 0 = i by rw [show (Kd.slice 3 (Kd.int .i64)).sz = 1 from rfl, Int.toNat_natCast]; omega] at hcell
  refine ⟨g, c, u, oki, rfl, by by_cases h_ : i = 0 <;> simpa [Addr.add, h_] using hcell, hg, hl, fun k hk => (hok k hk).1, hR, fun hg hr hy => ?_⟩
  have := hbk hg hr (Kd.M_row hy)
  rwa [Int.toNat_natCast] at this
set_option maxHeartbeats 600000 in
theorem eachCol_calls (kind : Int) (gk : Nat) {A : Option Addr} {n c : Nat} {x : List (List Int)} (w : World) (hC : Kd.C (Kd.slice 3 (Kd.int .i64)) w A n x) (hcap : n ≤ c) (hn : n = x.length) (hn1 : n ≤ 1000000) (hs : ∀ r ∈ x, r.length ≤ 1000000) (he : Even x) (hk : w.cell? ⟨gk, 0, none⟩ = some (.int .i64 kind)) :
    Calls Try.prog 30 #[.slice A n c, .func (.func 37) #[] #[.pointer (some ⟨gk, 0, none⟩)]] w (RetLL (colsT (bwd kind) x) w) := by
  subst hn
  by_cases h0 : x.length = 0
  · obtain rfl : x = [] := List.length_eq_zero_iff.1 h0
    clear h0 hs he
    simp only [List.length_nil] at *
    go_enter Try.func30, Try.ntmps30
    go_wp2_with fail
    refine (eachClone_calls (x := []) (n := 0) _ hC hcap rfl (by omega) (by simp)).mono ?_
    rintro e w1 ⟨A1, c1, rfl, ho, hb⟩
    simp only [List.length_nil] at *
    go_wp2_with fail
    go_ret
    exact ⟨A1, c1, rfl, ho, hb⟩
  · have h0d : decide ((x.length : Int) = 0) = false := decide_eq_false (by omega)
    have h0e : decide (x.length = 0) = false := decide_eq_false h0
    have h0b : ((x.length : Int) == 0) = false := by simpa using h0
    have hm0 : (rd_L1 x 0).length ≤ 1000000 := hs _ (rdL_mem (x := x) (i := 0) (by omega))
    go_enter Try.func30, Try.ntmps30
    go_wp2_with fail
    refine (eachClone_calls _ hC hcap rfl hn1 hs).mono ?_
    rintro e w1 ⟨A1, c1, rfl, ho, hb⟩
    obtain ⟨ad, A0, c0, rfl, hx1, _, _⟩ := at_row (Kd.C_below hC hb) 0 (by omega)
    rw [show ((0 : Nat) : Int) = 0 from rfl] at hx1
    (try rw [Addr.add_zero'] at hx1)
    go_wp2_with fail
    clear hx1
    rw [show x = stC (bwd kind) x 0 0 from (stC_first (bwd kind) x he).symm] at ho
    rw [show (stC (bwd kind) x 0 0).length = x.length from tabL_length _ _] at ho
    go_loopw [22] (fun k wz => ∃ cc : Nat, cc ≤ (rd_L1 x 0).length ∧ k = .int .i64 cc ∧ Kd.S (Kd.slice 3 (Kd.int .i64)) 29 wz w.heap.size (fun _ => True) (.slice A1 x.length c1) (stC (bwd kind) x cc 0) ∧ Below w.heap.size w wz) (fun k _ => (rd_L1 x 0).length - (intOf k).toNat)
    case atStart => exact ⟨0, Nat.zero_le _, rfl, ho, hb⟩
    case round =>
      clear ho hb
      obtain ⟨cc, hcc, rfl, hS, hbz⟩ := hrel
      obtain ⟨w2, rfl⟩ : ∃ w2, w2 = wr := ⟨wr, rfl⟩
      have hC2 := Kd.C_below hC hbz
      by_cases hlt : cc < (rd_L1 x 0).length
      · have hlt2 : decide ((cc : Int) < ((rd_L1 x 0).length : Int)) = true := decide_eq_true (by omega)
        have hlt3 : decide (cc < (rd_L1 x 0).length) = true := decide_eq_true hlt
        go_wp2_with fail
        go_loopw [7, 27] (fun v i wz => ∃ ii : Nat, ii ≤ x.length ∧ i = .int .i64 ii ∧ Kd.R (Kd.int .i64) 3 wz w2.heap.size (fun _ => True) v (tab ii fun i' => rd (rd_L1 x (i' : Int)) (cc : Int)) ∧ Below w2.heap.size w2 wz) (fun _ i _ => x.length - (intOf i).toNat)
        case atStart => exact ⟨0, Nat.zero_le _, rfl, Kd.R_nil _ _ _ _ _, Below.refl _ _⟩
        case round =>
          obtain ⟨ii, hii, rfl, hR, hb3⟩ := hrel
          by_cases hl3 : ii < x.length
          · have hl4 : decide ((ii : Int) < (x.length : Int)) = true := decide_eq_true (by omega)
            have hl5 : decide (ii < x.length) = true := decide_eq_true hl3
            obtain ⟨am', A2, c2, hea, hx2, hlc2, hCe⟩ := at_row (Kd.C_below hC2 hb3) ii hl3
            obtain rfl : ad = am' := by injection hea
            have hml := he ii hl3
            obtain ⟨ae, rfl, hx3⟩ := Kd.at_int hCe (cc : Int) (by omega) (by omega)
            rw [Int.toNat_natCast] at hx3
            have hl6 : decide ((cc : Int) < ((rd_L1 x (ii : Int)).length : Int)) = true := decide_eq_true (by omega)
            have hl7 : decide (cc < (rd_L1 x (ii : Int)).length) = true := decide_eq_true (by omega)
            clear hea hCe hlc2
            rw [hml] at hx2
            clear hml hl6 hl7
            go_wp2_with (first | ((with_reducible refine gate_builtin (b := .append) (xs := #[.tmp 31, .tmp 36]) rfl ?_); at_builtin; refine Kd.R_append (Kd.int .i64) (w0 := w2) w2.heap.size rfl (.tmp 31) (.tmp 36) 29 3 (.int .i64 0) 8 rfl Try.underlying29 info3 rfl (by decide) (by omega) u7 (tab ii fun i' => rd (rd_L1 x (i' : Int)) (cc : Int)) (rd (rd_L1 x (ii : Int)) (cc : Int)) [.int .i64 (rd (rd_L1 x (ii : Int)) (cc : Int))] (fun _ => True) (fun _ => False) rfl rfl ?aP (fun _ hk => hk.elim) ?aF ?aO ?aB ?aS ?aL ?_; (case aP => exact rfl); (case aB => exact hb3); (case aF => exact (fun _ _ => trivial)); (case aO => exact hR); (case aS => exact hb3.size); (case aL => simp; omega); intro v9 w9 ho9 hb9 hg9 hat9; clear hg9 hat9))
            go_roundw
            case rel => exact ⟨ii + 1, by omega, by go_num, by rw [tab_succ]; exact ho9, hb9⟩
            case measure => (simp [intOf]; try omega)
          · have e : ii = x.length := by omega
            subst e
            have hl4 : decide ((x.length : Int) < (x.length : Int)) = false := decide_eq_false (by omega)
            have hl5 : decide (x.length < x.length) = false := decide_eq_false hl3
            obtain ⟨Aq, cq, heq, hcq, hCq⟩ := Kd.R_reads hR
            rw [tab_length] at heq hcq hCq
            subst heq
            obtain ⟨w5, rfl⟩ : ∃ w5, w5 = wr := ⟨wr, rfl⟩
            clear hR hii hl3
            have hk5 := (hb3.cell (World.block_lt_of_cell? w2 _ ((hbz.cell (World.block_lt_of_cell? w _ hk)).trans hk))).trans ((hbz.cell (World.block_lt_of_cell? w _ hk)).trans hk)
            go_wp2_with fail
            have hdf := clo_calls kind gk (A := Aq) (c := cq) (l := colT x cc) w5 (by rw [col_len]; exact hCq) (by rw [col_len]; exact hcq) (by rw [col_len]; exact hn1) hk5
            rw [col_len] at hdf
            refine hdf.mono ?_
            clear hdf hk5
            rintro e w6 ⟨A6, c6, rfl, ho6, hb6⟩
            have hoL : ((bwd kind) (colT x cc)).length = x.length := by rw [bwd_len, col_len]
            rw [hoL] at ho6 ⊢
            have hD : Kd.R (Kd.int .i64) 3 w6 w5.heap.size (fun k => w2.heap.size ≤ k ∧ k < w6.heap.size) (.slice A6 x.length c6) ((bwd kind) (colT x cc)) := Kd.R_mono (Kd.R_bound ho6) (fun k hk => ⟨Nat.le_trans hb3.size hk.2.1, hk.2.2.1⟩)
            have hS6 : Kd.S (Kd.slice 3 (Kd.int .i64)) 29 w6 w.heap.size (fun k => k < w2.heap.size) (.slice A1 x.length c1) (stC (bwd kind) x cc 0) := Kd.S_below (Kd.S_mono (Kd.S_bound hS) (fun k hk => hk.2.2.1)) (below_step hb3 hb6)
            have hbz6 : Below w.heap.size w w6 := below_step hbz (below_step hb3 hb6)
            clear ho6 hb6 hS hbz hC2 hCq hcq hb3
            generalize hG : (bwd kind) (colT x cc) = G at hD hoL
            go_wp2_with fail
            go_loopw [43] (fun k wz => ∃ i : Nat, i ≤ x.length ∧ k = .int .i64 i ∧ Kd.S (Kd.slice 3 (Kd.int .i64)) 29 wz w.heap.size (fun k => k < w2.heap.size) (.slice A1 x.length c1) (stC (bwd kind) x cc i) ∧ Below w.heap.size w wz ∧ Kept w6 wz (fun k => k < w2.heap.size)) (fun k _ => x.length - (intOf k).toNat)
            case atStart => exact ⟨0, Nat.zero_le _, rfl, hS6, hbz6, Kept.refl _ _⟩
            case round =>
              clear hS6 hbz6
              obtain ⟨i, hi, rfl, hS7, hbz7, hkp⟩ := hrel
              by_cases hl3 : i < x.length
              · have hl4 : decide ((i : Int) < (x.length : Int)) = true := decide_eq_true (by omega)
                have hl5 : decide (i < x.length) = true := decide_eq_true hl3
                have hsl : (stC (bwd kind) x cc i).length = x.length := tabL_length _ _
                obtain ⟨g, c', u, oki, hev, hcell, hbg, hgd, hok, hR, hback⟩ := at_S hS7 i (by omega)
                injection hev with e1 e2 e3
                subst e1
                subst e3
                have hrl : (rd_L1 (stC (bwd kind) x cc i) (i : Int)).length = (rd_L1 x 0).length := by rw [stC_row _ _ _ _ hl3, tab_length]
                obtain ⟨gu, cu, heu, hgu, hgul, _, _⟩ := Kd.R_form hR (by omega)
                rw [hrl] at heu
                subst heu
                obtain ⟨hcu, hfu⟩ := Kd.R_celln 0 hR (cc : Int) (by omega) (by omega)
                have hP := Kd.R_putg hR (cc : Int) (rd G (i : Int))
                rw [Int.toNat_natCast] at hcu hfu hP
                have hS8 := hback hP.2 (fun k hk => by injection hk with hk; subst hk; exact hR.1 _ rfl) hP.1
                rw [← hG, stC_next _ _ hl3 hlt] at hS8
                have hkp8 : Kept w6 (wr.setCell ⟨gu, cc, none⟩ (.int .i64 (rd G (i : Int)))) (fun k => k < w2.heap.size) := Kept.of_grown hP.2 hkp (fun k hk => by injection hk with hk; subst hk; exact .inl (hok _ (hR.1 _ rfl)))
                rw [← hG] at hkp8
                have hb8 : Below w.heap.size w (wr.setCell ⟨gu, cc, none⟩ (.int .i64 (rd G (i : Int)))) := below_set hbz7 hgu
                rw [← hG] at hb8
                have hDr := Kd.R_kept hD hkp (fun k hk hk' => by omega)
                obtain ⟨ad6, he6, hdc⟩ := Kd.at_int (Kd.R_reads' hDr).2.2 (i : Int) (by omega) (by omega)
                subst he6
                rw [Int.toNat_natCast] at hdc
                clear hDr e2 hsl hS7 hP hback hR hkp hbz7
                go_wp2_with fail
                go_roundw
                case rel => exact ⟨i + 1, by omega, by go_num, by rw [← hG]; exact hS8, by rw [← hG]; exact hb8, by rw [← hG]; exact hkp8⟩
                case measure => (simp [intOf]; try omega)
              · have e : i = x.length := by omega
                subst e
                have hl4 : decide ((x.length : Int) < (x.length : Int)) = false := decide_eq_false (by omega)
                have hl5 : decide (x.length < x.length) = false := decide_eq_false hl3
                rw [stC_end] at hS7
                go_wp2_with fail
                go_roundw
                case rel => exact ⟨cc + 1, by omega, by go_num, Kd.S_mono hS7 (fun _ _ => trivial), hbz7⟩
                case measure => (simp [intOf]; try omega)
      · have e : cc = (rd_L1 x 0).length := by omega
        subst e
        have hlt2 : decide (((rd_L1 x 0).length : Int) < ((rd_L1 x 0).length : Int)) = false := decide_eq_false (by omega)
        have hlt3 : decide ((rd_L1 x 0).length < (rd_L1 x 0).length) = false := decide_eq_false hlt
        rw [stC_all] at hS
        go_wp2_with fail
        go_ret
        have hel : (colsT (bwd kind) x).length = x.length := tabL_length _ _
        refine ⟨A1, c1, ?_, ?_, hbz⟩
        · rw [hel]; rfl
        · rw [hel]; exact hS
def RetLB (r : List (List Int) × Bool) (w : World) (e : Ending) (w' : World) : Prop := ∃ A c, e = .returned (.tuple #[.slice A r.1.length c, .bool r.2]) ∧ Kd.S (Kd.slice 3 (Kd.int .i64)) 29 w' w.heap.size (fun _ => True) (.slice A r.1.length c) r.1 ∧ Below w.heap.size w w'
theorem rowsOk_calls (kind most : Int) {A : Option Addr} {n c : Nat} {x : List (List Int)} (hcap : n ≤ c) (hn : n = x.length) (hn1 : n ≤ 2000000) (hs : ∀ r ∈ x, r.length ≤ 2000000) (h0 : 0 ≤ most) (h1 : most ≤ 9000000000) :
    ∃ b : Bool, (b = true ↔ rowsB kind x most) ∧ ∀ w, Kd.C (Kd.slice 3 (Kd.int .i64)) w A n x → Calls Try.prog 27 #[.int .i64 kind, .slice A n c, .int .i64 most] w fun e w' => e = .returned (.bool b) ∧ Below w.heap.size w w' := by
  subst hn
  obtain ⟨b, ⟨K, hK⟩, hb⟩ := implRows_ev kind x most (by omega) (fun r hr => by have := hs r hr; omega) h0 h1
  refine ⟨b, hb, fun w hC => (impl_rowsOk.calls K kind A c x most b w hC hcap (hK K (Nat.le_refl _))).mono ?_⟩
  rintro e w' ⟨rfl, hd⟩
  exact ⟨rfl, hd.below⟩
set_option maxHeartbeats 600000 in
theorem both_calls (kind : Int) {A : Option Addr} {n c : Nat} {x : List (List Int)} (w : World) (hC : Kd.C (Kd.slice 3 (Kd.int .i64)) w A n x) (hcap : n ≤ c) (hn : n = x.length) (hn1 : n ≤ 2000000) (hs : ∀ r ∈ x, r.length ≤ 2000000) :
    Calls Try.prog 13 #[.int .i64 kind, .slice A n c] w (RetLB (unlift2R kind x) w) := by
  subst hn
  have hmf : ∀ (fn : Fn) (first cap : Array Value) (w : World), (Instr.makeFunc fn first cap).run Try.prog w = .ok (.func fn first cap) w := fun _ _ _ _ => rfl
  obtain ⟨b, hb, hro⟩ := rowsOk_calls (A := A) (c := c) kind 8000000000 hcap rfl hn1 hs (by omega) (by omega)
  have HB_ := Aside0.mk hb
  have HRO := Aside0.mk hro
  clear hb hro
  go_enter Try.func13, Try.ntmps13
  go_upto_region 1 with fail
  have hka : (w.alloc (.cells #[.int .i64 kind] 3)).cell? ⟨w.heap.size, 0, none⟩ = some (.int .i64 kind) := (blk_cell (blk_new w (.cells #[.int .i64 kind] 3)) 0).trans rfl
  have hba : Below w.heap.size w (w.alloc (.cells #[.int .i64 kind] 3)) := below_alloc (Below.refl _ _) _
  generalize w.alloc (.cells #[.int .i64 kind] 3) = wa at *
  generalize hgk : w.heap.size = gk at hka ⊢
  go_wp2_with fail
  refine (HRO.out _ (Kd.C_below hC hba)).mono ?_
  rintro e w1 ⟨rfl, hb1⟩
  have hk1 := (hb1.cell (World.block_lt_of_cell? wa _ hka)).trans hka
  have hb2 := below_step hba hb1
  clear hba hb1 hka HRO
  have hb := HB_.out
  clear HB_
  cases b with
  | false =>
    have hno : unlift2R kind x = ([], false) := by unfold unlift2R; rw [if_neg (fun h => by have := hb.2 h; cases this)]
    go_wp2_with fail
    go_ret2
    rw [hno]
    exact ⟨none, 0, rfl, Kd.S_nil _ _ _ _ _, hb2⟩
  | true =>
    have hR := hb.1 rfl
    have hyes : unlift2R kind x = (eachT (bwd kind) (colsT (bwd kind) x), true) := by unfold unlift2R; rw [if_pos hR]
    have hE : Even x := fun i hi => (hR.2.2 i hi).1
    have h64 : ∀ r ∈ x, r.length ≤ 64 := fun r hr => by
      obtain ⟨i, hi, rfl⟩ := List.getElem_of_mem hr
      have := (hR.2.2 i hi).2.1
      rw [rdL_nat, List.getD_eq_getElem?_getD, List.getElem?_eq_getElem hi] at this
      simpa using this
    have hx64 := hR.2.1
    replace hs : ∀ r ∈ x, r.length ≤ 1000000 := fun r hr => by have := h64 r hr; omega
    go_wp2_with fail
    refine (eachCol_calls kind gk (c := c) _ (Kd.C_below hC hb2) hcap rfl (by omega) hs hE hk1).mono ?_
    rintro e w2 ⟨A2, c2, rfl, ho, hb3⟩
    have hel : (colsT (bwd kind) x).length = x.length := tabL_length _ _
    rw [hel] at ho
    obtain ⟨hl2, hc2, hC2⟩ := Kd.S_reads' ho
    rw [hel] at hC2
    clear hl2
    have hk2 := (hb3.cell (World.block_lt_of_cell? w1 _ hk1)).trans hk1
    have hb4 := below_step hb2 hb3
    go_wp2_with fail
    refine (eachRow_calls kind gk _ hC2 hc2 hel.symm (by omega) (fun r hr => by
      unfold colsT tabL at hr
      obtain ⟨i, hi, rfl⟩ := List.mem_map.1 hr
      rw [tab_length]
      exact hs _ (rdL_mem (x := x) (i := 0) (by have := List.mem_range.1 hi; omega))) hk2).mono ?_
    rintro e w3 ⟨A3, c3, rfl, ho3, hb5⟩
    go_wp2_with fail
    go_ret2
    rw [hyes]
    exact ⟨A3, c3, rfl, Kd.S_lower ho3 hb4.size, below_step hb4 hb5⟩
end Go.Proofs.Ytofegdgcafameaa.LRowXB
