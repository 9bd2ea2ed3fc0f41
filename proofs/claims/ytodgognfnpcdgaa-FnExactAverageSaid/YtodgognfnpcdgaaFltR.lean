/- The walks of both Powers and of the marks. -/
import Derived.Test.YtodgognfnpcdgaaFltQ
import Derived.Lib.Hide
namespace Go.Proofs.Ytodgognfnpcdgaa.FltR
open Go.RowKit Go.Proofs.Ytodgognfnpcdgaa.Flt Go.Proofs.Ytodgognfnpcdgaa.FltA Go.Proofs.Ytodgognfnpcdgaa.FltB Go.Proofs.Ytodgognfnpcdgaa.FltD Go.Proofs.Ytodgognfnpcdgaa.FltN Go.Proofs.Ytodgognfnpcdgaa.FltO Go.Proofs.Ytodgognfnpcdgaa.FltP Go.Proofs.Ytodgognfnpcdgaa.FltQ Go.Proofs.YtodgognfnpcdgaaW.PrintWords Go.Proofs.YtodgognfnpcdgaaW.PrintLast Go.Proofs.YtodgognfnpcdgaaW.PrintMore
set_option linter.unusedVariables false
set_option linter.unusedSimpArgs false
attribute [local go_sem] run_store_float

theorem info24 : (Try.prog.info? 24).map (fun i => (i.zero, i.size, i.bytes)) = some (some (.float .f64 0), 1, 8) := by kernel_rfl
section
variable {ops : Array Oper} {rest : List Oper} {o : Oper} {a : Act} {Q : Exit → Act → World → Prop}
theorem F_append {w0 W : World} (base : Nat) (hgd : o.guard = none) (s x : Operand) (ho : o.op = .call { callee := .builtin .append, args := #[s, x], argTypes := #[38, 38] })
    (v : Value) (n : Nat) (bs : List Nat) (r : Nat) (hs : a.eval s = v) (hx : a.eval x = .slice (some ⟨W.heap.size, 0, none⟩) 1 1) (HO : FOwn W base 24 1 v n bs) (HB : Below base w0 W) (hbase : base ≤ W.heap.size) (hn : n ≤ 2000000)
    (h : ∀ v1 w1, FOwn w1 base 24 1 v1 (n + 1) (bs ++ [r]) → Below base w0 w1 → wpList Try.prog ops Q rest (a.put o.dst v1) w1) : wpList Try.prog ops Q (o :: rest) a (W.alloc (.cells #[.float .f64 r] 24)) := by
  refine print_append_cells (ys := [.float .f64 r]) base hgd s x 38 24 (.float .f64 0) 1 8 ho Try.underlying38 info24 rfl (by decide) (by decide) v n (bs.map (Value.float .f64)) hs hx rfl (by intro u hu; simp at hu; subst hu; rfl) HO.out HB hbase (by omega) ?_
  intro v1 w1 hown hb hg hat
  exact h v1 w1 ⟨by rw [List.map_append]; exact hown⟩ hb
end
def pwsC (bs : List Nat) (n : Nat) : List (Option Nat) := (List.range n).map fun i => pw2 (cls (bs.getD (i * 2) 0)) (cls (bs.getD (i * 2 + 1) 0))
def powersC (bs : List Nat) (n : Nat) : List (Option Nat) := if n ≤ 128 then pwsC bs n else []
theorem pwsC_succ (bs : List Nat) (n : Nat) : pwsC bs (n + 1) = pwsC bs n ++ [pw2 (cls (bs.getD (n * 2) 0)) (cls (bs.getD (n * 2 + 1) 0))] := by
  simp [pwsC, List.range_succ]
/-- a row of floats of the call's own comes back, of the classes xs -/
def RetL (xs : List (Option Nat)) (w : World) (e : Ending) (w' : World) : Prop := ∃ v n rs, e = .returned v ∧ FOwn w' w.heap.size 24 1 v n rs ∧ rs.map cls = xs ∧ Below w.heap.size w w'
def InPows (w : World) (xs : List (Option Nat)) (v : Value) (wr : World) : Prop := ∃ n rs, FOwn wr w.heap.size 24 1 v n rs ∧ rs.map cls = xs ∧ Below w.heap.size w wr ∧ n ≤ 128

set_option maxHeartbeats 1000000 in
theorem ipowers_calls (A : Option Addr) (c n : Nat) (bs : List Nat) (w : World) (hA : Flat w A (n * 2) bs) (hc : n ≤ c) (hn : n ≤ 2000000) :
    Calls Try.prog 21 #[.slice A n c] w (RetL (powersC bs n) w) := by
  by_cases hbig : n ≤ 128
  · have hp : powersC bs n = pwsC bs n := if_pos hbig
    rw [hp]
    go_enter Try.func21, Try.ntmps21
    go_wp2_with fail
    go_loopw [3, 11] (fun v i wr => ∃ k : Nat, k ≤ n ∧ i = .int .i64 k ∧ InPows w (pwsC bs k) v wr) (fun _ i _ => n - (intOf i).toNat)
    case atStart => exact ⟨0, Nat.zero_le _, rfl, 0, [], ⟨World.ownsRow_nil _ _ _ _⟩, rfl, Below.refl _ _, by omega⟩
    case round =>
      obtain ⟨k, hk, rfl, m, rs, ho, hrs, hb, hm⟩ := hrel
      by_cases hlt : k < n
      · obtain ⟨ad, rfl, hla⟩ := hA.at2 k hlt
        obtain ⟨l1, l2⟩ := hla _ hb
        have hsucc := pwsC_succ bs k
        generalize bs.getD (k * 2) 0 = p at *
        generalize bs.getD (k * 2 + 1) 0 = q at *
        have HS := Lib.hid hsucc
        have HR := Lib.hid hrs
        have hml : m ≤ k := by
          have h1 : rs.length = m * 1 := by simpa using ho.out.1
          have h2 : (pwsC bs k).length = k := by simp [pwsC]
          rw [← hrs, List.length_map] at h2
          omega
        clear hla hsucc hrs
        go_wp2_with fail
        refine (ipower2_calls p q _).mono ?_
        rintro e w2 ⟨r, rfl, hr, hb2⟩
        have hb3 : Below wr.heap.size wr w2 := (bstep (w1 := wr.alloc (.cells #[.float .f64 p, .float .f64 q] 26)) (Below.alloc (Below.refl _ _) (Nat.le_refl _) _) hb2 (by simp)).1
        replace ho := FOwn.below ho hb3
        replace hb := below_step hb hb3
        clear hb2 hb3 l1 l2
        go_wp2_with ((with_reducible refine gate_builtin (b := .append) (xs := #[.tmp 15, .tmp 18]) rfl ?_); at_builtin; refine F_append (w0 := w) w.heap.size rfl (.tmp 15) (.tmp 18) rfl u3 m rs r rfl rfl ho hb hb.size (by omega) ?_; intro v9 w9 ho9 hb9)
        go_roundw
        case rel => exact ⟨k + 1, by omega, by go_num, m + 1, rs ++ [r], ho9, by rw [List.map_append, HR.out, HS.out, List.map_cons, List.map_nil, hr], hb9, by omega⟩
        case measure => (simp [intOf]; try omega)
      · have hkn : k = n := by omega
        rw [hkn] at hrs
        have hlt2 : decide ((k : Int) < (n : Int)) = false := decide_eq_false (by omega)
        have hlt3 : decide (k < n) = false := decide_eq_false hlt
        clear hkn
        have HR := Lib.hid hrs
        clear hrs
        go_wp2_with fail
        go_ret
        exact ⟨_, m, rs, rfl, ho, HR.out, hb⟩
  · have hp : powersC bs n = [] := if_neg hbig
    rw [hp]
    have hgt : decide ((128 : Int) < (n : Int)) = true := decide_eq_true (by omega)
    have hgt2 : decide (128 < n) = true := decide_eq_true (by omega)
    go_enter Try.func21, Try.ntmps21
    go_wp2_with fail
    go_ret
    exact ⟨_, 0, [], rfl, ⟨World.ownsRow_nil _ _ _ _⟩, rfl, Below.refl _ _⟩

set_option maxHeartbeats 1000000 in
theorem spowers_calls (A : Option Addr) (c n : Nat) (bs : List Nat) (w : World) (hA : Flat w A (n * 2) bs) (hc : n ≤ c) (hn : n ≤ 2000000) :
    Calls Try.prog 19 #[.slice A n c] w (RetL (powersC bs n) w) := by
  by_cases hbig : n ≤ 128
  · have hp : powersC bs n = pwsC bs n := if_pos hbig
    rw [hp]
    have hle : decide ((n : Int) ≤ 128) = true := decide_eq_true (by omega)
    have hle2 : decide (n ≤ 128) = true := decide_eq_true hbig
    go_enter Try.func19, Try.ntmps19
    go_wp2_with fail
    go_loopw [3, 4] (fun v i wr => ∃ k : Nat, k ≤ n ∧ i = .int .i64 k ∧ InPows w (pwsC bs k) v wr) (fun _ i _ => n - (intOf i).toNat)
    case atStart => exact ⟨0, Nat.zero_le _, rfl, 0, [], ⟨World.ownsRow_made _ #[] 0 (Nat.le_refl _) (by simp [maxLen]) rfl⟩, rfl, by repeat (first | exact Below.refl _ _ | apply below_alloc), by omega⟩
    case round =>
      obtain ⟨k, hk, rfl, m, rs, ho, hrs, hb, hm⟩ := hrel
      by_cases hlt : k < n
      · obtain ⟨ad, rfl, hla⟩ := hA.at2 k hlt
        obtain ⟨l1, l2⟩ := hla _ hb
        have hsucc := pwsC_succ bs k
        generalize bs.getD (k * 2) 0 = p at *
        generalize bs.getD (k * 2 + 1) 0 = q at *
        have HS := Lib.hid hsucc
        have HR := Lib.hid hrs
        have hml : m ≤ k := by
          have h1 : rs.length = m * 1 := by simpa using ho.out.1
          have h2 : (pwsC bs k).length = k := by simp [pwsC]
          rw [← hrs, List.length_map] at h2
          omega
        have hlt2 : decide ((k : Int) < (n : Int)) = true := decide_eq_true (by omega)
        have hlt3 : decide (k < n) = true := decide_eq_true hlt
        clear hla hsucc hrs
        go_wp2_with fail
        refine (spower2_calls p q _).mono ?_
        rintro e w2 ⟨r, rfl, hr, hb2⟩
        replace ho := FOwn.below ho hb2
        replace hb := below_step hb hb2
        clear hb2 l1 l2
        go_wp2_with ((with_reducible refine gate_builtin (b := .append) (xs := #[.tmp 17, .tmp 23]) rfl ?_); at_builtin; refine F_append (w0 := w) w.heap.size rfl (.tmp 17) (.tmp 23) rfl u3 m rs r rfl rfl ho hb hb.size (by omega) ?_; intro v9 w9 ho9 hb9)
        go_roundw
        case rel => exact ⟨k + 1, by omega, by go_num, m + 1, rs ++ [r], ho9, by rw [List.map_append, HR.out, HS.out, List.map_cons, List.map_nil, hr], hb9, by omega⟩
        case measure => (simp [intOf]; try omega)
      · have hkn : k = n := by omega
        rw [hkn] at hrs
        have hlt2 : decide ((k : Int) < (n : Int)) = false := decide_eq_false (by omega)
        have hlt3 : decide (k < n) = false := decide_eq_false hlt
        clear hkn
        have HR := Lib.hid hrs
        clear hrs
        go_wp2_with fail
        go_ret
        exact ⟨_, m, rs, rfl, ho, HR.out, hb⟩
  · have hp : powersC bs n = [] := if_neg hbig
    rw [hp]
    have hgt : decide ((n : Int) ≤ 128) = false := decide_eq_false (by omega)
    have hgt2 : decide (n ≤ 128) = false := decide_eq_false (by omega)
    have hgt3 : decide ((0 : Int) < (n : Int)) = true := decide_eq_true (by omega)
    have hgt4 : decide (0 < n) = true := decide_eq_true (by omega)
    go_enter Try.func19, Try.ntmps19
    go_wp2_with fail
    go_loopw [3, 4] (fun v i wr => i = .int .i64 0 ∧ InPows w [] v wr) (fun _ i _ => 0)
    case atStart => exact ⟨rfl, 0, [], ⟨World.ownsRow_made _ #[] 0 (Nat.le_refl _) (by simp [maxLen]) rfl⟩, rfl, by repeat (first | exact Below.refl _ _ | apply below_alloc), by omega⟩
    case round =>
      obtain ⟨rfl, m, rs, ho, hrs, hb, hm⟩ := hrel
      have HR := Lib.hid hrs
      clear hrs
      go_wp2_with fail
      go_ret
      exact ⟨_, m, rs, rfl, ho, HR.out, hb⟩

/-- the floats 'k', 'k + 1' .. -/
def marks (k : Int) (n : Nat) : List Nat := (List.range n).map fun (i : Nat) => floatOfInt .f64 (k + (i : Int))
theorem marks_get (k : Int) (n j : Nat) (h : j < n) : (marks k n).getD j 0 = floatOfInt .f64 (k + (j : Int)) := by
  simp [marks, List.getD_eq_getElem?_getD, h]
/-- only block g has been written -/
def Only (w w' : World) (v : Value) : Prop := w.heap.size ≤ w'.heap.size ∧ ∀ i, i < w.heap.size → some i ≠ v.ownBlock → w'.heap[i]? = w.heap[i]?
theorem Only.trans_set {w w' : World} {g n c : Nat} (h : Only w w' (.slice (some ⟨g, 0, none⟩) n c)) (j : Nat) (u : Value) : Only w (w'.setCell ⟨g, j, none⟩ u) (.slice (some ⟨g, 0, none⟩) n c) :=
  ⟨by simpa using h.1, fun i hi hn => (Below.heap_setCell w' ⟨g, j, none⟩ u i (fun e => hn (by rw [e]; rfl))).trans (h.2 i hi hn)⟩

set_option maxHeartbeats 1000000 in
theorem markFloats_calls (v : Value) (n : Nat) (bs : List Nat) (base : Nat) (w0 w : World) (k : Int) (ho : FOwn w base 24 1 v n bs) (hb : Below base w0 w) (hn : n ≤ 2000000) (h0 : 0 ≤ k) (h1 : k ≤ 1000000000) :
    Calls Try.prog 25 #[v, .int .i64 k] w fun e w' => e = .returned (.int .i64 (k + n)) ∧ FOwn w' base 24 1 v n (marks k n) ∧ Below base w0 w' ∧ Only w w' v := by
  rcases Nat.eq_zero_or_pos n with hz | hz
  · subst hz
    obtain ⟨A, c, rfl, hc, hF⟩ := ho.flat
    have hbs : bs = [] := by simpa using hF.1
    subst hbs
    go_enter Try.func25, Try.ntmps25
    go_wp2_with fail
    go_loopw [1, 5] (fun a i wr => a = .int .i64 k ∧ i = .int .i64 0 ∧ wr = w) (fun _ i _ => 0)
    case atStart => exact ⟨rfl, rfl, rfl⟩
    case round =>
      obtain ⟨rfl, rfl, rfl⟩ := hrel
      go_wp2_with fail
      go_ret
      exact ⟨by simp, ho, hb, Nat.le_refl _, fun _ _ _ => rfl⟩
  · rcases ho.out.2 with ⟨_, hnil⟩ | ⟨g, cap, cur, rfl, hg, _, hcap, _⟩
    · omega
    go_enter Try.func25, Try.ntmps25
    go_wp2_with fail
    go_loopw [1, 5] (fun a i wr => ∃ m : Nat, m ≤ n ∧ a = .int .i64 (k + m) ∧ i = .int .i64 m ∧ ∃ cs : List Nat, (∀ j, j < m → cs.getD j 0 = floatOfInt .f64 (k + (j : Int))) ∧ FOwn wr base 24 1 (.slice (some ⟨g, 0, none⟩) n cap) n cs ∧ Below base w0 wr ∧ Only w wr (.slice (some ⟨g, 0, none⟩) n cap)) (fun _ i _ => n - (intOf i).toNat)
    case atStart => exact ⟨0, Nat.zero_le _, by simp, rfl, bs, fun j hj => by omega, ho, hb, Nat.le_refl _, fun _ _ _ => rfl⟩
    case round =>
      clear ho hb
      obtain ⟨m, hm, rfl, rfl, cs, heq, ho, hb, hon⟩ := hrel
      by_cases hlt : m < n
      · obtain ⟨k0, k1⟩ := FOwn.cell ho m (by omega)
        go_wp2_with fail
        go_roundw
        case rel => exact ⟨m + 1, by omega, by go_num, by go_num, cs.set m (floatOfInt .f64 (k + (m : Int))), fun j hj => by
          have hl : cs.length = n * 1 := by simpa using ho.out.1
          rw [getD_set _ _ _ _ (by omega)]
          by_cases e : j = m
          · rw [if_pos e, e]
          · rw [if_neg e]; exact heq j (by omega), FOwn.put ho m _, hb.setCell hg _, hon.trans_set _ _⟩
        case measure => (simp [intOf]; try omega)
      · have hmn : m = n := by omega
        have hlt2 : decide ((m : Int) < (n : Int)) = false := decide_eq_false (by omega)
        have hlt3 : decide (m < n) = false := decide_eq_false hlt
        have hl : cs.length = n * 1 := by simpa using ho.out.1
        have he : cs = marks k n := ext_getD (by rw [hl]; simp [marks]) (fun j hj => by rw [heq j (by omega), marks_get k n j (by omega)])
        have HN := Lib.hid hmn
        have HE := Lib.hid he
        clear hmn he hl
        go_wp2_with fail
        go_ret
        exact ⟨by (rw [HN.out]; try rfl), HE.out ▸ ho, hb, hon⟩

set_option maxHeartbeats 1000000 in
theorem heldFloats_calls (A : Option Addr) (c n : Nat) (w : World) (k : Int) (hF : Flat w A n (marks k n)) (hc : n ≤ c) (hn : n ≤ 2000000) (h0 : 0 ≤ k) (h1 : k ≤ 1000000000) :
    Calls Try.prog 26 #[.slice A n c, .int .i64 k] w fun e w' => e = .returned (.int .i64 (k + n)) ∧ Below w.heap.size w w' := by
  go_enter Try.func26, Try.ntmps26
  go_wp2_with fail
  go_loopw [1, 5] (fun a i wr => ∃ m : Nat, m ≤ n ∧ a = .int .i64 (k + m) ∧ i = .int .i64 m ∧ Below w.heap.size w wr) (fun _ i _ => n - (intOf i).toNat)
  case atStart => exact ⟨0, Nat.zero_le _, by simp, rfl, Below.refl _ _⟩
  case round =>
    obtain ⟨m, hm, rfl, rfl, hb⟩ := hrel
    by_cases hlt : m < n
    · obtain ⟨ad, rfl, hla⟩ := hF.at1 m hlt
      have l1 := hla _ hb
      rw [marks_get k n m hlt] at l1
      have hi := of_int (k + (m : Int)) (by omega)
      have hne : (FloatKind.f64.format.order (floatOfInt .f64 (k + (m : Int))) (floatOfInt .f64 (k + (m : Int))) != some .eq) = false := by
        have h2 := order_int hi hi
        rw [decide_eq_true rfl] at h2
        simp only [bne, h2, Bool.not_true]
      clear hla
      go_wp2_with fail
      go_roundw
      case rel => exact ⟨m + 1, by omega, by go_num, by go_num, by repeat (first | exact hb | apply below_drew1 | apply pw_below_drewN)⟩
      case measure => (simp [intOf]; try omega)
    · have hmn : m = n := by omega
      have hlt2 : decide ((m : Int) < (n : Int)) = false := decide_eq_false (by omega)
      have hlt3 : decide (m < n) = false := decide_eq_false hlt
      have HN := Lib.hid hmn
      clear hmn
      go_wp2_with fail
      go_ret
      exact ⟨by (rw [HN.out]; try rfl), hb⟩

set_option maxHeartbeats 1000000 in
theorem markPairs_calls (v : Value) (n : Nat) (bs : List Nat) (base : Nat) (w0 w : World) (k : Int) (ho : FOwn w base 26 2 v n bs) (hb : Below base w0 w) (hn : n ≤ 2000000) (h0 : 0 ≤ k) (h1 : k ≤ 1000000000) :
    Calls Try.prog 24 #[v, .int .i64 k] w fun e w' => e = .returned (.int .i64 (k + 2 * n)) ∧ Below base w0 w' ∧ Only w w' v := by
  rcases Nat.eq_zero_or_pos n with hz | hz
  · subst hz
    obtain ⟨A, c, rfl, hc, hF⟩ := ho.flat
    go_enter Try.func24, Try.ntmps24
    go_wp2_with fail
    go_loopw [1, 5] (fun a i wr => a = .int .i64 k ∧ i = .int .i64 0 ∧ wr = w) (fun _ i _ => 0)
    case atStart => exact ⟨rfl, rfl, rfl⟩
    case round =>
      obtain ⟨rfl, rfl, rfl⟩ := hrel
      go_wp2_with fail
      go_ret
      exact ⟨by simp, hb, Nat.le_refl _, fun _ _ _ => rfl⟩
  · rcases ho.out.2 with ⟨_, hnil⟩ | ⟨g, cap, cur, rfl, hg, _, hcap, _⟩
    · omega
    go_enter Try.func24, Try.ntmps24
    go_wp2_with fail
    go_loopw [1, 5] (fun a i wr => ∃ m : Nat, m ≤ n ∧ a = .int .i64 (k + 2 * m) ∧ i = .int .i64 m ∧ ∃ cs : List Nat, FOwn wr base 26 2 (.slice (some ⟨g, 0, none⟩) n cap) n cs ∧ Below base w0 wr ∧ Only w wr (.slice (some ⟨g, 0, none⟩) n cap)) (fun _ i _ => n - (intOf i).toNat)
    case atStart => exact ⟨0, Nat.zero_le _, by simp, rfl, bs, ho, hb, Nat.le_refl _, fun _ _ _ => rfl⟩
    case round =>
      clear ho hb
      obtain ⟨m, hm, rfl, rfl, cs, ho, hb, hon⟩ := hrel
      by_cases hlt : m < n
      · obtain ⟨k0, k1⟩ := FOwn.cell ho (m * 2) (by omega)
        obtain ⟨k2, k3⟩ := FOwn.cell ho (m * 2 + 1) (by omega)
        go_wp2_with fail
        go_roundw
        case rel => exact ⟨m + 1, by omega, by go_num, by go_num, _, FOwn.put (FOwn.put ho (m * 2) _) (m * 2 + 1) _, (hb.setCell hg _).setCell hg _, (hon.trans_set _ _).trans_set _ _⟩
        case measure => (simp [intOf]; try omega)
      · have hmn : m = n := by omega
        have hlt2 : decide ((m : Int) < (n : Int)) = false := decide_eq_false (by omega)
        have hlt3 : decide (m < n) = false := decide_eq_false hlt
        have HN := Lib.hid hmn
        clear hmn
        go_wp2_with fail
        go_ret
        exact ⟨by (rw [HN.out]; try rfl), hb, hon⟩
end Go.Proofs.Ytodgognfnpcdgaa.FltR
