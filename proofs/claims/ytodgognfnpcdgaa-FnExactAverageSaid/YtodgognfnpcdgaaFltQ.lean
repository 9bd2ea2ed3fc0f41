/- The walks of szPairS and toPairS. -/
import Derived.Test.YtodgognfnpcdgaaFltP
import Derived.Lib.Hide
namespace Go.Proofs.Ytodgognfnpcdgaa.FltQ
open Go.RowKit Go.Proofs.Ytodgognfnpcdgaa.Flt Go.Proofs.Ytodgognfnpcdgaa.FltA Go.Proofs.Ytodgognfnpcdgaa.FltB Go.Proofs.Ytodgognfnpcdgaa.FltD Go.Proofs.Ytodgognfnpcdgaa.FltN Go.Proofs.Ytodgognfnpcdgaa.FltO Go.Proofs.Ytodgognfnpcdgaa.FltP Go.Proofs.YtodgognfnpcdgaaW.PrintWords Go.Proofs.YtodgognfnpcdgaaW.PrintLast Go.Proofs.YtodgognfnpcdgaaW.PrintMore
set_option linter.unusedVariables false
set_option linter.unusedSimpArgs false
attribute [local go_sem] run_store_float

theorem sz_calls (A : Option Addr) (c n : Nat) (w : World) (hm : n ≤ maxLen) :
    Calls Try.prog 18 #[.slice A n c, .int .i64 1048576] w fun e w' => e = .returned (.int .i64 (if n ≤ 1048576 then 1048576 - (n : Int) else -1)) ∧ w = w' := by
  unfold maxLen at hm
  by_cases h : n ≤ 1048576
  · rw [if_pos h]
    go_enter Try.func18, Try.ntmps18
    go_wp2
    go_ret
    exact ⟨rfl, rfl⟩
  · rw [if_neg h]
    have hlt : decide ((1048576 : Int) - n < 0) = true := decide_eq_true (by omega)
    go_enter Try.func18, Try.ntmps18
    go_wp2
    go_ret
    exact ⟨rfl, rfl⟩

theorem made_pairs (m : Nat) (f : Value) : (madeCells #[f, f] m).toList = List.replicate m f := by
  apply List.ext_getElem?
  intro j
  by_cases hj : j < m
  · have h2 : j % 2 = 0 ∨ j % 2 = 1 := by omega
    rcases h2 with h2 | h2 <;> simp [madeCells, hj, h2]
  · simp [madeCells, hj]
theorem info26 : (Try.prog.info? 26).map (fun i => (i.zero, i.size, i.bytes)) = some (some (.agg #[.float .f64 0, .float .f64 0]), 2, 16) := by kernel_rfl
section
variable {ops : Array Oper} {rest : List Oper} {o : Oper} {a : Act} {Q : Exit → Act → World → Prop}
/-- make([]Pair, n) -/
theorem F_make {W : World} (hgd : o.guard = none) {N : Tmp} (hd : o.dst = some N) (x y : Operand) (ho : o.op = .makeSlice 33 x y) (n : Nat) (hx : a.eval x = .int .i64 (n : Int)) (hy : a.eval y = .int .i64 (n : Int)) (hn : n ≤ 2000000)
    (h : ∀ w1, FOwn w1 W.heap.size 26 2 (.slice (some ⟨W.heap.size, 0, none⟩) n n) n (List.replicate (n * 2) 0) → Below W.heap.size W w1 → W.heap.size < w1.heap.size → wpList Try.prog ops Q rest (a.put o.dst (.slice (some ⟨W.heap.size, 0, none⟩) n n)) w1) : wpList Try.prog ops Q (o :: rest) a W := by
  obtain ⟨i0, hi, hzz⟩ := Option.map_eq_some_iff.1 info26
  simp only [Prod.mk.injEq] at hzz
  obtain ⟨hz0, hz1, hz2⟩ := hzz
  obtain ⟨w', hr, hown, hg⟩ := run_make_full (P := Try.prog) W W.heap.size 33 26 i0 (.agg #[.float .f64 0, .float .f64 0]) 2 Try.underlying33 hi hz0 hz1 .i64 .i64 n (by rw [hz2]; omega) (by simp [maxLen]; omega) (Nat.le_refl _)
  have hc : (Value.agg #[.float .f64 0, .float .f64 0]).cells = #[.float .f64 0, .float .f64 0] := by kernel_rfl
  rw [hc, made_pairs] at hown
  refine Kd.event_run (P := Try.prog) hgd (v := .slice (some ⟨W.heap.size, 0, none⟩) n n) (w1 := w') ?_ (h w' ⟨by rw [List.map_replicate]; exact hown⟩ ((Below.refl _ _).grown hg (Nat.le_refl _) (fun k hk => by cases hk)) (hown.lt W.heap.size rfl).2)
  simp [execOp, ho, hx, hy, hr]
end
theorem FOwn.below {w w1 : World} {base : Nat} {e : TypeId} {sz n : Nat} {v : Value} {bs : List Nat} (h : FOwn w base e sz v n bs) (hb : Below w.heap.size w w1) : FOwn w1 base e sz v n bs :=
  ⟨own_move h.out (fun k hk => hb.block k (own_lt h.out k hk))⟩
theorem FOwn.put {w : World} {base g cap : Nat} {e : TypeId} {sz n : Nat} {bs : List Nat} (h : FOwn w base e sz (.slice (some ⟨g, 0, none⟩) n cap) n bs) (j x : Nat) : FOwn (w.setCell ⟨g, j, none⟩ (.float .f64 x)) base e sz (.slice (some ⟨g, 0, none⟩) n cap) n (bs.set j x) := by
  have := (World.ownsRow.stored h.out j (.float .f64 x)).1
  exact ⟨by rw [List.map_set]; exact this⟩
theorem FOwn.cell {w : World} {base g cap : Nat} {e : TypeId} {sz n : Nat} {bs : List Nat} (h : FOwn w base e sz (.slice (some ⟨g, 0, none⟩) n cap) n bs) (j : Nat) (hj : j < n * sz) : w.cell? ⟨g, j, none⟩ = some (.float .f64 (bs.getD j 0)) ∧ w.frozen? ⟨g, j, none⟩ = false := by
  have hl : bs.length = n * sz := by simpa using h.out.1
  refine ⟨?_, World.ownsRow.frozenAt h.out j⟩
  rw [World.ownsRow.cellAt h.out j hj, List.getElem?_map, List.getD_eq_getElem?_getD, List.getElem?_eq_getElem (by omega)]
  rfl
/-- a row of pairs of the call's own comes back, with the bits bs -/
def RetO (e1 : TypeId) (sz n : Nat) (bs : List Nat) (w : World) (e : Ending) (w' : World) : Prop := ∃ v, e = .returned v ∧ FOwn w' w.heap.size e1 sz v n bs ∧ Below w.heap.size w w'
theorem getD_set (l : List Nat) (i j x : Nat) (h : i < l.length) : (l.set i x).getD j 0 = if j = i then x else l.getD j 0 := by
  rw [List.getD_eq_getElem?_getD, List.getElem?_set, List.getD_eq_getElem?_getD]
  by_cases e : j = i
  · subst e; simp [h]
  · rw [if_neg (fun h' => e h'.symm), if_neg e]
theorem ext_getD {xs ys : List Nat} (hl : xs.length = ys.length) (h : ∀ j, j < xs.length → xs.getD j 0 = ys.getD j 0) : xs = ys := by
  apply List.ext_getElem hl
  intro j h1 h2
  have := h j h1
  rw [List.getD_eq_getElem?_getD, List.getD_eq_getElem?_getD, List.getElem?_eq_getElem h1, List.getElem?_eq_getElem h2] at this
  exact this

set_option maxHeartbeats 1000000 in
theorem toPairs_calls (A : Option Addr) (c n : Nat) (bs : List Nat) (w : World) (hA : Flat w A (n * 2) bs) (hc : n ≤ c) (hn : n ≤ 2000000) :
    Calls Try.prog 20 #[.slice A n c] w (RetO 26 2 n bs w) := by
  go_enter Try.func20, Try.ntmps20
  go_wp2_with ((with_reducible refine gate_dst (N := 7) rfl ?_); refine F_make ?hg (N := 7) ?hd (.tmp 6) (.tmp 6) rfl n rfl rfl hn ?_; (case hg => rfl); (case hd => rfl); intro w1 ho1 hb1 hs1)
  go_loopw [4] (fun i wr => ∃ k : Nat, k ≤ n ∧ i = .int .i64 k ∧ ∃ cs : List Nat, (∀ j, j < k * 2 → cs.getD j 0 = bs.getD j 0) ∧ FOwn wr w.heap.size 26 2 (.slice (some ⟨w.heap.size, 0, none⟩) n n) n cs ∧ Below w.heap.size w wr ∧ w.heap.size < wr.heap.size) (fun i _ => n - (intOf i).toNat)
  case atStart => exact ⟨0, Nat.zero_le _, rfl, _, fun j hj => by omega, ho1, hb1, hs1⟩
  case round =>
    clear ho1 hb1 hs1
    obtain ⟨k, hk, rfl, cs, heq, ho, hb, hs⟩ := hrel
    by_cases hlt : k < n
    · obtain ⟨ad, rfl, hla⟩ := hA.at2 k hlt
      obtain ⟨l1, l2⟩ := hla _ hb
      generalize hp : bs.getD (k * 2) 0 = p at *
      generalize hq : bs.getD (k * 2 + 1) 0 = q at *
      have Hp := Lib.hid hp
      have Hq := Lib.hid hq
      have HA := Lib.hid hA.1
      clear hp hq hla
      go_wp2_with fail
      refine (toPair_calls p q _).mono ?_
      rintro e w2 ⟨rfl, hb2⟩
      replace ho := FOwn.below ho hb2
      replace hs := Nat.lt_of_lt_of_le hs hb2.size
      replace hb := below_step hb hb2
      obtain ⟨k0, k1⟩ := FOwn.cell ho (k * 2) (by omega)
      obtain ⟨k2, k3⟩ := FOwn.cell ho (k * 2 + 1) (by omega)
      clear hb2 l1 l2
      go_wp2_with fail
      go_roundw
      case rel => exact ⟨k + 1, by omega, by go_num, (cs.set (k * 2) p).set (k * 2 + 1) q, fun j hj => by
          have hl : cs.length = n * 2 := by simpa using ho.out.1
          rw [getD_set _ _ _ _ (by rw [List.length_set]; omega), getD_set _ _ _ _ (by omega)]
          by_cases e1 : j = k * 2 + 1
          · rw [if_pos e1, e1, Hq.out]
          · rw [if_neg e1]
            by_cases e2 : j = k * 2
            · rw [if_pos e2, e2, Hp.out]
            · rw [if_neg e2]; exact heq j (by omega), FOwn.put (FOwn.put ho (k * 2) p) (k * 2 + 1) q, (hb.setCell (Nat.le_refl _) _).setCell (Nat.le_refl _) _, by simpa using hs⟩
      case measure => (simp [intOf]; try omega)
    · have hkn : n ≤ k := by omega
      have hlt2 : decide ((k : Int) < (n : Int)) = false := decide_eq_false (by omega)
      have hlt3 : decide (k < n) = false := decide_eq_false hlt
      go_wp2_with fail
      go_ret
      have hl : cs.length = n * 2 := by simpa using ho.out.1
      have he : cs = bs := ext_getD (by rw [hl, hA.1]) (fun j hj => heq j (by omega))
      exact ⟨_, rfl, he ▸ ho, hb⟩
end Go.Proofs.Ytodgognfnpcdgaa.FltQ
