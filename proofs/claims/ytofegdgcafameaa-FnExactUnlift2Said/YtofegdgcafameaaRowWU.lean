/- Rows of rows: contracts of the exact laws' helpers, told of lists alone. -/
import Derived.Test.YtofegdgcafameaaLiftSU
namespace Go.Proofs.Ytofegdgcafameaa.RowWU
open Go.RowKit Go.Proofs.Ytofegdgcafameaa.QFnExactUnlift2 Go.Proofs.YtofegdgcafameaaW.PrintWords Go.Proofs.YtofegdgcafameaaW.PrintLast Go.Proofs.YtofegdgcafameaaW.PrintMore Go.Proofs.Ytofegdgcafameaa.Base Go.Proofs.Ytofegdgcafameaa.LiftSU
set_option linter.unusedVariables false
set_option linter.unusedSimpArgs false

/-- rows of rows of the call's own: base b, in the blocks lo .. hi -/
structure OwnS (w : World) (b lo hi : Nat) (v : Value) (x : List (List Int)) : Prop where mk :: (out : Kd.S (Kd.slice 3 (Kd.int .i64)) 29 w b (fun k => lo ≤ k ∧ k < hi) v x)
/-- rows of rows that are read -/
structure RedS (w : World) (A : Option Addr) (n c : Nat) (x : List (List Int)) : Prop where
  row : Kd.C (Kd.slice 3 (Kd.int .i64)) w A n x
  cap : n ≤ c
  len : n = x.length
/-- only the blocks lo .. hi have been written -/
structure Span (w w' : World) (lo hi : Nat) : Prop where mk :: (out : Kept w w' (fun k => lo ≤ k ∧ k < hi))
theorem of_S {w : World} {b : Nat} {v : Value} {x : List (List Int)} (h : Kd.S (Kd.slice 3 (Kd.int .i64)) 29 w b (fun _ => True) v x) : OwnS w b b w.heap.size v x := ⟨Kd.S_mono (Kd.S_bound h) (fun k hk => ⟨hk.2.1, hk.2.2.1⟩)⟩
theorem OwnS.below {w w1 : World} {b lo hi : Nat} {v : Value} {x : List (List Int)} (h : OwnS w b lo hi v x) (hb : Below w.heap.size w w1) : OwnS w1 b lo hi v x := ⟨Kd.S_below h.out hb⟩
theorem OwnS.lower {w : World} {b b' lo hi : Nat} {v : Value} {x : List (List Int)} (h : OwnS w b lo hi v x) (hb : b' ≤ b) : OwnS w b' lo hi v x := ⟨Kd.S_lower h.out hb⟩
theorem OwnS.widen {w : World} {b lo hi lo' hi' : Nat} {v : Value} {x : List (List Int)} (h : OwnS w b lo hi v x) (h1 : lo' ≤ lo) (h2 : hi ≤ hi') : OwnS w b lo' hi' v x := ⟨Kd.S_mono h.out (fun k hk => ⟨by omega, by omega⟩)⟩
theorem OwnS.span {w w1 : World} {b lo hi lo' hi' : Nat} {v : Value} {x : List (List Int)} (h : OwnS w b lo hi v x) (hs : Span w w1 lo' hi') (hd : hi ≤ lo' ∨ hi' ≤ lo) : OwnS w1 b lo hi v x := ⟨Kd.S_kept h.out hs.out (fun k hk hk' => by omega)⟩
theorem OwnS.form {w : World} {b lo hi : Nat} {v : Value} {x : List (List Int)} (h : OwnS w b lo hi v x) : ∃ A c, v = .slice A x.length c := Kd.S_slice h.out
theorem OwnS.red {w : World} {b lo hi n c : Nat} {A : Option Addr} {x : List (List Int)} (h : OwnS w b lo hi (.slice A n c) x) : RedS w A n c x := by
  obtain ⟨h1, h2, h3⟩ := Kd.S_reads' h.out
  subst h1
  exact ⟨h3, h2, rfl⟩
theorem RedS.below {w w1 : World} {n c : Nat} {A : Option Addr} {x : List (List Int)} (h : RedS w A n c x) (hb : Below w.heap.size w w1) : RedS w1 A n c x := ⟨Kd.C_below h.row hb, h.cap, h.len⟩
theorem Span.blk {w w' : World} {lo hi g : Nat} {o : Obj} (h : Span w w' lo hi) (hg : w.heap[g]? = some o) (hne : g < lo ∨ hi ≤ g) : w'.heap[g]? = some o := blk_kept hg h.out (by omega)
/-- the bounds of the rows -/
structure Small (x : List (List Int)) : Prop where
  n : x.length ≤ 2000000
  r : ∀ r ∈ x, r.length ≤ 2000000
  o : off x x.length ≤ 2000000

/-- rows of rows of its own come back -/
def RetS (x : List (List Int)) (w : World) (e : Ending) (w' : World) : Prop := ∃ A c, e = .returned (.slice A x.length c) ∧ OwnS w' w.heap.size w.heap.size w'.heap.size (.slice A x.length c) x ∧ Below w.heap.size w w'
theorem toSS_calls {A : Option Addr} {n c : Nat} {x : List (List Int)} (w : World) (h : RedS w A n c x) (hs : Small x) : Calls Try.prog 17 #[.slice A n c] w (RetS x w) := by
  obtain ⟨hr, hc, rfl⟩ := h
  obtain ⟨K, hk⟩ := toIntSS_ev x hs.n hs.r
  refine (laws_toIntSS.calls K A c x x w hr hc (hk K (Nat.le_refl _))).mono ?_
  rintro e w' ⟨v, rfl, ho, hb⟩
  obtain ⟨A', c', rfl⟩ := (of_S ho).form
  exact ⟨A', c', rfl, of_S ho, hb⟩
theorem eqSS_calls {A B : Option Addr} {n m c d : Nat} {x : List (List Int)} (w : World) (h : RedS w A n c x) (h' : RedS w B m d x) (hs : Small x) :
    Calls Try.prog 19 #[.slice A n c, .slice B m d] w fun e w' => e = .returned (.bool true) ∧ Below w.heap.size w w' := by
  obtain ⟨hr, hc, rfl⟩ := h
  obtain ⟨hr', hc', rfl⟩ := h'
  obtain ⟨K, hk⟩ := eqIntSS_ev x hs.n hs.r
  refine (laws_eqIntSS.calls K A c x B d x true w hr hc hr' hc' (hk K (Nat.le_refl _))).mono ?_
  rintro e w' ⟨rfl, hd⟩
  exact ⟨rfl, hd.below⟩
theorem heldSS_calls {A : Option Addr} {n c : Nat} {x : List (List Int)} {m : Int} (w : World) (h : RedS w A n c (markT x m)) (hs : Small x) (h0 : 0 ≤ m) (h1 : m ≤ 1000000) :
    Calls Try.prog 21 #[.slice A n c, .int .i64 m] w fun e w' => e = .returned (.int .i64 (m + (off x x.length : Int))) ∧ Below w.heap.size w w' := by
  obtain ⟨hr, hc, rfl⟩ := h
  obtain ⟨K, hk⟩ := heldIntSS_ev x m hs.n hs.o h0 h1
  refine (laws_heldIntSS.calls K A c _ m _ w hr hc (hk K (Nat.le_refl _))).mono ?_
  rintro e w' ⟨rfl, hd⟩
  exact ⟨rfl, hd.below⟩
theorem szSS_calls {A : Option Addr} {n c : Nat} {x : List (List Int)} (w : World) (h : RedS w A n c x) (hm : x.length ≤ maxLen) (hr : ∀ r ∈ x, r.length ≤ maxLen) :
    ∃ v : Int, (0 ≤ v → Small x) ∧ ∀ w, RedS w A n c x → Calls Try.prog 15 #[.slice A n c, .int .i64 1048576] w fun e w' => e = .returned (.int .i64 v) ∧ Below w.heap.size w w' := by
  obtain ⟨v, hv, h0⟩ := szIntSS_ev x hm hr
  refine ⟨v, fun h => ?_, fun w h => ?_⟩
  · have := h0 h
    refine ⟨by omega, fun r hr => ?_, by omega⟩
    obtain ⟨i, hi, rfl⟩ := List.getElem_of_mem hr
    have := len_le_off x hi
    rw [rdL_nat, List.getD_eq_getElem?_getD, List.getElem?_eq_getElem hi] at this
    simp only [Option.getD_some] at this
    omega
  · obtain ⟨hr, hc, rfl⟩ := h
    obtain ⟨K, hk⟩ := hv
    refine (laws_szIntSS.calls K A c x _ v w hr hc (hk K (Nat.le_refl _))).mono ?_
    rintro e w' ⟨rfl, hd⟩
    exact ⟨rfl, hd.below⟩
/-- what Dft2 (Lift2, ..) tells -/
def RetT (r : List (List Int) × Bool) (w : World) (e : Ending) (w' : World) : Prop := ∃ A c, e = .returned (.tuple #[.slice A r.1.length c, .bool r.2]) ∧ OwnS w' w.heap.size w.heap.size w'.heap.size (.slice A r.1.length c) r.1 ∧ Below w.heap.size w w'
theorem OwnS.at_ {w : World} {b lo hi : Nat} {v : Value} {x : List (List Int)} (h : OwnS w b lo hi v x) (i : Nat) (hi' : i < x.length) :
    ∃ g c u oki, v = .slice (some ⟨g, 0, none⟩) x.length c ∧ w.cell? ⟨g, i, none⟩ = some u ∧ w.frozen? ⟨g, i, none⟩ = false ∧ lo ≤ g ∧ g < hi ∧ (∀ k, oki k → (lo ≤ k ∧ k < hi) ∧ k ≠ g) ∧ Kd.R (Kd.int .i64) 3 w b oki u (rd_L1 x (i : Int)) ∧
      Kd.H (Kd.slice 3 (Kd.int .i64)) 29 w b (fun k => lo ≤ k ∧ k < hi) v x (i : Int) oki [u] := by
  obtain ⟨g, c, rfl, hg, hl, cells, hc⟩ := Kd.S_form h.out (by omega)
  obtain ⟨oki, cs, hcl, hM, hcc, hfr, hok, hH⟩ := Kd.S_elem h.out [] (i : Int) (by omega) (by omega)
  obtain ⟨u, rfl, hR⟩ := hM
  have hcell := hcc 0 u rfl
  have hf := hfr 0
  simp only [show (Kd.slice 3 (Kd.int .i64)).sz = 1 from rfl, Nat.mul_one, Nat.add_zero, Int.toNat_natCast] at hcell hf
  have hgo := (Kd.S_R h.out).1 g (by simp [Value.ownBlock])
  exact ⟨g, c, u, oki, rfl, hcell, hf, hgo.1, hgo.2, hok, hR, hH⟩
/-- a row filled from m on -/
def stM (x : List (List Int)) (m : Int) (i : Nat) : List (List Int) := tabL x.length fun j => if j < i then tab (rd_L1 x (j : Int)).length (fun q => m + (off x j : Int) + (q : Int)) else rd_L1 x (j : Int)
set_option maxHeartbeats 2000000 in
theorem markSS_calls {v : Value} {x : List (List Int)} {m : Int} {lo hi : Nat} (w0 w : World) (hb : Below w0.heap.size w0 w) (h : OwnS w w0.heap.size lo hi v x) (hs : Small x) (h0 : 0 ≤ m) (h1 : m ≤ 1000000) :
    Calls Try.prog 20 #[v, .int .i64 m] w fun e w' => e = .returned (.int .i64 (m + (off x x.length : Int))) ∧ OwnS w' w0.heap.size lo hi v (markT x m) ∧ Below w0.heap.size w0 w' ∧ Span w w' lo hi := by
  obtain ⟨A, c, rfl⟩ := h.form
  have hsn := hs.n
  go_enter Try.func20, Try.ntmps20
  go_wp2_with fail
  go_loopw [1, 5] (fun k i wr => ∃ j : Nat, j ≤ x.length ∧ k = .int .i64 (m + (off x j : Int)) ∧ i = .int .i64 j ∧ OwnS wr w0.heap.size lo hi (.slice A x.length c) (stM x m j) ∧ Below w0.heap.size w0 wr ∧ Span w wr lo hi) (fun _ i _ => x.length - (intOf i).toNat)
  case atStart =>
    refine ⟨0, Nat.zero_le _, by simp [off], rfl, ?_, hb, ⟨Kept.refl _ _⟩⟩
    have : stM x m 0 = x := by
      unfold stM
      conv => rhs; rw [← tabL_rd x]
      exact tabL_congr fun j _ => by rw [if_neg (by omega)]
    rw [this]
    exact h
  case round =>
    obtain ⟨j, hj, rfl, rfl, ho, hbr, hsp⟩ := hrel
    by_cases hlt : j < x.length
    · have hlt2 : decide ((j : Int) < (x.length : Int)) = true := decide_eq_true (by omega)
      have hlt3 : decide (j < x.length) = true := decide_eq_true hlt
      have slen : (stM x m j).length = x.length := by simp [stM]
      obtain ⟨g, c', u, oki, he, hcell, hfr, hg0, hg1, hok, hR, hH⟩ := ho.at_ j (by omega)
      injection he with e1 e2 e3
      subst e1
      subst e3
      have e4 : rd_L1 (stM x m j) (j : Int) = rd_L1 x (j : Int) := by unfold stM; rw [rdL_tab hlt, if_neg (by omega)]
      rw [e4] at hR
      clear e2 slen
      have a1 := len_le_off x hlt
      have a2 := off_le x (Nat.le_of_lt hlt)
      have a3 := hs.o
      obtain ⟨K, hk⟩ := markIntS_ev (rd_L1 x (j : Int)) (m + (off x j : Int)) (by omega) (by omega) (by omega)
      go_wp2_with fail
      refine (laws_markIntS.calls K oki u (rd_L1 x (j : Int)) (m + (off x j : Int)) _ _ w0 wr hbr hR (hk K (Nat.le_refl _))).mono ?_
      clear a1 a2 a3
      rintro e w' ⟨rfl, ho', hb', hkp⟩
      have hR' : Kd.R (Kd.int .i64) 3 w' w0.heap.size oki u (tab (rd_L1 x (j : Int)).length fun q => m + (off x j : Int) + (q : Int)) := Kd.R_mono (Kd.R_tight rfl ho') (fun k hk => hR.1 k hk.symm)
      have hS := Kd.H_back (Kd.H_kept hH hkp (fun k _ h2 => h2)) (Kd.M_row hR') (fun _ h => h)
      have e5 : (stM x m j).set (j : Int).toNat (tab (rd_L1 x (j : Int)).length fun q => m + (off x j : Int) + (q : Int)) = stM x m (j + 1) := by
        rw [Int.toNat_natCast]
        unfold stM
        have := tabL_set (n := x.length) (i := j) (g := fun i => if i < j then tab (rd_L1 x (i : Int)).length (fun q => m + (off x i : Int) + (q : Int)) else rd_L1 x (i : Int)) (h := fun i => if i < j + 1 then tab (rd_L1 x (i : Int)).length (fun q => m + (off x i : Int) + (q : Int)) else rd_L1 x (i : Int)) hlt (fun i _ hne => by
          by_cases q : i < j
          · simp only [if_pos q, if_pos (show i < j + 1 by omega)]
          · simp only [if_neg q, if_neg (show ¬ i < j + 1 by omega)])
        simp only [if_pos (Nat.lt_succ_self j)] at this
        exact this
      rw [e5] at hS
      have hsp' : Span w w' lo hi := ⟨hsp.out.then_ hkp (fun k hk => .inl (hok k hk).1)⟩
      clear hR hH ho hkp ho' hcell hfr e5 hk hR'
      go_wp2_with fail
      go_roundw
      case rel => exact ⟨j + 1, by omega, by rw [off]; go_num; (try omega), by go_num, ⟨hS⟩, hb', hsp'⟩
      case measure => (simp [intOf]; try omega)
    · have e : j = x.length := by omega
      subst e
      have hlt2 : decide ((x.length : Int) < (x.length : Int)) = false := decide_eq_false (by omega)
      have hlt3 : decide (x.length < x.length) = false := decide_eq_false hlt
      go_wp2_with fail
      go_ret
      refine ⟨rfl, ?_, hbr, hsp⟩
      have : stM x m x.length = markT x m := tabL_congr fun j hj => by rw [if_pos hj]
      rw [this] at ho
      exact ho
end Go.Proofs.Ytofegdgcafameaa.RowWU
