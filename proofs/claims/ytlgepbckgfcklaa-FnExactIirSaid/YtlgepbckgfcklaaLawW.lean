/- Contracts of the exact laws' small helpers, told of lists alone. -/
import Derived.Test.YtlgepbckgfcklaaPushP
import Derived.Lib.Hide
namespace Go.Proofs.Ytlgepbckgfcklaa.LawW
open Go.RowKit Go.Proofs.Ytlgepbckgfcklaa.QFnExactPush Go.Proofs.YtlgepbckgfcklaaW.PrintWords Go.Proofs.YtlgepbckgfcklaaW.PrintLast Go.Proofs.YtlgepbckgfcklaaW.PrintMore Go.Proofs.Ytlgepbckgfcklaa.Base Go.Proofs.Ytlgepbckgfcklaa.PushP
set_option linter.unusedVariables false
set_option linter.unusedSimpArgs false

/-- a row of numbers of the call's own -/
structure Own (w : World) (base : Nat) (v : Value) (xs : List Int) : Prop where mk :: (out : Kd.R (Kd.int .i64) 3 w base (fun _ => True) v xs)
/-- a row of numbers that is read -/
structure Red (w : World) (A : Option Addr) (n c : Nat) (xs : List Int) : Prop where
  row : Kd.C (Kd.int .i64) w A n xs
  cap : n ≤ c
  len : n = xs.length
/-- only v's block has been written -/
structure Only (w w' : World) (v : Value) : Prop where mk :: (out : w.heap.size ≤ w'.heap.size ∧ ∀ i, i < w.heap.size → some i ≠ v.ownBlock → w'.heap[i]? = w.heap[i]?)

theorem of_R {w : World} {base : Nat} {ok : Nat → Prop} {v : Value} {xs : List Int} (h : Kd.R (Kd.int .i64) 3 w base ok v xs) : Own w base v xs := ⟨Kd.R_mono h (fun _ _ => trivial)⟩
theorem Own.below {w w1 : World} {base : Nat} {v : Value} {xs : List Int} (h : Own w base v xs) (hb : Below w.heap.size w w1) : Own w1 base v xs := ⟨Kd.R_below h.out hb⟩
theorem Own.lower {w : World} {base base' : Nat} {v : Value} {xs : List Int} (h : Own w base v xs) (hb : base' ≤ base) : Own w base' v xs := ⟨Kd.R_lower h.out hb⟩
theorem Own.block {w : World} {base : Nat} {v : Value} {xs : List Int} (h : Own w base v xs) : ∀ i, v.ownBlock = some i → base ≤ i ∧ i < w.heap.size := by
  obtain ⟨_, inner, ho, _⟩ := h.out
  exact fun i hi => ⟨own_base ho i hi, own_lt ho i hi⟩
theorem Own.only {w w1 : World} {base : Nat} {v u : Value} {xs : List Int} (h : Own w base v xs) (ho : Only w w1 u) (hne : ∀ i, v.ownBlock = some i → some i ≠ u.ownBlock) : Own w1 base v xs := by
  refine ⟨?_⟩
  have h1 : Kd.R (Kd.int .i64) 3 w base (fun k => v.ownBlock = some k) v xs := ⟨fun k hk => hk, h.out.2⟩
  exact Kd.R_mono (Kd.R_step h1 (fun k hk hlt => ho.out.2 k hlt (hne k hk))) (fun _ _ => trivial)
theorem Own.form {w : World} {base : Nat} {v : Value} {xs : List Int} (h : Own w base v xs) : ∃ A c, v = .slice A xs.length c := by
  obtain ⟨A, c, he, _⟩ := Kd.R_reads h.out
  exact ⟨A, c, he⟩
theorem Own.red {w : World} {base n c : Nat} {A : Option Addr} {xs : List Int} (h : Own w base (.slice A n c) xs) : Red w A n c xs := by
  obtain ⟨A', c', he, hc, hr⟩ := Kd.R_reads h.out
  injection he with e1 e2 e3
  subst e1; subst e2; subst e3
  exact ⟨hr, hc, rfl⟩
theorem Red.below {w w1 : World} {n c : Nat} {A : Option Addr} {xs : List Int} (h : Red w A n c xs) (hb : Below w.heap.size w w1) : Red w1 A n c xs := ⟨Kd.C_below h.row hb, h.cap, h.len⟩
/-- a box of a struct lies where it lay -/
theorem box_only {w w1 : World} {g t base : Nat} {cells : Array Value} {v : Value} {xs : List Int} (h : w.heap[g]? = some (.cells cells t (0, 0))) (ht : 3 ≠ t) (ho : Own w base v xs) (hon : Only w w1 v) : w1.heap[g]? = some (.cells cells t (0, 0)) :=
  (hon.out.2 g (blk_lt h) (Kd.R_ne ho.out h ht)).trans h
theorem box_cells {w : World} {g t : Nat} {a b : Value} (h : w.heap[g]? = some (.cells #[a, b] t (0, 0))) : w.cell? ⟨g, 0, none⟩ = some a ∧ w.cell? ⟨g, 1, none⟩ = some b := ⟨blk_cell h 0, blk_cell h 1⟩

/-- a row of its own comes back -/
def RetR (xs : List Int) (w : World) (e : Ending) (w' : World) : Prop := ∃ A c, e = .returned (.slice A xs.length c) ∧ Own w' w.heap.size (.slice A xs.length c) xs ∧ Below w.heap.size w w'
theorem toInts_calls {A : Option Addr} {n c : Nat} {l : List Int} (w : World) (h : Red w A n c l) (hl : l.length ≤ 2000000) : Calls Try.prog 9 #[.slice A n c] w (RetR l w) := by
  obtain ⟨hr, hc, rfl⟩ := h
  obtain ⟨K, hk⟩ := toIntS_ev l hl
  refine (laws_toIntS.calls K A c l l w hr hc (hk K (Nat.le_refl _))).mono ?_
  rintro e w' ⟨v, rfl, ho, hb⟩
  obtain ⟨A', c', rfl⟩ := (of_R ho).form
  exact ⟨A', c', rfl, of_R ho, hb⟩
theorem eqInts_calls {A B : Option Addr} {n m c d : Nat} {l : List Int} (w : World) (h : Red w A n c l) (h' : Red w B m d l) (hl : l.length ≤ 2000000) :
    Calls Try.prog 12 #[.slice A n c, .slice B m d] w fun e w' => e = .returned (.bool true) ∧ Below w.heap.size w w' := by
  obtain ⟨hr, hc, rfl⟩ := h
  obtain ⟨hr', hc', rfl⟩ := h'
  obtain ⟨K, hk⟩ := eqIntS_ev l l hl
  refine (laws_eqIntS.calls K A c l B d l true w hr hc hr' hc' ((hk K (Nat.le_refl _)).trans (by rw [decide_eq_true rfl]))).mono ?_
  rintro e w' ⟨rfl, hd⟩
  exact ⟨rfl, hd.below⟩
theorem only_of_kept {w w' : World} {v : Value} (h : Kept w w' (fun k => v.ownBlock = some k)) : Only w w' v := ⟨h.1, fun i hi hn => h.2 i hi (fun hk => hn hk.symm)⟩
theorem own_named {w : World} {base : Nat} {v : Value} {xs : List Int} (h : Own w base v xs) : Kd.R (Kd.int .i64) 3 w base (fun k => v.ownBlock = some k) v xs := ⟨fun k hk => hk, h.out.2⟩
/-- a row is filled with the numbers m, m + 1 .. -/
def RetM (w0 : World) (v : Value) (m : Int) (n : Nat) (w : World) (e : Ending) (w' : World) : Prop := e = .returned (.int .i64 (m + (n : Int))) ∧ Own w' w0.heap.size v (tab n fun i => m + (i : Int)) ∧ Below w0.heap.size w0 w' ∧ Only w w' v
theorem markInts_calls {v : Value} {l : List Int} {m : Int} (w0 w : World) (hb : Below w0.heap.size w0 w) (h : Own w w0.heap.size v l) (hl : l.length ≤ 2000000) (h0 : 0 ≤ m) (h1 : m ≤ 1000000000) :
    Calls Try.prog 14 #[v, .int .i64 m] w (RetM w0 v m l.length w) := by
  obtain ⟨K, hk⟩ := markIntS_ev l m hl h0 h1
  refine (laws_markIntS.calls K _ v l m _ _ w0 w hb (own_named h) (hk K (Nat.le_refl _))).mono ?_
  rintro e w' ⟨rfl, ho, hb', hkp⟩
  exact ⟨rfl, of_R ho, hb', only_of_kept hkp⟩
theorem heldInts_calls {A : Option Addr} {n c : Nat} {N : Nat} {m : Int} (w : World) (h : Red w A n c (tab N fun i => m + (i : Int))) (hl : N ≤ 2000000) (h0 : 0 ≤ m) (h1 : m ≤ 1000000000) :
    Calls Try.prog 16 #[.slice A n c, .int .i64 m] w fun e w' => e = .returned (.int .i64 (m + (N : Int))) ∧ Below w.heap.size w w' := by
  obtain ⟨hr, hc, rfl⟩ := h
  obtain ⟨K, hk⟩ := heldIntS_ev N m hl h0 h1
  refine (laws_heldIntS.calls K A c _ m _ w hr hc (hk K (Nat.le_refl _))).mono ?_
  rintro e w' ⟨rfl, hd⟩
  exact ⟨rfl, hd.below⟩

/-! rings -/
def RetG (xs : List Int) (p : Int) (w : World) (e : Ending) (w' : World) : Prop := ∃ A c, e = .returned (.agg #[.slice A xs.length c, .int .i64 p]) ∧ Own w' w.heap.size (.slice A xs.length c) xs ∧ Below w.heap.size w w'
theorem toRing_calls {A : Option Addr} {n c : Nat} {l : List Int} {p : Int} (w : World) (h : Red w A n c l) (hl : l.length ≤ 2000000) : Calls Try.prog 8 #[.agg #[.slice A n c, .int .i64 p]] w (RetG l p w) := by
  obtain ⟨hr, hc, rfl⟩ := h
  obtain ⟨K, hk⟩ := toRing_ev l p hl
  refine (laws_toRing.calls K A c l p _ _ w hr hc (hk K (Nat.le_refl _))).mono ?_
  rintro e w' ⟨v, rfl, ho, hb⟩
  obtain ⟨A', c', rfl⟩ := (of_R ho).form
  exact ⟨A', c', rfl, of_R ho, hb⟩
theorem eqRing_calls {A B : Option Addr} {n m c d : Nat} {l : List Int} {p : Int} (w : World) (h : Red w A n c l) (h' : Red w B m d l) (hl : l.length ≤ 2000000) :
    Calls Try.prog 11 #[.agg #[.slice A n c, .int .i64 p], .agg #[.slice B m d, .int .i64 p]] w fun e w' => e = .returned (.bool true) ∧ Below w.heap.size w w' := by
  obtain ⟨hr, hc, rfl⟩ := h
  obtain ⟨hr', hc', rfl⟩ := h'
  obtain ⟨K, hk⟩ := eqRing_ev l p hl
  exact laws_eqRing.calls K A c l p B d l p true w hr hc hr' hc' (hk K (Nat.le_refl _))
theorem markRing_calls {v : Value} {l : List Int} {p m : Int} (w0 w : World) (hb : Below w0.heap.size w0 w) (h : Own w w0.heap.size v l) (hl : l.length ≤ 2000000) (h0 : 0 ≤ m) (h1 : m ≤ 1000000000) :
    Calls Try.prog 13 #[.agg #[v, .int .i64 p], .int .i64 m] w (RetM w0 v m l.length w) := by
  obtain ⟨K, hk⟩ := markRing_ev l p m hl h0 h1
  refine (laws_markRing.calls K _ v l p m _ _ w0 w hb (own_named h) (hk K (Nat.le_refl _))).mono ?_
  rintro e w' ⟨rfl, ho, hb', hkp⟩
  exact ⟨rfl, of_R ho, hb', only_of_kept hkp⟩
theorem heldRing_calls {A : Option Addr} {n c : Nat} {N : Nat} {p m : Int} (w : World) (h : Red w A n c (tab N fun i => m + (i : Int))) (hl : N ≤ 2000000) (h0 : 0 ≤ m) (h1 : m ≤ 1000000000) :
    Calls Try.prog 15 #[.agg #[.slice A n c, .int .i64 p], .int .i64 m] w fun e w' => e = .returned (.int .i64 (m + (N : Int))) ∧ Below w.heap.size w w' := by
  obtain ⟨hr, hc, rfl⟩ := h
  obtain ⟨K, hk⟩ := heldRing_ev N p m hl h0 h1
  exact laws_heldRing.calls K A c _ p m _ w hr hc (hk K (Nat.le_refl _))
theorem szRing_calls {A : Option Addr} {n c : Nat} {l : List Int} {p : Int} (w : World) (h : Red w A n c l) (hm : l.length ≤ maxLen) :
    ∃ v : Int, (0 ≤ v → l.length ≤ 1048576) ∧ ∀ w, Red w A n c l → Calls Try.prog 6 #[.agg #[.slice A n c, .int .i64 p], .int .i64 1048576] w fun e w' => e = .returned (.int .i64 v) ∧ Below w.heap.size w w' := by
  obtain ⟨v, hv, h0⟩ := szRing_eq l p hm
  refine ⟨v, h0, fun w h => ?_⟩
  obtain ⟨hr, hc, rfl⟩ := h
  exact laws_szRing.calls A c l p _ v w hr hc hv

/-- what Push tells: the ring's cells and the list, each memory of its own -/
def RetP (r1 : List Int) (r2 : Int) (r3 : List Int) (r4 : Bool) (w : World) (e : Ending) (w' : World) : Prop :=
  ∃ A c B d, e = .returned (.tuple #[.agg #[.slice A r1.length c, .int .i64 r2], .slice B r3.length d, .bool r4]) ∧ Own w' w.heap.size (.slice A r1.length c) r1 ∧ Own w' w.heap.size (.slice B r3.length d) r3 ∧ Below w.heap.size w w' ∧ ∀ i, (Value.slice A r1.length c).ownBlock = some i → some i ≠ (Value.slice B r3.length d).ownBlock
theorem push_calls {A B : Option Addr} {n m c d : Nat} {l l1 : List Int} {p : Int} (w : World) (h : Red w A n c l) (h' : Red w B m d l1) (hl : l.length ≤ 2000000) (hl1 : l1.length ≤ 2000000) :
    Calls Try.prog 10 #[.agg #[.slice A n c, .int .i64 p], .slice B m d] w (RetP (pushR l p l1).1 (pushR l p l1).2.1 (pushR l p l1).2.2.1 (pushR l p l1).2.2.2 w) := by
  obtain ⟨hr, hc, rfl⟩ := h
  obtain ⟨hr', hc', rfl⟩ := h'
  obtain ⟨K, hk⟩ := implPush_ev l p l1 hl hl1
  refine (impl_Push.calls K A c l p B d l1 (pushR l p l1).1 (pushR l p l1).2.1 (pushR l p l1).2.2.1 (pushR l p l1).2.2.2 w hr hc hr' hc' (hk K (Nat.le_refl _))).mono ?_
  rintro e w' ⟨v, u, rfl, ho, hu, hb⟩
  have hn := ho.1
  obtain ⟨A', c', rfl⟩ := (of_R ho).form
  obtain ⟨B', d', rfl⟩ := (of_R hu).form
  exact ⟨A', c', B', d', rfl, of_R ho, of_R hu, hb, hn⟩
theorem spush_calls {A B : Option Addr} {n m c d : Nat} {l l1 : List Int} {p : Int} (w : World) (h : Red w A n c l) (h' : Red w B m d l1) (hl : l.length ≤ 2000000) (hl1 : l1.length ≤ 2000000) :
    Calls Try.prog 7 #[.agg #[.slice A n c, .int .i64 p], .slice B m d] w (RetP (pushR l p l1).1 (pushR l p l1).2.1 (pushR l p l1).2.2.1 (pushR l p l1).2.2.2 w) := by
  obtain ⟨hr, hc, rfl⟩ := h
  obtain ⟨hr', hc', rfl⟩ := h'
  obtain ⟨K, hk⟩ := specPush_ev l p l1 hl hl1
  refine (spec_Push.calls K A c l p B d l1 (pushR l p l1).1 (pushR l p l1).2.1 (pushR l p l1).2.2.1 (pushR l p l1).2.2.2 w hr hc hr' hc' (hk K (Nat.le_refl _))).mono ?_
  rintro e w' ⟨v, u, rfl, ho, hu, hb⟩
  have hn := ho.1
  obtain ⟨A', c', rfl⟩ := (of_R ho).form
  obtain ⟨B', d', rfl⟩ := (of_R hu).form
  exact ⟨A', c', B', d', rfl, of_R ho, of_R hu, hb, hn⟩
end Go.Proofs.Ytlgepbckgfcklaa.LawW
