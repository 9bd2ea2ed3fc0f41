/- Rows of rows: contracts of the exact laws' helpers, told of lists alone. -/
import Derived.Test.YtofegdgcafameaaTwP
namespace Go.Proofs.Ytofegdgcafameaa.TwW
open Go.RowKit Go.Proofs.Ytofegdgcafameaa.QFnDftTwice Go.Proofs.YtofegdgcafameaaW.PrintWords Go.Proofs.YtofegdgcafameaaW.PrintLast Go.Proofs.YtofegdgcafameaaW.PrintMore Go.Proofs.Ytofegdgcafameaa.Base Go.Proofs.Ytofegdgcafameaa.TwP
set_option linter.unusedVariables false
set_option linter.unusedSimpArgs false

/-- rows of rows of the call's own: base b, in the blocks lo .. hi -/
structure OwnS (w : World) (b lo hi : Nat) (v : Value) (x : List (List Int)) : Prop where mk :: (out : Kd.S (Kd.slice 3 (Kd.int .i64)) 29 w b (fun k => lo ≤ k ∧ k < hi) v x)
/-- rows of rows that are read -/
structure RedS (w : World) (A : Option Addr) (n c : Nat) (x : List (List Int)) : Prop where
  row : Kd.C (Kd.slice 3 (Kd.int .i64)) w A n x
  cap : n ≤ c
  len : n = x.length
/-- only the blocks lo .. hi have been written -/
structure Span (w w' : World) (lo hi : Nat) : Prop where mk :: (out : Kept w w' (fun k => lo ≤ k ∧ k < hi))
theorem of_S {w : World} {b : Nat} {v : Value} {x : List (List Int)} (h : Kd.S (Kd.slice 3 (Kd.int .i64)) 29 w b (fun _ => True) v x) : OwnS w b b w.heap.size v x := ⟨Kd.S_mono (Kd.S_bound h) (fun k hk => ⟨hk.2.1, hk.2.2.1⟩)⟩
theorem OwnS.below {w w1 : World} {b lo hi : Nat} {v : Value} {x : List (List Int)} (h : OwnS w b lo hi v x) (hb : Below w.heap.size w w1) : OwnS w1 b lo hi v x := ⟨Kd.S_below h.out hb⟩
theorem OwnS.lower {w : World} {b b' lo hi : Nat} {v : Value} {x : List (List Int)} (h : OwnS w b lo hi v x) (hb : b' ≤ b) : OwnS w b' lo hi v x := ⟨Kd.S_lower h.out hb⟩
theorem OwnS.widen {w : World} {b lo hi lo' hi' : Nat} {v : Value} {x : List (List Int)} (h : OwnS w b lo hi v x) (h1 : lo' ≤ lo) (h2 : hi ≤ hi') : OwnS w b lo' hi' v x := ⟨Kd.S_mono h.out (fun k hk => ⟨by omega, by omega⟩)⟩
theorem OwnS.span {w w1 : World} {b lo hi lo' hi' : Nat} {v : Value} {x : List (List Int)} (h : OwnS w b lo hi v x) (hs : Span w w1 lo' hi') (hd : hi ≤ lo' ∨ hi' ≤ lo) : OwnS w1 b lo hi v x := ⟨Kd.S_kept h.out hs.out (fun k hk hk' => by omega)⟩
theorem OwnS.form {w : World} {b lo hi : Nat} {v : Value} {x : List (List Int)} (h : OwnS w b lo hi v x) : ∃ A c, v = .slice A x.length c := Kd.S_slice h.out
theorem OwnS.red {w : World} {b lo hi n c : Nat} {A : Option Addr} {x : List (List Int)} (h : OwnS w b lo hi (.slice A n c) x) : RedS w A n c x := by
  obtain ⟨h1, h2, h3⟩ := Kd.S_reads' h.out
  subst h1
  exact ⟨h3, h2, rfl⟩
theorem RedS.below {w w1 : World} {n c : Nat} {A : Option Addr} {x : List (List Int)} (h : RedS w A n c x) (hb : Below w.heap.size w w1) : RedS w1 A n c x := ⟨Kd.C_below h.row hb, h.cap, h.len⟩
theorem Span.blk {w w' : World} {lo hi g : Nat} {o : Obj} (h : Span w w' lo hi) (hg : w.heap[g]? = some o) (hne : g < lo ∨ hi ≤ g) : w'.heap[g]? = some o := blk_kept hg h.out (by omega)
/-- the bounds of the rows -/
structure Small (x : List (List Int)) : Prop where
  n : x.length ≤ 2000000
  r : ∀ r ∈ x, r.length ≤ 2000000
/-- what Dft2 (Lift2, ..) tells -/
def RetT (r : List (List Int) × Bool) (w : World) (e : Ending) (w' : World) : Prop := ∃ A c, e = .returned (.tuple #[.slice A r.1.length c, .bool r.2]) ∧ OwnS w' w.heap.size w.heap.size w'.heap.size (.slice A r.1.length c) r.1 ∧ Below w.heap.size w w'
theorem dft2_calls {A : Option Addr} {n c : Nat} {x : List (List Int)} (p : Int) (back : Bool) (w : World) (h : RedS w A n c x) (hs : Small x) : Calls Try.prog 18 #[.slice A n c, .int .i64 p, .bool back] w (RetT (d2R x p back) w) := by
  obtain ⟨hr, hc, rfl⟩ := h
  obtain ⟨K, hk⟩ := implDft2_ev x p back hs.n hs.r
  refine (impl_Dft2.calls K A c x p back _ _ w hr hc (hk K (Nat.le_refl _))).mono ?_
  rintro e w' ⟨v, rfl, ho, hb⟩
  obtain ⟨A', c', rfl⟩ := (of_S ho).form
  exact ⟨A', c', rfl, of_S ho, hb⟩
end Go.Proofs.Ytofegdgcafameaa.TwW
