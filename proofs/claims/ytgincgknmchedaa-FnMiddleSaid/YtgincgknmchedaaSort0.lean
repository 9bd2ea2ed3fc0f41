/- slices.Sort of the library at this program: the shelf's contract, laid, and told in the words of the printed texts. No conditions. -/
import Derived.Shelf.Lay
import Derived.Shelf.Sort.Plain
import Derived.Shelf.Slices.In.SortNone
import Derived.Sort.OwnSortedInts
import Derived.Ground.Names2Prog
import Derived.Test.YtgincgknmchedaaProg
import Derived.Test.YtgincgknmchedaaWKept
namespace Go.Proofs
open Go.Shelf
shelf_lay Lays.n189 Nm 189 at Try as Try.lays189
end Go.Proofs
namespace Go.Proofs.Ytgincgknmchedaa.Sort0
open Go Go.RowKit Go.Sort Go.Proofs Go.Proofs.YtgincgknmchedaaW.PrintWords
theorem nums_of {w : World} {base : Nat} {ok : Nat → Prop} {xs : List Int} {inner : List Value} (h : Reps ((Kd.int .i64).M w base ok) 1 xs inner) : inner = xs.map (Value.int .i64) := by
  obtain ⟨h1, h2⟩ := h
  rw [Nat.mul_one] at h1
  refine List.ext_getElem (by simpa using h1) fun j hj hj' => ?_
  have hx : j < xs.length := by simpa using hj'
  have q : (inner.drop (j * 1)).take 1 = [.int .i64 xs[j]] := h2 j xs[j] (List.getElem?_eq_getElem hx)
  rw [Nat.mul_one, List.drop_eq_getElem_cons hj] at q
  rw [List.getElem_map]
  exact (List.cons.inj (show [inner[j]] = [.int .i64 xs[j]] from q)).1
theorem nums_to (w : World) (base : Nat) (ok : Nat → Prop) (xs : List Int) : Reps ((Kd.int .i64).M w base ok) 1 xs (xs.map (Value.int .i64)) := by
  refine ⟨by simp, fun j p hp => ?_⟩
  obtain ⟨hj, e⟩ := List.getElem?_eq_some_iff.1 hp
  have hj' : j < (xs.map (Value.int .i64)).length := by simpa using hj
  show ((xs.map (Value.int .i64)).drop (j * 1)).take 1 = [.int .i64 p]
  rw [Nat.mul_one, List.drop_eq_getElem_cons hj', List.getElem_map, e]
  rfl
theorem sort_calls (P0_ : Nat → Prop) (u : Value) (l0 : List Int) (w0 w : World) (hB : Below w0.heap.size w0 w) (ho0 : Kd.R (Kd.int .i64) 3 w w0.heap.size P0_ u l0) (hs : l0.length < 4611686018427387904) :
    Calls Try.prog 35 #[u] w fun e w' => e = .returned (.tuple #[]) ∧ Kd.R (Kd.int .i64) 3 w' w0.heap.size (fun k_ => (P0_ k_ ∨ w.heap.size ≤ k_)) u (l0.mergeSort fun x y => decide (x ≤ y)) ∧ Below w0.heap.size w0 w' ∧ Kept w w' (fun k_ => P0_ k_) := by
  have hl : (l0.mergeSort fun x y => decide (x ≤ y)).length = l0.length := List.length_mergeSort _
  obtain ⟨h0, inner, ho, hr⟩ := ho0
  have hi := nums_of hr
  subst hi
  obtain ⟨_, ⟨rfl, hn⟩ | ⟨g, cap, cur, rfl, hg, hb, h1, h2, h3, h4⟩⟩ := ho
  · have hz : l0 = [] := List.length_eq_zero_iff.1 hn
    subst hz
    refine (Any.slices_Sort_int_none Try.lays189 none 0 w).mono ?_
    rintro e w' ⟨rfl, rfl⟩
    exact ⟨rfl, by rw [List.mergeSort_nil]; exact Kd.R_nil _ _ _ _ _, hB, Kept.refl _ _⟩
  · have hlt : g < w.heap.size := (Array.getElem?_eq_some_iff.1 hb).1
    have h5 : cur.toList.take l0.length = l0.map (Value.int .i64) := by
      have q : cur.toList.take (l0.length * 1) = l0.map (Value.int .i64) := h4
      rwa [Nat.mul_one] at q
    refine (Any.slices_Sort_int Try.lays189 g 0 cap l0 w (holds_of_blockI hb h5) hlt hs).mono ?_
    rintro e w' ⟨rfl, n, os, rfl⟩
    have hgr : w.grownBy (grow (putRow (Value.int .i64) (Sort.ahead w n) g 0 (l0.mergeSort fun x y => decide (x ≤ y)).toArray) os) (some g) := grownBy_sortedI _
    have hown := ownsRow_sortedI (n := n) (os := os) hl hg hb h1 h2 h3
    refine ⟨rfl, ⟨fun k hk => .inl (h0 k hk), _, ?_, nums_to _ _ _ _⟩, ?_, ?_⟩
    · rw [hl]
      exact hown
    · refine ⟨hgr.os.trans hB.os, hgr.tape.trans hB.tape, hgr.output.trans hB.output, Nat.le_trans hB.size hgr.size, fun k hk => ?_⟩
      rw [hgr.block k (Nat.lt_of_lt_of_le hk hB.size) (fun h => by injection h; omega)]
      exact hB.block k hk
    · exact Kept.of_grown hgr (Kept.refl w _) fun k hk => .inl (h0 k hk)
end Go.Proofs.Ytgincgknmchedaa.Sort0
