/- Plain lemmas on rounds (Ev), for-loops (iter), tabulated lists (tab) and wrapped numbers; no program in sight. -/
import Derived.Test.YtofegdgcafameaaWWords
import Derived.Test.YtofegdgcafameaaWSized
namespace Go.Proofs.Ytofegdgcafameaa.Base
open Go.RowKit Go.Proofs.YtofegdgcafameaaW.PrintWords
set_option linter.unusedVariables false
set_option linter.unusedSimpArgs false

/-! rounds -/
theorem ev_bind {α β : Type} {g : Nat → Option α} {f : Nat → α → Option β} {a : α} {r : β} (h : Ev g a) :
    Ev (fun n => (g n).bind (f n)) r ↔ Ev (fun n => f n a) r := by
  constructor
  · rintro ⟨K, k⟩
    obtain ⟨K', h⟩ := h
    refine ⟨max K K', fun n hn => ?_⟩
    have h1 := h n (by omega)
    have h2 := k n (by omega)
    simpa only [h1, Option.bind_some] using h2
  · exact fun k => Ev.bind h k

theorem ev_step {α : Type} {g f : Nat → Option α} {r : α} (h : ∀ k, g (k + 1) = f k) : Ev g r ↔ Ev f r := by
  constructor
  · rintro ⟨K, k⟩
    refine ⟨K, fun n hn => ?_⟩
    rw [← h]
    exact k (n + 1) (by omega)
  · exact Ev.step h

theorem ev_shift {α : Type} {g : Nat → Option α} {r : α} : Ev g r ↔ Ev (fun k => g (k + 1)) r := ev_step fun _ => rfl

theorem ev_congr {α : Type} {g f : Nat → Option α} {r : α} (h : ∀ k, g k = f k) : Ev g r ↔ Ev f r := by
  have : g = f := funext h
  rw [this]

theorem ev_pos {α : Type} {c : Prop} [Decidable c] {a b : Nat → Option α} {r : α} (h : c) : Ev (fun k => if c then a k else b k) r ↔ Ev a r := by simp only [if_pos h]
theorem ev_neg {α : Type} {c : Prop} [Decidable c] {a b : Nat → Option α} {r : α} (h : ¬ c) : Ev (fun k => if c then a k else b k) r ↔ Ev b r := by simp only [if_neg h]
theorem ev_sbind {α β : Type} {a : α} {f : Nat → α → Option β} {r : β} : Ev (fun k => (some a).bind (f k)) r ↔ Ev (fun k => f k a) r := Iff.rfl
theorem ev_some {α : Type} {a r : α} (h : a = r) : Ev (fun _ => some a) r := h ▸ Ev.now _
theorem ev_some_iff {α : Type} {a r : α} : Ev (fun _ => some a) r ↔ a = r := by
  constructor
  · rintro ⟨K, h⟩
    exact Option.some.inj (h K (Nat.le_refl _))
  · exact ev_some
theorem ev_const {α : Type} {a : Option α} {r : α} (h : a = some r) : Ev (fun _ => a) r := by rw [h]; exact Ev.now _
theorem ev_uniq {α : Type} {g : Nat → Option α} {a b : α} (h : Ev g a) (k : Ev g b) : a = b := by
  obtain ⟨K, h⟩ := h
  obtain ⟨L, k⟩ := k
  have h1 := h (max K L) (by omega)
  have h2 := k (max K L) (by omega)
  rw [h1] at h2
  exact Option.some.inj h2

/-! for-loops -/
def iter {σ : Type} (f : Nat → σ → σ) : Nat → σ → σ
  | 0, s => s
  | n + 1, s => f n (iter f n s)
theorem iter_zero {σ : Type} (f : Nat → σ → σ) (s : σ) : iter f 0 s = s := rfl
theorem iter_succ {σ : Type} (f : Nat → σ → σ) (n : Nat) (s : σ) : iter f (n + 1) s = f n (iter f n s) := rfl
theorem iter_congr {σ : Type} {f g : Nat → σ → σ} (n : Nat) (s : σ) (h : ∀ i s, i < n → f i s = g i s) : iter f n s = iter g n s := by
  induction n with
  | zero => rfl
  | succ n ih => rw [iter_succ, iter_succ, ih fun i s hi => h i s (by omega), h n _ (by omega)]
theorem iter_inv {σ : Type} {f : Nat → σ → σ} (P : Nat → σ → Prop) (n : Nat) (s : σ) (h0 : P 0 s) (h : ∀ i s, i < n → P i s → P (i + 1) (f i s)) : P n (iter f n s) := by
  induction n with
  | zero => exact h0
  | succ n ih => exact h n _ (by omega) (ih fun i s hi => h i s (by omega))
theorem iter_rel {σ τ : Type} {f : Nat → σ → σ} {g : Nat → τ → τ} (P : Nat → σ → τ → Prop) (n : Nat) (s : σ) (t : τ) (h0 : P 0 s t)
    (h : ∀ i s t, i < n → P i s t → P (i + 1) (f i s) (g i t)) : P n (iter f n s) (iter g n t) := by
  induction n with
  | zero => exact h0
  | succ n ih => exact h n _ _ (by omega) (ih fun i s t hi => h i s t (by omega))

/-- A loop over places pos 0, pos 1, ..: it comes to what it comes to behind its last round. -/
theorem for_pos {σ α : Type} (L : Nat → σ → Int → Option α) (pos : Nat → Int) (f : Nat → σ → σ) (Inv : Nat → σ → Prop) (n : Nat) (r : α)
    (step : ∀ i s, i < n → Inv i s → Inv (i + 1) (f i s) ∧ (Ev (fun k => L k s (pos i)) r ↔ Ev (fun k => L k (f i s) (pos (i + 1))) r))
    (s : σ) (h0 : Inv 0 s) : Inv n (iter f n s) ∧ (Ev (fun k => L k s (pos 0)) r ↔ Ev (fun k => L k (iter f n s) (pos n)) r) := by
  induction n with
  | zero => exact ⟨h0, Iff.rfl⟩
  | succ n ih =>
    obtain ⟨h1, h2⟩ := ih fun i s hi => step i s (by omega)
    obtain ⟨h3, h4⟩ := step n _ (by omega) h1
    exact ⟨h3, h2.trans h4⟩
/-- A loop that goes from 0 to n in steps of one. -/
theorem for_iff {σ α : Type} (L : Nat → σ → Int → Option α) (f : Nat → σ → σ) (Inv : Nat → σ → Prop) (n : Nat) (r : α)
    (step : ∀ i s, i < n → Inv i s → Inv (i + 1) (f i s) ∧ (Ev (fun k => L k s (i : Int)) r ↔ Ev (fun k => L k (f i s) ((i : Int) + 1)) r))
    (s : σ) (h0 : Inv 0 s) : Inv n (iter f n s) ∧ (Ev (fun k => L k s 0) r ↔ Ev (fun k => L k (iter f n s) (n : Int)) r) :=
  for_pos L (fun i => (i : Int)) f Inv n r (fun i s hi hv => ⟨(step i s hi hv).1, (step i s hi hv).2.trans (Iff.of_eq (by congr))⟩) s h0
/-- The same, begun at a. -/
theorem for_at {σ α : Type} (L : Nat → σ → Int → Option α) (f : Nat → σ → σ) (Inv : Nat → σ → Prop) (a : Int) (n : Nat) (r : α)
    (step : ∀ i s, i < n → Inv i s → Inv (i + 1) (f i s) ∧ (Ev (fun k => L k s (a + (i : Int))) r ↔ Ev (fun k => L k (f i s) (a + (i : Int) + 1)) r))
    (s : σ) (h0 : Inv 0 s) : Inv n (iter f n s) ∧ (Ev (fun k => L k s a) r ↔ Ev (fun k => L k (iter f n s) (a + (n : Int))) r) := by
  have h := for_pos L (fun i => a + (i : Int)) f Inv n r (fun i s hi hv => ⟨(step i s hi hv).1, (step i s hi hv).2.trans (Iff.of_eq (by rw [Int.add_assoc]; congr))⟩) s h0
  simpa only [Int.ofNat_zero, Int.add_zero] using h
/-- A loop that asks each number below n, and ends at the first that says no. -/
theorem all_iff {α : Type} (L : Nat → Int → Option α) (p : Nat → Bool) (n : Nat) (r no : α)
    (step : ∀ i, i < n → (Ev (fun k => L k (i : Int)) r ↔ if p i = true then Ev (fun k => L k ((i : Int) + 1)) r else no = r)) :
    Ev (fun k => L k 0) r ↔ if (List.range n).all p = true then Ev (fun k => L k (n : Int)) r else no = r := by
  induction n with
  | zero => simp
  | succ n ih =>
    rw [ih fun i hi => step i (by omega), List.range_succ, List.all_append]
    by_cases h : (List.range n).all p = true
    · rw [h, if_pos rfl, step n (by omega)]
      by_cases q : p n = true
      · simp [q]
      · simp [q]
    · simp [h]

/-! tabulated lists -/
def tab (n : Nat) (g : Nat → Int) : List Int := (List.range n).map g
@[simp] theorem tab_length (n : Nat) (g : Nat → Int) : (tab n g).length = n := by simp [tab]
theorem tab_zero (g : Nat → Int) : tab 0 g = [] := rfl
theorem tab_succ (n : Nat) (g : Nat → Int) : tab (n + 1) g = tab n g ++ [g n] := by simp [tab, List.range_succ]
theorem tab_add (m n : Nat) (g : Nat → Int) : tab (m + n) g = tab m g ++ tab n fun j => g (m + j) := by
  induction n with
  | zero => simp [tab]
  | succ n ih => rw [← Nat.add_assoc, tab_succ, ih, tab_succ, List.append_assoc]
theorem tab_congr {n : Nat} {g h : Nat → Int} (e : ∀ i, i < n → g i = h i) : tab n g = tab n h := by
  unfold tab
  exact List.map_congr_left fun i hi => e i (List.mem_range.1 hi)
theorem rd_tab {n : Nat} {g : Nat → Int} {i : Int} (h0 : 0 ≤ i) (h : i < (n : Int)) : rd (tab n g) i = g i.toNat := by
  unfold rd tab
  rw [List.getD_eq_getElem?_getD, List.getElem?_map, List.getElem?_range (by omega)]
  rfl
theorem rd_tab' {n : Nat} {g : Nat → Int} {i : Nat} (h : i < n) : rd (tab n g) (i : Int) = g i := by rw [rd_tab (by omega) (by omega)]; simp
theorem tab_rd (l : List Int) : tab l.length (fun i => rd l (i : Int)) = l := by
  apply List.ext_getElem
  · simp
  · intro i h1 h2
    simp [tab, rd, h2]
theorem eq_tab {l : List Int} {n : Nat} {g : Nat → Int} (hl : l.length = n) (h : ∀ i, i < n → rd l (i : Int) = g i) : l = tab n g := by
  rw [← tab_rd l, hl]
  exact tab_congr h
theorem list_ext_rd {a b : List Int} (h : a.length = b.length) (e : ∀ i, i < a.length → rd a (i : Int) = rd b (i : Int)) : a = b := by
  rw [← tab_rd a, ← tab_rd b, ← h]
  exact tab_congr e
theorem rd_nat (l : List Int) (i : Nat) : rd l (i : Int) = l.getD i 0 := by simp [rd]
theorem rd_out {l : List Int} {i : Int} (h : (l.length : Int) ≤ i) : rd l i = 0 := by
  unfold rd
  rw [List.getD_eq_getElem?_getD, List.getElem?_eq_none (by omega)]
  rfl
theorem rd_mem {l : List Int} {i : Int} (h0 : 0 ≤ i) (h : i < (l.length : Int)) : rd l i ∈ l := by
  unfold rd
  rw [List.getD_eq_getElem?_getD, List.getElem?_eq_getElem (by omega)]
  exact List.getElem_mem _
theorem mem_rd {l : List Int} {x : Int} (h : x ∈ l) : ∃ i : Nat, i < l.length ∧ rd l (i : Int) = x := by
  obtain ⟨i, hi, e⟩ := List.getElem_of_mem h
  exact ⟨i, hi, by simp [rd, hi, e]⟩
theorem all_rd {l : List Int} (P : Int → Prop) : (∀ x ∈ l, P x) ↔ ∀ i : Nat, i < l.length → P (rd l (i : Int)) := by
  constructor
  · intro h i hi
    exact h _ (rd_mem (by omega) (by omega))
  · intro h x hx
    obtain ⟨i, hi, rfl⟩ := mem_rd hx
    exact h i hi
theorem set_length (l : List Int) (i : Nat) (v : Int) : (l.set i v).length = l.length := by simp
theorem rd_set {l : List Int} {i j : Int} {v : Int} (hj0 : 0 ≤ j) (hj : j < (l.length : Int)) (hi : 0 ≤ i) : rd (l.set j.toNat v) i = if i = j then v else rd l i := by
  unfold rd
  rw [List.getD_eq_getElem?_getD, List.getElem?_set]
  by_cases e : i = j
  · subst e
    rw [if_pos rfl, if_pos (by omega), if_pos rfl]
    rfl
  · rw [if_neg (by omega), if_neg e, List.getD_eq_getElem?_getD]
theorem rd_append_left {a b : List Int} {i : Int} (h0 : 0 ≤ i) (h : i < (a.length : Int)) : rd (a ++ b) i = rd a i := by
  unfold rd
  rw [List.getD_eq_getElem?_getD, List.getD_eq_getElem?_getD, List.getElem?_append_left (by omega)]
theorem rd_append_right {a b : List Int} {i : Int} (h : (a.length : Int) ≤ i) : rd (a ++ b) i = rd b (i - a.length) := by
  unfold rd
  rw [List.getD_eq_getElem?_getD, List.getD_eq_getElem?_getD, List.getElem?_append_right (by omega)]
  congr 2
  omega
theorem rd_replicate (n : Nat) (i : Int) : rd (List.replicate n 0) i = 0 := by
  unfold rd
  rw [List.getD_eq_getElem?_getD, List.getElem?_replicate]
  split <;> rfl
theorem rd_nil (i : Int) : rd [] i = 0 := by simp [rd]
theorem rd_single (x : Int) : rd [x] 0 = x := by simp [rd]
/-- A list that is appended to, round by round. -/
theorem iter_push (n : Nat) (g : Nat → Int) (s : List Int) : iter (fun i s => s ++ [g i]) n s = s ++ tab n g := by
  induction n with
  | zero => simp [iter, tab]
  | succ n ih => rw [iter_succ, ih, tab_succ, List.append_assoc]
/-- A list that is stored into, place by place. -/
theorem iter_store (n m : Nat) (g : Nat → Int) (s : List Int) (hs : s.length = n) (hm : m ≤ n) : iter (fun i s => s.set i (g i)) m s = tab m g ++ s.drop m := by
  induction m with
  | zero => simp [iter, tab]
  | succ m ih =>
    rw [iter_succ, ih (by omega), tab_succ]
    apply List.ext_getElem?
    intro i
    rw [List.getElem?_set]
    by_cases e : m = i
    · subst e
      have h1 : m < (tab m g ++ s.drop m).length := by simp; omega
      rw [if_pos rfl, if_pos h1, List.getElem?_append_left (by simp), List.getElem?_append_right (by simp)]
      simp
    · rw [if_neg e]
      by_cases h : i < m
      · rw [List.getElem?_append_left (by simpa using h), List.getElem?_append_left (by simp; omega), List.getElem?_append_left (by simpa using h)]
      · rw [List.getElem?_append_right (by simp; omega), List.getElem?_append_right (by simp; omega)]
        simp only [tab_length, List.length_append, List.length_cons, List.length_nil, List.getElem?_drop]
        congr 1
        omega
theorem iter_store_all (n : Nat) (g : Nat → Int) (s : List Int) (hs : s.length = n) : iter (fun i s => s.set i (g i)) n s = tab n g := by
  rw [iter_store n n g s hs (Nat.le_refl _), List.drop_of_length_le (by omega), List.append_nil]
theorem range_all {n : Nat} {p : Nat → Bool} : (List.range n).all p = true ↔ ∀ i, i < n → p i = true := by
  rw [List.all_eq_true]
  exact ⟨fun h i hi => h i (List.mem_range.2 hi), fun h i hi => h i (List.mem_range.1 hi)⟩

theorem set_tab {n p : Nat} (g : Nat → Int) (v : Int) (hp : p < n) : (tab n g).set p v = tab n fun m => if m = p then v else g m := by
  refine eq_tab (by simp) fun i hi => ?_
  have h := rd_set (l := tab n g) (i := (i : Int)) (j := (p : Int)) (v := v) (by omega) (by simpa using hp) (by omega)
  rw [Int.toNat_natCast] at h
  rw [h]
  by_cases c : i = p
  · subst c
    rw [if_pos rfl, if_pos rfl]
  · rw [if_neg (by omega), if_neg c, rd_tab' hi]
/-! loops that store into, or append to, one list -/
theorem set_part (l : List Int) (g : Nat → Int) (i : Nat) (hi : i < l.length) (v : Int) : (tab i g ++ l.drop i).set i v = tab i g ++ v :: l.drop (i + 1) := by
  rw [List.set_append_right _ _ (by simp)]
  simp only [tab_length, Nat.sub_self]
  rw [List.drop_eq_getElem_cons hi]
  rfl
theorem map_loop {α : Type} (L : Nat → List Int → Int → Option α) (l : List Int) (g : Nat → Int) (r : α)
    (step : ∀ (i : Nat) (s : List Int), i < l.length → s.length = l.length → rd s (i : Int) = rd l (i : Int) → (Ev (fun k => L k s (i : Int)) r ↔ Ev (fun k => L k (s.set i (g i)) ((i : Int) + 1)) r)) :
    Ev (fun k => L k l 0) r ↔ Ev (fun k => L k (tab l.length g) (l.length : Int)) r := by
  have h := for_iff L (fun i s => s.set i (g i)) (fun i s => s = tab i g ++ l.drop i) l.length r (fun i s hi hs => by
    subst hs
    refine ⟨?_, step i _ hi (by simp; omega) ?_⟩
    · rw [set_part l g i hi, tab_succ, List.append_assoc]
      rfl
    · rw [rd_append_right (by simp)]
      simp [rd]) l (by simp [tab_zero])
  rw [h.2, h.1, List.drop_length, List.append_nil]
theorem push_loop {α : Type} (L : Nat → List Int → Int → Option α) (n : Nat) (g : Nat → Int) (r : α)
    (step : ∀ (i : Nat) (s : List Int), i < n → s.length = i → (Ev (fun k => L k s (i : Int)) r ↔ Ev (fun k => L k (s ++ [g i]) ((i : Int) + 1)) r)) :
    Ev (fun k => L k [] 0) r ↔ Ev (fun k => L k (tab n g) (n : Int)) r := by
  have h := for_iff L (fun i s => s ++ [g i]) (fun i s => s = tab i g) n r (fun i s hi hs => by
    subst hs
    exact ⟨by rw [tab_succ], step i _ hi (by simp)⟩) [] rfl
  rw [h.2, h.1]

/-! sums -/
def psum (l : List Int) : Nat → Int
  | 0 => 0
  | n + 1 => psum l n + rd l (n : Int)
theorem psum_succ (l : List Int) (n : Nat) : psum l (n + 1) = psum l n + rd l (n : Int) := rfl
theorem psum_zero (l : List Int) : psum l 0 = 0 := rfl
def dotS (t a : List Int) : Nat → Int
  | 0 => 0
  | n + 1 => dotS t a n + rd t (n : Int) * rd a (n : Int)

/-! signals -/
def inB (m : Int) (l : List Int) : Bool := l.all fun x => decide (-m ≤ x) && decide (x ≤ m)
theorem inB_iff {m : Int} {l : List Int} : inB m l = true ↔ ∀ x ∈ l, -m ≤ x ∧ x ≤ m := by
  unfold inB
  rw [List.all_eq_true]
  simp
theorem inB_range (m : Int) (l : List Int) : inB m l = (List.range l.length).all fun i => decide (-m ≤ rd l (i : Int)) && decide (rd l (i : Int) ≤ m) := by
  rw [Bool.eq_iff_iff, inB_iff, range_all, all_rd]
  simp
theorem inB_rd {m : Int} {l : List Int} (h : inB m l = true) (hm : 0 ≤ m) (i : Int) : -m ≤ rd l i ∧ rd l i ≤ m := by
  by_cases h0 : i.toNat < l.length
  · have : rd l i = rd l (i.toNat : Int) := by unfold rd; rw [Int.toNat_natCast]
    rw [this]
    exact inB_iff.1 h _ (rd_mem (by omega) (by omega))
  · have : rd l i = 0 := by
      unfold rd
      rw [List.getD_eq_getElem?_getD, List.getElem?_eq_none (by omega)]
      rfl
    omega
def sigB (l : List Int) : Bool := decide (l.length ≤ 512) && inB 1000000000 l
def tapB (l : List Int) : Bool := decide (l.length ≤ 256) && inB 1000000 l
theorem sigB_iff {l : List Int} : sigB l = true ↔ l.length ≤ 512 ∧ inB 1000000000 l = true := by simp [sigB]
theorem tapB_iff {l : List Int} : tapB l = true ↔ l.length ≤ 256 ∧ inB 1000000 l = true := by simp [tapB]

/-! numbers -/
theorem w64 {n : Int} (h0 : -9223372036854775808 ≤ n) (h1 : n ≤ 9223372036854775807) : wrap64 n = n := by
  unfold wrap64
  omega
theorem wf64 {x : Int} (h : (Lit.int .i64 x).wf = true) : -9223372036854775808 ≤ x ∧ x ≤ 9223372036854775807 := by
  have h1 : IntKind.i64.min ≤ x ∧ x ≤ IntKind.i64.max := by simpa [Lit.wf] using h
  have e1 : IntKind.i64.min = -9223372036854775808 := by decide
  have e2 : IntKind.i64.max = 9223372036854775807 := by decide
  omega
theorem wrap_range (n : Int) : -9223372036854775808 ≤ wrap64 n ∧ wrap64 n ≤ 9223372036854775807 := by
  unfold wrap64
  omega

theorem wrap_zero : wrap64 0 = 0 := w64 (by omega) (by omega)
theorem wrap_add_l (a b : Int) : wrap64 (wrap64 a + b) = wrap64 (a + b) := by unfold wrap64; omega
theorem wrap_add_r (a b : Int) : wrap64 (a + wrap64 b) = wrap64 (a + b) := by unfold wrap64; omega
theorem wrap_sub_l (a b : Int) : wrap64 (wrap64 a - b) = wrap64 (a - b) := by unfold wrap64; omega
theorem wrap_sub_r (a b : Int) : wrap64 (a - wrap64 b) = wrap64 (a - b) := by unfold wrap64; omega
theorem band_range (x m : Int) (h0 : 0 ≤ m) (h1 : m < 9223372036854775808) : 0 ≤ Go.bits .and .i64 x m ∧ Go.bits .and .i64 x m ≤ m := by
  have hb : (BitVec.ofInt 64 m).toNat = m.toNat := by
    rw [BitVec.toNat_ofInt]
    have : m % ((2 ^ 64 : Nat) : Int) = m := Int.emod_eq_of_lt h0 (by simp; omega)
    rw [this]
  have h2 : (BitVec.ofInt 64 x &&& BitVec.ofInt 64 m).toNat ≤ m.toNat := by
    rw [BitVec.toNat_and, hb]
    exact Nat.and_le_right
  have e : Go.bits .and .i64 x m = IntKind.wrap .i64 ((BitVec.ofInt 64 x &&& BitVec.ofInt 64 m).toNat : Int) := rfl
  rw [e]
  generalize (BitVec.ofInt 64 x &&& BitVec.ofInt 64 m).toNat = n at *
  have e2 : IntKind.wrap .i64 (n : Int) = (n : Int) := by
    have hs : IntKind.wrap .i64 (n : Int) = (if (true && decide ((n : Int) % (2 ^ 64 : Int) ≥ (2 ^ 63 : Int))) = true then (n : Int) % (2 ^ 64 : Int) - (2 ^ 64 : Int) else (n : Int) % (2 ^ 64 : Int)) := rfl
    rw [hs]
    have h3 : (n : Int) % (2 ^ 64 : Int) = n := Int.emod_eq_of_lt (by omega) (by omega)
    rw [h3, if_neg (by simp; omega)]
  rw [e2]
  omega
theorem band_nat (a b : Nat) (ha : a < 9223372036854775808) (hb : b < 9223372036854775808) : Go.bits .and .i64 (a : Int) (b : Int) = ((a &&& b : Nat) : Int) := by
  have e : Go.bits .and .i64 (a : Int) (b : Int) = IntKind.wrap .i64 ((BitVec.ofInt 64 (a : Int) &&& BitVec.ofInt 64 (b : Int)).toNat : Int) := rfl
  have h1 : (BitVec.ofInt 64 (a : Int)).toNat = a := by rw [BitVec.ofInt_natCast, BitVec.toNat_ofNat, Nat.mod_eq_of_lt (by omega)]
  have h2 : (BitVec.ofInt 64 (b : Int)).toNat = b := by rw [BitVec.ofInt_natCast, BitVec.toNat_ofNat, Nat.mod_eq_of_lt (by omega)]
  rw [e, BitVec.toNat_and, h1, h2]
  have h3 : a &&& b ≤ b := Nat.and_le_right
  generalize a &&& b = n at *
  have hs : IntKind.wrap .i64 (n : Int) = (if (true && decide ((n : Int) % (2 ^ 64 : Int) ≥ (2 ^ 63 : Int))) = true then (n : Int) % (2 ^ 64 : Int) - (2 ^ 64 : Int) else (n : Int) % (2 ^ 64 : Int)) := rfl
  have h4 : (n : Int) % (2 ^ 64 : Int) = n := Int.emod_eq_of_lt (by omega) (by omega)
  rw [hs, h4, if_neg (by simp; omega)]
theorem band_one (n : Nat) (h : n < 9223372036854775808) : Go.bits .and .i64 (n : Int) 1 = ((n % 2 : Nat) : Int) := by
  have := band_nat n 1 h (by omega)
  rw [Nat.and_one_is_mod] at this
  exact this
theorem steps_lt {i m c : Nat} (hc : 0 < c) : i < (m + c - 1) / c ↔ i * c < m := by
  rw [← Nat.succ_le_iff, Nat.le_div_iff_mul_le hc, Nat.succ_mul]
  omega

/-! a loop that takes each c'th element from ph on -/
def thinV (l : List Int) (c ph : Nat) : List Int := tab ((l.length - ph + c - 1) / c) (fun i => rd l ((ph : Int) + (i : Int) * (c : Int)))
theorem thinV_length (l : List Int) (c ph : Nat) (hc : 0 < c) : (thinV l c ph).length ≤ l.length := by
  unfold thinV
  rw [tab_length]
  apply Nat.le_of_not_lt
  intro h
  have := (steps_lt hc).1 h
  have : l.length * 1 ≤ l.length * c := Nat.mul_le_mul_left _ hc
  omega
theorem thin_loop_then {α : Type} (L : Nat → List Int → Int → Option α) (F : Nat → List Int → Option α) (l : List Int) (c ph : Nat) (r : α)
    (hL : ∀ k s i, L (k + 1) s i = if i < (l.length : Int) then (if 0 ≤ i then (if s.length < 17592186044416 then L k (s ++ [rd l i]) (wrap64 (i + (c : Int))) else none) else none) else F k s)
    (hl : l.length ≤ 2000000) (hc : 0 < c) (hc1 : c ≤ 2000000) (hp : ph ≤ 2000000) (hF : Ev (fun k => F k (thinV l c ph)) r) : Ev (fun k => L k [] (ph : Int)) r := by
  have hpos := (for_pos L (fun i => (ph : Int) + (i : Int) * (c : Int)) (fun i s => s ++ [rd l ((ph : Int) + (i : Int) * (c : Int))]) (fun i s => s.length = i) ((l.length - ph + c - 1) / c) r ?_ [] rfl).2
  · simp only [Int.ofNat_zero, Int.zero_mul, Int.add_zero] at hpos
    rw [hpos, iter_push, List.nil_append, ev_shift]
    simp only [hL]
    have hn : ¬ (l.length - ph + c - 1) / c < (l.length - ph + c - 1) / c := Nat.lt_irrefl _
    rw [steps_lt hc] at hn
    unfold thinV at hF
    generalize hq : (l.length - ph + c - 1) / c = q at *
    have hq' : ((q * c : Nat) : Int) = (q : Int) * (c : Int) := by simp
    rw [ev_neg (by omega)]
    exact hF
  · intro i s hi hs
    have h2 := (steps_lt hc).1 hi
    have h1 : ((i * c : Nat) : Int) = (i : Int) * (c : Int) := by simp
    have h3 : i * 1 ≤ i * c := Nat.mul_le_mul_left _ hc
    refine ⟨by simp [hs], ?_⟩
    rw [ev_shift]
    simp only [hL]
    rw [ev_pos (by omega), ev_pos (by omega), ev_pos (by omega), w64 (by omega) (by omega)]
    have h4 : (((i + 1 : Nat) : Int)) * (c : Int) = (i : Int) * (c : Int) + (c : Int) := by rw [Int.natCast_add, Int.add_mul]; simp
    rw [h4, Int.add_assoc]
theorem thin_loop {α : Type} (L : Nat → List Int → Int → Option α) (fin : List Int → α) (l : List Int) (c ph : Nat)
    (hL : ∀ k s i, L (k + 1) s i = if i < (l.length : Int) then (if 0 ≤ i then (if s.length < 17592186044416 then L k (s ++ [rd l i]) (wrap64 (i + (c : Int))) else none) else none) else some (fin s))
    (hl : l.length ≤ 2000000) (hc : 0 < c) (hc1 : c ≤ 2000000) (hp : ph ≤ 2000000) : Ev (fun k => L k [] (ph : Int)) (fin (thinV l c ph)) :=
  thin_loop_then L (fun _ s => some (fin s)) l c ph _ hL hl hc hc1 hp (Ev.now _)

end Go.Proofs.Ytofegdgcafameaa.Base
/- The printed rows name the words' theorem 'sized_ints' from inside this namespace. -/
namespace Go.Proofs.Ytofegdgcafameaa.PrintWords
open Go.ChangeShapes Go.WideShapes
theorem sized_ints {H : Type} {enc : TypeId × Value → H} {P : Program} {W : World} {base : Nat} {spare : Nat → Bool} {held : Bool} {t e : TypeId} {k : IntKind} {a : Option Addr} {len cap : Nat} {d : DataW H} {ps : List MemPlace} {ts : List TypeId} {ds : List (DataW H)} {j : Nat}
    (hsz : (DataW.weightsEach P ts ds).all (· ≤ reachBytes) = true) (ht : ts[j]? = some t) (hd : ds[j]? = some d) (hu : P.underlying t = some (.slice e)) (he : P.underlying e = some (.int k)) (hc : P.cellsOf e = 1) {B : Nat} (hB : P.bytesOf e = B)
    (h : DataW.Trod enc P W base spare held t (.slice a len cap) d ps) : len * B ≤ 140737488351232 := Go.Proofs.YtofegdgcafameaaW.PrintWords.sized_ints hsz ht hd hu he hc hB h
end Go.Proofs.Ytofegdgcafameaa.PrintWords
