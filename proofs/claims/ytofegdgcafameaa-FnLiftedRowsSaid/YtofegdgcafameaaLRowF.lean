/- Lifting both ways: what the reference's Lift2 and the rows' test tell, of lists alone. -/
import Derived.Test.YtofegdgcafameaaLRowP
import Derived.Test.YtofegdgcafameaaRowT
namespace Go.Proofs.Ytofegdgcafameaa.LRowF
open Go.RowKit Go.Proofs.YtofegdgcafameaaW.PrintWords Go.Proofs.Ytofegdgcafameaa.Base
open Go.Proofs.Ytofegdgcafameaa.QFnLiftedRows hiding rd_L2 at_L2
open Go.Proofs.Ytofegdgcafameaa.RowT
open Go.Proofs.Ytofegdgcafameaa.LRowP
set_option linter.unusedVariables false
set_option linter.unusedSimpArgs false
theorem rdq (x : List (List Int)) (i : Int) : Go.Proofs.Ytofegdgcafameaa.QFnLiftedRows.rd_L2 x i = rd_L1 x i := by
  unfold Go.Proofs.Ytofegdgcafameaa.QFnLiftedRows.rd_L2 rd_L1
  exact Eq.refl _
def fwd (kind : Int) (l : List Int) : List Int := lowV kind l ++ highV kind l
theorem fwd_len (kind : Int) (l : List Int) : (fwd kind l).length = l.length := by
  unfold fwd lowV highV
  simp [evenV, oddV]
  omega
theorem low_len (kind : Int) (l : List Int) : (lowV kind l).length + (highV kind l).length = l.length := by
  have := fwd_len kind l
  unfold fwd at this
  rwa [List.length_append] at this
open Classical in
noncomputable def lift2R (kind : Int) (x : List (List Int)) : List (List Int) × Bool := if rowsB kind x 1000000000 then (colsT (fwd kind) (eachT (fwd kind) x), true) else ([], false)
theorem implRows_ev (kind : Int) (x : List (List Int)) (most : Int) (hn : x.length ≤ 2000000) (hr : ∀ r ∈ x, r.length ≤ 2000000) (h0 : 0 ≤ most) (h1 : most ≤ 9000000000) :
    ∃ b, Ev (fun k => impl_rowsOk.f k kind x most) b ∧ (b = true ↔ rowsB kind x most) := by
  unfold impl_rowsOk.f
  rw [isLift_eq]
  simp only [Option.bind_some]
  by_cases hk : 1 ≤ kind ∧ kind ≤ 3
  · by_cases hl : x.length ≤ 64
    · have go : ∀ n j : Nat, j + n = x.length → (∀ i : Nat, i < j → (rd_L1 x (i : Int)).length = (rd_L1 x 0).length ∧ (rd_L1 x (i : Int)).length ≤ 64 ∧ inB most (rd_L1 x (i : Int)) = true) →
          ∃ b, Ev (fun k => impl_rowsOk.l0 k x most x (x.length : Int) (j : Int)) b ∧ (b = true ↔ rowsB kind x most) := by
        intro n
        induction n with
        | zero =>
          intro j hj hg
          refine ⟨true, ?_, by simp; exact ⟨hk, hl, fun i hi => hg i (by omega)⟩⟩
          rw [ev_shift]
          simp only [impl_rowsOk.l0]
          rw [ev_neg (by omega)]
          exact Ev.now _
        | succ n ih =>
          intro j hj hg
          have hj' : j < x.length := by omega
          by_cases q1 : (rd_L1 x (j : Int)).length ≤ 64
          · by_cases q2 : (rd_L1 x (j : Int)).length = (rd_L1 x 0).length
            · by_cases q3 : inB most (rd_L1 x (j : Int)) = true
              · obtain ⟨b, e, hb⟩ := ih (j + 1) (by omega) (fun i hi => by
                  by_cases c : i = j
                  · subst c; exact ⟨q2, q1, q3⟩
                  · exact hg i (by omega))
                refine ⟨b, ?_, hb⟩
                rw [ev_shift]
                simp only [impl_rowsOk.l0, rdq]
                rw [ev_pos (by omega), ev_pos (by omega), ev_pos (by omega), ev_neg (by omega), ev_pos (by omega), ev_pos (by omega), ev_bind (within_ev _ most (hr _ (rdL_mem hj')) (by omega) (by omega)), ev_pos q3, w64 (by omega) (by omega)]
                exact e
              · refine ⟨false, ?_, by simp; exact fun h => q3 (h.2.2 j hj').2.2⟩
                rw [ev_shift]
                simp only [impl_rowsOk.l0, rdq]
                rw [ev_pos (by omega), ev_pos (by omega), ev_pos (by omega), ev_neg (by omega), ev_pos (by omega), ev_pos (by omega), ev_bind (within_ev _ most (hr _ (rdL_mem hj')) (by omega) (by omega)), ev_neg q3]
                exact Ev.now _
            · refine ⟨false, ?_, by simp; exact fun h => q2 (h.2.2 j hj').1⟩
              rw [ev_shift]
              simp only [impl_rowsOk.l0, rdq]
              rw [ev_pos (by omega), ev_pos (by omega), ev_pos (by omega), ev_neg (by omega), ev_pos (by omega), ev_neg (by omega)]
              exact Ev.now _
          · refine ⟨false, ?_, by simp; exact fun h => q1 (h.2.2 j hj').2.1⟩
            rw [ev_shift]
            simp only [impl_rowsOk.l0, rdq]
            rw [ev_pos (by omega), ev_pos (by omega), ev_pos (by omega), ev_pos (by omega)]
            exact Ev.now _
      obtain ⟨b, e, hb⟩ := go x.length 0 (by omega) (fun i hi => by omega)
      refine ⟨b, ?_, hb⟩
      rw [ev_pos (by simpa using hk), ev_shift]
      simp only [impl_rowsOk.j0]
      rw [ev_neg (by simp; omega)]
      exact e
    · refine ⟨false, ?_, by simp; exact fun h => hl h.2.1⟩
      rw [ev_pos (by simpa using hk), ev_shift]
      simp only [impl_rowsOk.j0]
      rw [ev_pos (by simp; omega)]
      exact Ev.now _
  · refine ⟨false, ?_, by simp; exact fun h => hk h.1⟩
    rw [ev_neg (by simpa using hk), ev_shift]
    simp only [impl_rowsOk.j0]
    rw [ev_pos (by trivial)]
    exact Ev.now _
theorem specRows_ev (x : List (List Int)) (most : Int) (hn : x.length ≤ 2000000) (hr : ∀ r ∈ x, r.length ≤ 2000000) (h0 : 0 ≤ most) (h1 : most ≤ 9000000000) :
    ∃ b, Ev (fun k => spec_l9Rows.f k x most) b ∧ (b = true ↔ x.length ≤ 64 ∧ ∀ i : Nat, i < x.length → (rd_L1 x (i : Int)).length = (rd_L1 x 0).length ∧ (rd_L1 x (i : Int)).length ≤ 64 ∧ inB most (rd_L1 x (i : Int)) = true) := by
  unfold spec_l9Rows.f
  by_cases hl : x.length ≤ 64
  · have go : ∀ n j : Nat, j + n = x.length → (∀ i : Nat, i < j → (rd_L1 x (i : Int)).length = (rd_L1 x 0).length ∧ (rd_L1 x (i : Int)).length ≤ 64 ∧ inB most (rd_L1 x (i : Int)) = true) →
        ∃ b, Ev (fun k => spec_l9Rows.l0 k x most (j : Int)) b ∧ (b = true ↔ x.length ≤ 64 ∧ ∀ i : Nat, i < x.length → (rd_L1 x (i : Int)).length = (rd_L1 x 0).length ∧ (rd_L1 x (i : Int)).length ≤ 64 ∧ inB most (rd_L1 x (i : Int)) = true) := by
      intro n
      induction n with
      | zero =>
        intro j hj hg
        refine ⟨true, ?_, by simp; exact ⟨hl, fun i hi => hg i (by omega)⟩⟩
        rw [ev_shift]
        simp only [spec_l9Rows.l0]
        rw [ev_neg (by omega)]
        exact Ev.now _
      | succ n ih =>
        intro j hj hg
        have hj' : j < x.length := by omega
        by_cases q2 : (rd_L1 x (j : Int)).length = (rd_L1 x 0).length
        · by_cases q1 : (rd_L1 x (j : Int)).length ≤ 64
          · by_cases q3 : inB most (rd_L1 x (j : Int)) = true
            · obtain ⟨b, e, hb⟩ := ih (j + 1) (by omega) (fun i hi => by
                by_cases c : i = j
                · subst c; exact ⟨q2, q1, q3⟩
                · exact hg i (by omega))
              refine ⟨b, ?_, hb⟩
              rw [ev_shift]
              simp only [spec_l9Rows.l0, rdq]
              rw [ev_pos (by omega), ev_pos (by omega), ev_pos (by omega), ev_pos (by omega), ev_neg (by omega), ev_bind (l9Wide_ev _ most (hr _ (rdL_mem hj')) (by omega) (by omega)), ev_pos q3, w64 (by omega) (by omega)]
              exact e
            · refine ⟨false, ?_, ⟨fun h => (by cases h), fun h => absurd (h.2 j hj').2.2 q3⟩⟩
              rw [ev_shift]
              simp only [spec_l9Rows.l0, rdq]
              rw [ev_pos (by omega), ev_pos (by omega), ev_pos (by omega), ev_pos (by omega), ev_neg (by omega), ev_bind (l9Wide_ev _ most (hr _ (rdL_mem hj')) (by omega) (by omega)), ev_neg q3]
              exact Ev.now _
          · refine ⟨false, ?_, ⟨fun h => (by cases h), fun h => absurd (h.2 j hj').2.1 q1⟩⟩
            rw [ev_shift]
            simp only [spec_l9Rows.l0, rdq]
            rw [ev_pos (by omega), ev_pos (by omega), ev_pos (by omega), ev_pos (by omega), ev_pos (by omega)]
            exact Ev.now _
        · refine ⟨false, ?_, ⟨fun h => (by cases h), fun h => absurd (h.2 j hj').1 q2⟩⟩
          rw [ev_shift]
          simp only [spec_l9Rows.l0, rdq]
          rw [ev_pos (by omega), ev_pos (by omega), ev_pos (by omega), ev_neg (by omega)]
          exact Ev.now _
    obtain ⟨b, e, hb⟩ := go x.length 0 (by omega) (fun i hi => by omega)
    refine ⟨b, ?_, hb⟩
    rw [ev_neg (by omega)]
    exact e
  · refine ⟨false, ?_, ⟨fun h => (by cases h), fun h => absurd h.1 hl⟩⟩
    rw [ev_pos (by omega)]
    exact Ev.now _
theorem turned_ev (x : List (List Int)) (hn : 0 < x.length) (hn1 : x.length ≤ 2000000) (hm : (rd_L1 x 0).length ≤ 2000000) (he : Even x) : Ev (fun k => spec_l9Turned.f k x) (turnT x) := by
  unfold spec_l9Turned.f
  have g := for_iff (fun k (s : List (List Int)) c => spec_l9Turned.l0 k x s c) (fun c _ => tabL (c + 1) fun c => colT x c) (fun c s => s = tabL c fun c => colT x c) (rd_L1 x 0).length (turnT x) (fun c s hc hs => by
    refine ⟨rfl, ?_⟩
    subst hs
    rw [ev_shift]
    simp only [spec_l9Turned.l0, rdq]
    rw [ev_pos (by omega), ev_pos (by omega), ev_shift]
    simp only [spec_l9Turned.j1]
    rw [ev_pos (by simp; omega)]
    have g2 := fun r => for_iff (fun k (s : List Int) i => spec_l9Turned.l1 k x (tabL c fun c => colT x c) (c : Int) s i) (fun i _ => tab (i + 1) fun i => rd (rd_L1 x (i : Int)) (c : Int)) (fun i s => s = tab i fun i => rd (rd_L1 x (i : Int)) (c : Int)) x.length r (fun i s hi hs => by
      refine ⟨rfl, ?_⟩
      subst hs
      have := he i hi
      rw [ev_shift]
      simp only [spec_l9Turned.l1, rdq]
      rw [ev_pos (by omega), ev_pos (by omega), ev_pos (by omega), ev_pos (by omega), ev_pos (by simp; omega), w64 (by omega) (by omega), tab_succ]) [] rfl
    rw [(g2 _).2, (g2 (turnT x)).1, ev_shift]
    simp only [spec_l9Turned.l1]
    rw [ev_neg (by omega), ev_pos (by simp; omega), w64 (by omega) (by omega), tabL_succ]
    rfl) [] rfl
  rw [g.2, g.1, ev_shift]
  simp only [spec_l9Turned.l0, rdq]
  rw [ev_pos (by omega), ev_pos (by omega), ev_shift]
  simp only [spec_l9Turned.j1]
  rw [ev_neg (by simp)]
  exact Ev.now _
theorem each_ev (kind : Int) (x : List (List Int)) (hn : x.length ≤ 2000000) (hr : ∀ r ∈ x, r.length ≤ 1000000) : Ev (fun k => spec_l9Each.f k kind x false) (eachT (fwd kind) x) := by
  unfold spec_l9Each.f
  have g := for_iff (fun k (s : List (List Int)) i => spec_l9Each.l0 k kind x false s i) (fun i _ => tabL (i + 1) fun i => fwd kind (rd_L1 x (i : Int))) (fun i s => s = tabL i fun i => fwd kind (rd_L1 x (i : Int))) x.length (eachT (fwd kind) x) (fun i s hi hs => by
    refine ⟨rfl, ?_⟩
    subst hs
    have hl := hr _ (rdL_mem hi)
    have hlow := low_len kind (rd_L1 x (i : Int))
    rw [ev_shift]
    simp only [spec_l9Each.l0, rdq]
    rw [ev_pos (by omega), ev_neg (by simp), ev_pos (by omega), ev_bind (specOnce_ev kind _ (by omega))]
    dsimp only
    rw [ev_pos (by omega), ev_pos (by simp; omega), w64 (by omega) (by omega), tabL_succ]
    rfl) [] rfl
  rw [g.2, g.1, ev_shift]
  simp only [spec_l9Each.l0]
  rw [ev_neg (by omega)]
  exact Ev.now _
theorem turn_len (x : List (List Int)) : (turnT x).length = (rd_L1 x 0).length := tabL_length _ _
theorem each_row (F : List Int → List Int) (x : List (List Int)) {i : Nat} (h : i < x.length) : rd_L1 (eachT F x) (i : Int) = F (rd_L1 x (i : Int)) := rdL_tab h
theorem turn_row (x : List (List Int)) {c : Nat} (h : c < (rd_L1 x 0).length) : rd_L1 (turnT x) (c : Int) = colT x c := rdL_tab h
theorem col_len (x : List (List Int)) (c : Nat) : (colT x c).length = x.length := tab_length _ _
/-- turned, each, turned again -/
theorem turn_cols (F : List Int → List Int) (x : List (List Int)) (hF : ∀ l, (F l).length = l.length) (hn : 0 < x.length) (hm : 0 < (rd_L1 x 0).length) : turnT (eachT F (turnT x)) = colsT F x := by
  have h0 : rd_L1 (eachT F (turnT x)) 0 = F (colT x 0) := by
    have := each_row F (turnT x) (i := 0) (by rw [turn_len]; exact hm)
    rw [show ((0 : Nat) : Int) = 0 from rfl] at this
    rw [this]
    have h1 := turn_row x hm
    rw [show ((0 : Nat) : Int) = 0 from rfl] at h1
    rw [h1]
  have hl : (eachT F (turnT x)).length = (rd_L1 x 0).length := by unfold eachT; rw [tabL_length, turn_len]
  show tabL (rd_L1 (eachT F (turnT x)) 0).length (fun c => colT (eachT F (turnT x)) c) = _
  unfold colsT
  rw [show (rd_L1 (eachT F (turnT x)) 0).length = x.length by rw [h0, hF, col_len]]
  refine tabL_congr fun i hi => ?_
  unfold colT
  rw [hl]
  refine tab_congr fun c hc => ?_
  rw [each_row F (turnT x) (by rw [turn_len]; exact hc), turn_row x hc]
  rfl
theorem each_even {F : List Int → List Int} {x : List (List Int)} (hF : ∀ l, (F l).length = l.length) (h : Even x) : Even (eachT F x) := by
  intro i hi
  have hl : (eachT F x).length = x.length := tabL_length _ _
  rw [hl] at hi
  have h0 := each_row F x (i := 0) (by omega)
  rw [show ((0 : Nat) : Int) = 0 from rfl] at h0
  rw [each_row F x hi, h0, hF, hF]
  exact h i hi
theorem turn_even (x : List (List Int)) : Even (turnT x) := by
  intro i hi
  rw [turn_len] at hi
  have h0 := turn_row x (c := 0) (by omega)
  rw [show ((0 : Nat) : Int) = 0 from rfl] at h0
  rw [turn_row x hi, h0, col_len, col_len]
theorem specLift2_ev (kind : Int) (x : List (List Int)) (hn : x.length ≤ 2000000) (hr : ∀ r ∈ x, r.length ≤ 2000000) : Ev (fun k => spec_Lift2.f k kind x) (lift2R kind x) := by
  unfold spec_Lift2.f
  rw [l9Kind_eq, ev_sbind]
  have no : ¬ rowsB kind x 1000000000 → Ev (fun k => spec_Lift2.j0 k kind x true) (lift2R kind x) := by
    intro h
    rw [ev_shift]
    simp only [spec_Lift2.j0]
    rw [ev_pos (by trivial), ev_some_iff]
    unfold lift2R
    rw [if_neg h]
  by_cases hk : 1 ≤ kind ∧ kind ≤ 3
  · rw [ev_pos (by simpa using hk)]
    obtain ⟨b, e, hb⟩ := specRows_ev x 1000000000 hn hr (by omega) (by omega)
    rw [ev_bind e]
    by_cases hbt : b = true
    · have hB := hb.1 hbt
      have hR : rowsB kind x 1000000000 := ⟨hk, hB⟩
      have hres : lift2R kind x = (colsT (fwd kind) (eachT (fwd kind) x), true) := by unfold lift2R; rw [if_pos hR]
      subst hbt
      rw [ev_shift]
      simp only [spec_Lift2.j0, rdq]
      rw [ev_neg (by simp)]
      have empty : (x.length = 0 ∨ (rd_L1 x 0).length = 0) → Ev (fun k => spec_Lift2.j1 k kind x true) (lift2R kind x) := by
        intro h
        rw [ev_shift]
        simp only [spec_Lift2.j1]
        rw [ev_pos (by trivial), ev_pos (by omega), ev_pos (by omega), ev_some_iff, hres, Int.toNat_natCast]
        refine Prod.ext ?_ rfl
        have hl : (eachT (fwd kind) x).length = x.length := tabL_length _ _
        show List.replicate x.length [] = colsT (fwd kind) (eachT (fwd kind) x)
        unfold colsT
        rw [hl]
        refine eq_tabL (by simp) fun i hi => ?_
        have h0 := each_row (fwd kind) x (i := 0) (by omega)
        rw [show ((0 : Nat) : Int) = 0 from rfl] at h0
        rw [rdL_nat, List.getD_eq_getElem?_getD, List.getElem?_replicate, if_pos hi, h0, fwd_len, show (rd_L1 x 0).length = 0 by omega]
        rfl
      by_cases h0 : x.length = 0
      · rw [ev_pos (by omega)]
        exact empty (Or.inl h0)
      · rw [ev_neg (by omega), ev_pos (by omega)]
        by_cases hm : (rd_L1 x 0).length = 0
        · rw [show (((rd_L1 x 0).length : Int) == 0) = true by simp [hm]]
          exact empty (Or.inr hm)
        · rw [show (((rd_L1 x 0).length : Int) == 0) = false by simp; exact fun h => hm (by rw [h]; rfl), ev_shift]
          simp only [spec_Lift2.j1]
          have hE : Even x := fun i hi => (hB.2 i hi).1
          have hE1 := each_even (fwd_len kind) hE
          have hl1 : (eachT (fwd kind) x).length = x.length := tabL_length _ _
          have hm1 : (rd_L1 (eachT (fwd kind) x) 0).length = (rd_L1 x 0).length := by
            have h0 := each_row (fwd kind) x (i := 0) (by omega)
            rw [show ((0 : Nat) : Int) = 0 from rfl] at h0
            rw [h0, fwd_len]
          have hl2 := turn_len (eachT (fwd kind) x)
          have hm2 : (rd_L1 (turnT (eachT (fwd kind) x)) 0).length = x.length := by
            have h0 := turn_row (eachT (fwd kind) x) (c := 0) (by omega)
            rw [show ((0 : Nat) : Int) = 0 from rfl] at h0
            rw [h0, col_len, hl1]
          have hE2 := turn_even (eachT (fwd kind) x)
          have hl3 : (eachT (fwd kind) (turnT (eachT (fwd kind) x))).length = (rd_L1 x 0).length := by unfold eachT at *; rw [tabL_length, hl2, hm1]
          have hm3 : (rd_L1 (eachT (fwd kind) (turnT (eachT (fwd kind) x))) 0).length = x.length := by
            have h0 := each_row (fwd kind) (turnT (eachT (fwd kind) x)) (i := 0) (by omega)
            rw [show ((0 : Nat) : Int) = 0 from rfl] at h0
            rw [h0, fwd_len, hm2]
          have hx64 := hB.1
          have hm64 : (rd_L1 x 0).length ≤ 64 := (hB.2 0 (by omega)).2.1
          rw [ev_neg (by simp), ev_bind (each_ev kind x hn (fun r hr' => by
            obtain ⟨i, hi, rfl⟩ := List.getElem_of_mem hr'
            have := (hB.2 i hi).2.1
            rw [rdL_nat, List.getD_eq_getElem?_getD, List.getElem?_eq_getElem hi] at this
            simp only [Option.getD_some] at this
            omega)), ev_bind (turned_ev _ (by omega) (by omega) (by omega) hE1), ev_bind (each_ev kind _ (by omega) (fun r hr' => by
            unfold turnT tabL at hr'
            obtain ⟨i, hi, rfl⟩ := List.mem_map.1 hr'
            rw [col_len]
            omega)), ev_bind (turned_ev _ (by omega) (by omega) (by omega) (each_even (fwd_len kind) hE2)), ev_some_iff, hres, turn_cols (fwd kind) (eachT (fwd kind) x) (fwd_len kind) (by omega) (by omega)]
    · have hbf : b = false := by simpa using hbt
      subst hbf
      exact no (fun h => hbt (hb.2 h.2))
  · rw [ev_neg (by simpa using hk)]
    exact no (fun h => hk h.1)
end Go.Proofs.Ytofegdgcafameaa.LRowF
