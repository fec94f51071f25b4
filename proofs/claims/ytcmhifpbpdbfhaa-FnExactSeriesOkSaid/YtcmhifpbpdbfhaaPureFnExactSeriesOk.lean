/- FnExactSeriesOk returns true for every field number and list: both say whether the list is a series. -/
import Derived.Test.YtcmhifpbpdbfhaaPFnExactSeriesOkx2
import Derived.Test.YtcmhifpbpdbfhaaGB
set_option linter.unusedVariables false
set_option linter.unusedSimpArgs false
namespace Go.Proofs.Ytcmhifpbpdbfhaa.Pure
open Go.RowKit Go.Proofs.Ytcmhifpbpdbfhaa.PFnExactSeriesOk Go.Proofs.YtcmhifpbpdbfhaaW.PrintWords Go.Proofs.YtcmhifpbpdbfhaaW.PrintLast Go.Proofs.YtcmhifpbpdbfhaaW.PrintMore G7
theorem ev_toIntS (l : List Int) (hl : l.length ≤ 35184372088832) : Ev (fun k => laws_toIntS.f k l) l := by
  have key : ∀ (d i : Nat) (out : List Int), i + d = l.length → out.length = l.length → (∀ j : Nat, j < i → rd out (j : Int) = rd l (j : Int)) → Ev (fun k => laws_toIntS.l0 k l out (i : Int)) l := by
    intro d
    induction d with
    | zero =>
      intro i out hi ho hx
      refine ev_s ?_
      have h1 : ¬ ((i : Int) < (l.length : Int)) := by omega
      simp only [laws_toIntS.l0, h1, if_false]
      rw [ext_rd ho (fun j hj => hx j (by omega))]
      exact Ev.now _
    | succ d ih =>
      intro i out hi ho hx
      refine ev_s ?_
      have h1 : (i : Int) < (l.length : Int) := by omega
      have h2 : (0 : Int) ≤ (i : Int) := by omega
      have h3 : (i : Int) < (out.length : Int) := by omega
      simp only [laws_toIntS.l0, h1, h2, h3, if_true, w_succ (n := i) (by omega), Int.toNat_natCast]
      refine ih (i + 1) _ (by omega) (by rw [List.length_set]; exact ho) (fun j hj => ?_)
      by_cases c : i = j
      · subst c; rw [rd_set_eq (by omega)]
      · rw [rd_set_ne c]; exact hx j (by omega)
  unfold laws_toIntS.f
  have h1 : (0 : Int) ≤ (l.length : Int) := by omega
  simp only [h1, if_true, Int.toNat_natCast, hl]
  exact key l.length 0 _ (by omega) (by simp) (fun j hj => by omega)

theorem ev_eqIntS (l : List Int) (hl : l.length ≤ 35184372088832) : Ev (fun k => laws_eqIntS.f k l l) true := by
  have key : ∀ (d i : Nat), i + d = l.length → Ev (fun k => laws_eqIntS.l0 k l l (i : Int)) true := by
    intro d
    induction d with
    | zero =>
      intro i hi
      refine ev_s ?_
      have h1 : ¬ ((i : Int) < (l.length : Int)) := by omega
      simp only [laws_eqIntS.l0, h1, if_false]
      exact Ev.now _
    | succ d ih =>
      intro i hi
      refine ev_s ?_
      have h1 : (i : Int) < (l.length : Int) := by omega
      have h2 : (0 : Int) ≤ (i : Int) := by omega
      simp only [laws_eqIntS.l0, h1, h2, if_true, w_succ (n := i) (by omega)]
      exact ih (i + 1) (by omega)
  unfold laws_eqIntS.f
  simp only [if_true]
  exact key l.length 0 (by omega)

/-- A series over a field. -/
def SerOk (f : Int) (a : List Int) : Prop := (0 ≤ f ∧ f < 9) ∧ 1 ≤ a.length ∧ a.length ≤ 64 ∧ El (md f) a
theorem SerOk.pm {f : Int} {a : List Int} (h : SerOk f a) : Pm (md f) := pm_of h.1
theorem SerOk.rd {f : Int} {a : List Int} (h : SerOk f a) (i : Int) : 0 ≤ rd a i ∧ rd a i < md f := h.2.2.2.rd (pm_of h.1).pos i

theorem ev_l01In (x a b : Int) : spec_l01In.f x a b = some (decide (a ≤ x) && decide (x ≤ b)) := by
  unfold spec_l01In.f
  by_cases h : a ≤ x
  · rw [if_pos h, decide_eq_true h, Bool.true_and]
  · rw [if_neg h, decide_eq_false h, Bool.false_and]

theorem ev_Modulus (f : Int) : spec_Modulus.f f = some (md f) := by
  unfold spec_Modulus.f md
  by_cases h0 : f = 0
  · rw [if_pos h0, if_pos h0]
  rw [if_neg h0, if_neg h0]
  by_cases h1 : f = 1
  · rw [if_pos h1, if_pos h1]
  rw [if_neg h1, if_neg h1]
  by_cases h2 : f = 2
  · rw [if_pos h2, if_pos h2]
  rw [if_neg h2, if_neg h2]
  by_cases h3 : f = 3
  · rw [if_pos h3, if_pos h3]
  rw [if_neg h3, if_neg h3]
  by_cases h4 : f = 4
  · rw [if_pos h4, if_pos h4]
  rw [if_neg h4, if_neg h4]
  by_cases h5 : f = 5
  · rw [if_pos h5, if_pos h5]
  rw [if_neg h5, if_neg h5]
  by_cases h6 : f = 6
  · rw [if_pos h6, if_pos h6]
  rw [if_neg h6, if_neg h6]
  by_cases h7 : f = 7
  · rw [if_pos h7, if_pos h7]
  rw [if_neg h7, if_neg h7]
  by_cases h8 : f = 8
  · rw [if_pos h8, if_pos h8]
  rw [if_neg h8, if_neg h8]

theorem ev_l03Elements {f : Int} (h : 0 ≤ f ∧ f < 9) (l : List Int) (hl : l.length ≤ 35184372088832) : Ev (fun k => spec_l03Elements.f k f l) (elB (md f) l) := by
  have hp := pm_of h
  unfold Pm at hp
  have key : ∀ (d i : Nat), i + d = l.length → Ev (fun k => spec_l03Elements.l0 k l (md f) (i : Int)) (elB (md f) (l.drop i)) := by
    intro d
    induction d with
    | zero =>
      intro i hi
      refine ev_s ?_
      have h1 : ¬ ((i : Int) < (l.length : Int)) := by omega
      simp only [spec_l03Elements.l0, h1, if_false]
      rw [List.drop_of_length_le (by omega)]
      exact Ev.now _
    | succ d ih =>
      intro i hi
      refine ev_s ?_
      have h1 : (i : Int) < (l.length : Int) := by omega
      have h2 : (0 : Int) ≤ (i : Int) := by omega
      simp only [spec_l03Elements.l0, h1, h2, if_true, w_succ (n := i) (by omega), w64 (x := md f - 1) (by omega) (by omega), ev_l01In, Option.bind_some]
      rw [elB_drop (by omega)]
      rw [show decide (rd l (i : Int) < md f) = decide (rd l (i : Int) ≤ md f - 1) from decide_eq_decide.2 (by omega)]
      by_cases c : (decide (0 ≤ rd l (i : Int)) && decide (rd l (i : Int) ≤ md f - 1)) = true
      · simp only [c, if_true, Bool.true_and]
        exact ih (i + 1) (by omega)
      · simp only [Bool.not_eq_true] at c
        simp only [c, Bool.false_and, Bool.false_eq_true, if_false]
        exact Ev.now _
  unfold spec_l03Elements.f
  simp only [ev_Modulus, Option.bind_some]
  have h0 : ¬ (md f = 0) := by omega
  simp only [h0, if_false]
  exact key l.length 0 (by omega)
theorem ev_l03Elements_bad {f : Int} (h : ¬ (0 ≤ f ∧ f < 9)) (l : List Int) : Ev (fun k => spec_l03Elements.f k f l) false := by
  unfold spec_l03Elements.f
  simp only [ev_Modulus, Option.bind_some, md_bad h, if_true]
  exact Ev.now _

theorem ev_SeriesOk {f : Int} {a : List Int} (h : SerOk f a) : Ev (fun k => spec_SeriesOk.f k f a) true := by
  obtain ⟨hf, h1, h2, he⟩ := h
  unfold spec_SeriesOk.f
  simp only [ev_l01In, Option.bind_some, show decide ((1 : Int) ≤ (a.length : Int)) = true from decide_eq_true (by omega), show decide ((a.length : Int) ≤ 64) = true from decide_eq_true (by omega), Bool.and_self, if_true]
  refine Ev.bind (ev_l03Elements hf a (by omega)) ?_
  rw [elB_iff.2 he]
  exact Ev.now _
theorem ev_SeriesOk_bad {f : Int} {a : List Int} (h : ¬ SerOk f a) : Ev (fun k => spec_SeriesOk.f k f a) false := by
  unfold spec_SeriesOk.f
  simp only [ev_l01In, Option.bind_some]
  by_cases c : (1 : Int) ≤ (a.length : Int) ∧ (a.length : Int) ≤ 64
  · simp only [decide_eq_true c.1, decide_eq_true c.2, Bool.and_self, if_true]
    by_cases hf : 0 ≤ f ∧ f < 9
    · refine Ev.bind (ev_l03Elements hf a (by omega)) ?_
      have he : elB (md f) a = false := by
        rw [← Bool.not_eq_true, elB_iff]
        intro he
        exact h ⟨hf, by omega, by omega, he⟩
      rw [he]
      exact Ev.now _
    · refine Ev.bind (ev_l03Elements_bad hf a) ?_
      exact Ev.now _
  · have e : (decide ((1 : Int) ≤ (a.length : Int)) && decide ((a.length : Int) ≤ 64)) = false := by
      rw [← Bool.not_eq_true, Bool.and_eq_true, decide_eq_true_eq, decide_eq_true_eq]; exact c
    simp only [e, Bool.false_eq_true, if_false]
    exact Ev.now _

theorem ev_fieldOf {f : Int} (h : 0 ≤ f ∧ f < 9) : impl_fieldOf.f f = some (md f, gn f, tp f, true) := by
  rcases fcases h.1 h.2 with e | e | e | e | e | e | e | e | e <;> subst e <;> rfl
theorem ev_fieldOf_bad {f : Int} (h : ¬ (0 ≤ f ∧ f < 9)) : impl_fieldOf.f f = some (0, 0, 0, false) := by
  unfold impl_fieldOf.f
  by_cases c : f < 0
  · rw [if_pos c]
  · rw [if_neg c, if_pos (by omega)]

theorem ev_areElements (p g t : Int) (l : List Int) (hl : l.length ≤ 35184372088832) : Ev (fun k => impl_field_areElements.f k p g t l) (elB p l) := by
  have key : ∀ (d i : Nat), i + d = l.length → Ev (fun k => impl_field_areElements.l0 k l (l.length : Int) (i : Int) p g t) (elB p (l.drop i)) := by
    intro d
    induction d with
    | zero =>
      intro i hi
      refine ev_s ?_
      have h1 : ¬ ((i : Int) < (l.length : Int)) := by omega
      simp only [impl_field_areElements.l0, h1, if_false]
      rw [List.drop_of_length_le (by omega)]
      exact Ev.now _
    | succ d ih =>
      intro i hi
      refine ev_s ?_
      have h1 : (i : Int) < (l.length : Int) := by omega
      have h2 : (0 : Int) ≤ (i : Int) := by omega
      simp only [impl_field_areElements.l0, h1, h2, if_true, w_succ (n := i) (by omega)]
      rw [elB_drop (by omega)]
      by_cases c1 : rd l (i : Int) < 0
      · simp only [c1, if_true, show decide (0 ≤ rd l (i : Int)) = false from decide_eq_false (by omega), Bool.false_and]
        exact Ev.now _
      · by_cases c2 : rd l (i : Int) ≥ p
        · simp only [c1, c2, if_true, if_false, show decide (rd l (i : Int) < p) = false from decide_eq_false (by omega), Bool.false_and, Bool.and_false]
          exact Ev.now _
        · simp only [c1, c2, if_false, show decide (0 ≤ rd l (i : Int)) = true from decide_eq_true (by omega), show decide (rd l (i : Int) < p) = true from decide_eq_true (by omega), Bool.true_and]
          exact ih (i + 1) (by omega)
  exact key l.length 0 (by omega)

theorem ev_seriesField1 {f : Int} {a : List Int} (h : SerOk f a) : Ev (fun k => impl_seriesField.f k f [a]) (md f, gn f, tp f, true) := by
  obtain ⟨hf, h1, h2, he⟩ := h
  unfold impl_seriesField.f
  have hl : (([a] : List (List Int)).length : Int) = 1 := rfl
  have hr : rd_L1 [a] 0 = a := rfl
  have n1 : ¬ ((a.length : Int) < 1) := by omega
  have n2 : ¬ ((a.length : Int) > 64) := by omega
  simp only [ev_fieldOf hf, Option.bind_some, if_true, hl]
  refine ev_s ?_
  simp only [impl_seriesField.l0, hl, hr, n1, n2, if_false, show (0 : Int) < 1 from by decide, show (0 : Int) ≤ 0 from by decide, if_true]
  refine Ev.bind (ev_areElements _ _ _ a (by omega)) ?_
  simp only [elB_iff.2 he, if_true, w64 (x := 0 + 1) (by decide) (by decide)]
  refine ev_s ?_
  simp only [impl_seriesField.l0, hl, show ¬ ((0 : Int) + 1 < 1) from by decide, if_false]
  exact Ev.now _
theorem ev_seriesField1_bad {f : Int} {a : List Int} (h : ¬ SerOk f a) : Ev (fun k => impl_seriesField.f k f [a]) (0, 0, 0, false) := by
  unfold impl_seriesField.f
  by_cases hf : 0 ≤ f ∧ f < 9
  · have hl : (([a] : List (List Int)).length : Int) = 1 := rfl
    have hr : rd_L1 [a] 0 = a := rfl
    simp only [ev_fieldOf hf, Option.bind_some, if_true, hl]
    refine ev_s ?_
    simp only [impl_seriesField.l0, hl, hr, show (0 : Int) < 1 from by decide, show (0 : Int) ≤ 0 from by decide, if_true]
    by_cases n1 : (a.length : Int) < 1
    · simp only [n1, if_true]; exact Ev.now _
    · by_cases n2 : (a.length : Int) > 64
      · simp only [n1, n2, if_true, if_false]; exact Ev.now _
      · simp only [n1, n2, if_false]
        refine Ev.bind (ev_areElements _ _ _ a (by omega)) ?_
        have he : elB (md f) a = false := by
          rw [← Bool.not_eq_true, elB_iff]
          intro he
          exact h ⟨hf, by omega, by omega, he⟩
        simp only [he, Bool.false_eq_true, if_false]
        exact Ev.now _
  · simp only [ev_fieldOf_bad hf, Option.bind_some, Bool.false_eq_true, if_false]
    exact Ev.now _

theorem FnExactSeriesOk : laws_FnExactSeriesOk.Pure := by
  intro f l hf hl hl8 hw
  refine Ev.rounds ?_
  unfold laws_FnExactSeriesOk.f
  by_cases hbig : (l.length : Int) > 1048576
  · simp only [hbig, if_true]; exact Ev.now _
  simp only [hbig, if_false]
  have hl' : l.length ≤ 35184372088832 := by omega
  obtain ⟨R, hR1, hR2⟩ : ∃ R, Ev (fun k => spec_SeriesOk.f k f l) R ∧ Ev (fun k => impl_SeriesOk.f k f l) R := by
    by_cases h : SerOk f l
    · refine ⟨true, ev_SeriesOk h, ?_⟩
      unfold impl_SeriesOk.f
      refine Ev.bind (ev_seriesField1 h) ?_
      exact Ev.now _
    · refine ⟨false, ev_SeriesOk_bad h, ?_⟩
      unfold impl_SeriesOk.f
      refine Ev.bind (ev_seriesField1_bad h) ?_
      exact Ev.now _
  refine Ev.bind (ev_toIntS l hl') ?_
  refine Ev.bind hR1 ?_
  refine Ev.bind (ev_toIntS l hl') ?_
  refine Ev.bind hR2 ?_
  simp only [bne_self_eq_false, Bool.false_eq_true, if_false]
  refine Ev.bind (ev_toIntS l hl') ?_
  refine Ev.bind (ev_eqIntS l hl') ?_
  simp only [if_true]
  exact Ev.now _

end Go.Proofs.Ytcmhifpbpdbfhaa.Pure
