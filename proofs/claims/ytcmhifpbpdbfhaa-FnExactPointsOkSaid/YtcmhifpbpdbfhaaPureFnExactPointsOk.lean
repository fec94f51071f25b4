/- FnExactPointsOk returns true for every field number and list: both say whether the list is one of points. -/
import Derived.Test.YtcmhifpbpdbfhaaPFnExactPointsOkx3
import Derived.Test.YtcmhifpbpdbfhaaGB
set_option linter.unusedVariables false
set_option linter.unusedSimpArgs false
namespace Go.Proofs.Ytcmhifpbpdbfhaa.Pure
open Go.RowKit Go.Proofs.Ytcmhifpbpdbfhaa.PFnExactPointsOk Go.Proofs.YtcmhifpbpdbfhaaW.PrintWords Go.Proofs.YtcmhifpbpdbfhaaW.PrintLast Go.Proofs.YtcmhifpbpdbfhaaW.PrintMore G7
theorem ev_toIntS (l : List Int) (hl : l.length ≤ 35184372088832) : Ev (fun k => laws_toIntS.f k l) l := by
  have key : ∀ (d i : Nat) (out : List Int), i + d = l.length → out.length = l.length → (∀ j : Nat, j < i → rd out (j : Int) = rd l (j : Int)) → Ev (fun k => laws_toIntS.l0 k l out (i : Int)) l := by
    intro d
    induction d with
    | zero =>
      intro i out hi ho hx
      refine ev_s ?_
      have h1 : ¬ ((i : Int) < (l.length : Int)) := by omega
      simp only [laws_toIntS.l0, h1, if_false]
      rw [ext_rd ho (fun j hj => hx j (by omega))]
      exact Ev.now _
    | succ d ih =>
      intro i out hi ho hx
      refine ev_s ?_
      have h1 : (i : Int) < (l.length : Int) := by omega
      have h2 : (0 : Int) ≤ (i : Int) := by omega
      have h3 : (i : Int) < (out.length : Int) := by omega
      simp only [laws_toIntS.l0, h1, h2, h3, if_true, w_succ (n := i) (by omega), Int.toNat_natCast]
      refine ih (i + 1) _ (by omega) (by rw [List.length_set]; exact ho) (fun j hj => ?_)
      by_cases c : i = j
      · subst c; rw [rd_set_eq (by omega)]
      · rw [rd_set_ne c]; exact hx j (by omega)
  unfold laws_toIntS.f
  have h1 : (0 : Int) ≤ (l.length : Int) := by omega
  simp only [h1, if_true, Int.toNat_natCast, hl]
  exact key l.length 0 _ (by omega) (by simp) (fun j hj => by omega)

theorem ev_eqIntS (l : List Int) (hl : l.length ≤ 35184372088832) : Ev (fun k => laws_eqIntS.f k l l) true := by
  have key : ∀ (d i : Nat), i + d = l.length → Ev (fun k => laws_eqIntS.l0 k l l (i : Int)) true := by
    intro d
    induction d with
    | zero =>
      intro i hi
      refine ev_s ?_
      have h1 : ¬ ((i : Int) < (l.length : Int)) := by omega
      simp only [laws_eqIntS.l0, h1, if_false]
      exact Ev.now _
    | succ d ih =>
      intro i hi
      refine ev_s ?_
      have h1 : (i : Int) < (l.length : Int) := by omega
      have h2 : (0 : Int) ≤ (i : Int) := by omega
      simp only [laws_eqIntS.l0, h1, h2, if_true, w_succ (n := i) (by omega)]
      exact ih (i + 1) (by omega)
  unfold laws_eqIntS.f
  simp only [if_true]
  exact key l.length 0 (by omega)

def hasB (m : List Int) (x : Int) : Bool := m.any (fun y => decide (y = x))
theorem hasB_drop {l : List Int} {x : Int} {i : Nat} (h : i < l.length) : hasB (l.drop i) x = (decide (rd l (i : Int) = x) || hasB (l.drop (i + 1)) x) := by
  rw [drop_cons h]; rfl
def allB (l : List Int) : Nat → Nat → Bool
  | _, 0 => true
  | i, d + 1 => !hasB (l.take i) (rd l (i : Int)) && allB l (i + 1) d
/-- Points of a field. -/
def PtsOk (f : Int) (l : List Int) : Prop := (0 ≤ f ∧ f < 9) ∧ 1 ≤ l.length ∧ l.length ≤ 40 ∧ El (md f) l ∧ allB l 0 l.length = true

theorem ev_l01In (x a b : Int) : spec_l01In.f x a b = some (decide (a ≤ x) && decide (x ≤ b)) := by
  unfold spec_l01In.f
  by_cases h : a ≤ x
  · rw [if_pos h, decide_eq_true h, Bool.true_and]
  · rw [if_neg h, decide_eq_false h, Bool.false_and]

theorem ev_Modulus (f : Int) : spec_Modulus.f f = some (md f) := by
  unfold spec_Modulus.f md
  by_cases h0 : f = 0
  · rw [if_pos h0, if_pos h0]
  rw [if_neg h0, if_neg h0]
  by_cases h1 : f = 1
  · rw [if_pos h1, if_pos h1]
  rw [if_neg h1, if_neg h1]
  by_cases h2 : f = 2
  · rw [if_pos h2, if_pos h2]
  rw [if_neg h2, if_neg h2]
  by_cases h3 : f = 3
  · rw [if_pos h3, if_pos h3]
  rw [if_neg h3, if_neg h3]
  by_cases h4 : f = 4
  · rw [if_pos h4, if_pos h4]
  rw [if_neg h4, if_neg h4]
  by_cases h5 : f = 5
  · rw [if_pos h5, if_pos h5]
  rw [if_neg h5, if_neg h5]
  by_cases h6 : f = 6
  · rw [if_pos h6, if_pos h6]
  rw [if_neg h6, if_neg h6]
  by_cases h7 : f = 7
  · rw [if_pos h7, if_pos h7]
  rw [if_neg h7, if_neg h7]
  by_cases h8 : f = 8
  · rw [if_pos h8, if_pos h8]
  rw [if_neg h8, if_neg h8]

theorem ev_l03Elements {f : Int} (h : 0 ≤ f ∧ f < 9) (l : List Int) (hl : l.length ≤ 35184372088832) : Ev (fun k => spec_l03Elements.f k f l) (elB (md f) l) := by
  have hp := pm_of h
  unfold Pm at hp
  have key : ∀ (d i : Nat), i + d = l.length → Ev (fun k => spec_l03Elements.l0 k l (md f) (i : Int)) (elB (md f) (l.drop i)) := by
    intro d
    induction d with
    | zero =>
      intro i hi
      refine ev_s ?_
      have h1 : ¬ ((i : Int) < (l.length : Int)) := by omega
      simp only [spec_l03Elements.l0, h1, if_false]
      rw [List.drop_of_length_le (by omega)]
      exact Ev.now _
    | succ d ih =>
      intro i hi
      refine ev_s ?_
      have h1 : (i : Int) < (l.length : Int) := by omega
      have h2 : (0 : Int) ≤ (i : Int) := by omega
      simp only [spec_l03Elements.l0, h1, h2, if_true, w_succ (n := i) (by omega), w64 (x := md f - 1) (by omega) (by omega), ev_l01In, Option.bind_some]
      rw [elB_drop (by omega)]
      rw [show decide (rd l (i : Int) < md f) = decide (rd l (i : Int) ≤ md f - 1) from decide_eq_decide.2 (by omega)]
      by_cases c : (decide (0 ≤ rd l (i : Int)) && decide (rd l (i : Int) ≤ md f - 1)) = true
      · simp only [c, if_true, Bool.true_and]
        exact ih (i + 1) (by omega)
      · simp only [Bool.not_eq_true] at c
        simp only [c, Bool.false_and, Bool.false_eq_true, if_false]
        exact Ev.now _
  unfold spec_l03Elements.f
  simp only [ev_Modulus, Option.bind_some]
  have h0 : ¬ (md f = 0) := by omega
  simp only [h0, if_false]
  exact key l.length 0 (by omega)
theorem ev_l03Elements_bad {f : Int} (h : ¬ (0 ≤ f ∧ f < 9)) (l : List Int) : Ev (fun k => spec_l03Elements.f k f l) false := by
  unfold spec_l03Elements.f
  simp only [ev_Modulus, Option.bind_some, md_bad h, if_true]
  exact Ev.now _

theorem ev_l01Has (m : List Int) (x : Int) (hm : m.length ≤ 35184372088832) : Ev (fun k => spec_l01Has.f k m x) (hasB m x) := by
  have key : ∀ (d i : Nat), i + d = m.length → Ev (fun k => spec_l01Has.l0 k m x (i : Int)) (hasB (m.drop i) x) := by
    intro d
    induction d with
    | zero =>
      intro i hi
      refine ev_s ?_
      have h1 : ¬ ((i : Int) < (m.length : Int)) := by omega
      simp only [spec_l01Has.l0, h1, if_false]
      rw [List.drop_of_length_le (by omega)]; exact Ev.now _
    | succ d ih =>
      intro i hi
      refine ev_s ?_
      have h1 : (i : Int) < (m.length : Int) := by omega
      have h2 : (0 : Int) ≤ (i : Int) := by omega
      rw [hasB_drop (by omega)]
      by_cases c : rd m (i : Int) = x
      · simp only [spec_l01Has.l0, h1, h2, c, if_true, decide_true, Bool.true_or]; exact Ev.now _
      · simp only [spec_l01Has.l0, h1, h2, c, if_true, if_false, decide_false, Bool.false_or, w_succ (n := i) (by omega)]
        exact ih (i + 1) (by omega)
  exact key m.length 0 (by omega)
theorem ev_PointsL (l : List Int) (hl : l.length ≤ 40) : ∀ (d i : Nat), i + d = l.length → Ev (fun k => spec_PointsOk.l0 k l (i : Int)) (allB l i d) := by
  intro d
  induction d with
  | zero =>
    intro i hi
    refine ev_s ?_
    have h1 : ¬ ((i : Int) < (l.length : Int)) := by omega
    simp only [spec_PointsOk.l0, h1, if_false]; exact Ev.now _
  | succ d ih =>
    intro i hi
    refine ev_s ?_
    have h1 : (i : Int) < (l.length : Int) := by omega
    have h2 : (0 : Int) ≤ (i : Int) := by omega
    have h3 : (i : Int) ≤ (l.length : Int) := by omega
    simp only [spec_PointsOk.l0, h1, h2, h3, if_true, Int.toNat_natCast]
    refine Ev.bind (ev_l01Has _ _ (by simp; omega)) ?_
    unfold allB
    cases hh : hasB (l.take i) (rd l (i : Int)) with
    | true => simp only [if_true, Bool.not_true, Bool.false_and]; exact Ev.now _
    | false =>
      simp only [Bool.false_eq_true, if_false, Bool.not_false, Bool.true_and, w_succ (n := i) (by omega)]
      exact ih (i + 1) (by omega)
theorem ev_PointsOk {f : Int} {l : List Int} (h : PtsOk f l) : Ev (fun k => spec_PointsOk.f k f l) true := by
  obtain ⟨hf, h1, h2, he, hp⟩ := h
  unfold spec_PointsOk.f
  simp only [ev_l01In, Option.bind_some, show decide ((1 : Int) ≤ (l.length : Int)) = true from decide_eq_true (by omega), show decide ((l.length : Int) ≤ 40) = true from decide_eq_true (by omega), Bool.and_self, if_true]
  refine Ev.bind (ev_l03Elements hf l (by omega)) ?_
  rw [elB_iff.2 he]
  refine ev_s ?_
  simp only [spec_PointsOk.j0, Bool.not_true, Bool.false_eq_true, if_false]
  exact ev_to (ev_PointsL l h2 l.length 0 (by omega)) hp
theorem ev_PointsOk_bad {f : Int} {l : List Int} (h : ¬ PtsOk f l) : Ev (fun k => spec_PointsOk.f k f l) false := by
  unfold spec_PointsOk.f
  simp only [ev_l01In, Option.bind_some]
  by_cases c : (1 : Int) ≤ (l.length : Int) ∧ (l.length : Int) ≤ 40
  · simp only [decide_eq_true c.1, decide_eq_true c.2, Bool.and_self, if_true]
    by_cases hf : 0 ≤ f ∧ f < 9
    · refine Ev.bind (ev_l03Elements hf l (by omega)) ?_
      refine ev_s ?_
      cases he : elB (md f) l with
      | true =>
        simp only [spec_PointsOk.j0, Bool.not_true, Bool.false_eq_true, if_false]
        refine ev_to (ev_PointsL l (by omega) l.length 0 (by omega)) ?_
        rw [← Bool.not_eq_true]
        intro hp
        exact h ⟨hf, by omega, by omega, elB_iff.1 he, hp⟩
      | false => simp only [spec_PointsOk.j0, Bool.not_false, if_true]; exact Ev.now _
    · refine Ev.bind (ev_l03Elements_bad hf l) ?_
      refine ev_s ?_
      simp only [spec_PointsOk.j0, Bool.not_false, if_true]; exact Ev.now _
  · have e : (decide ((1 : Int) ≤ (l.length : Int)) && decide ((l.length : Int) ≤ 40)) = false := by
      rw [← Bool.not_eq_true, Bool.and_eq_true, decide_eq_true_eq, decide_eq_true_eq]; exact c
    simp only [e, Bool.false_eq_true, if_false]
    refine ev_s ?_
    simp only [spec_PointsOk.j0, if_true]; exact Ev.now _

theorem ev_fieldOf {f : Int} (h : 0 ≤ f ∧ f < 9) : impl_fieldOf.f f = some (md f, gn f, tp f, true) := by
  rcases fcases h.1 h.2 with e | e | e | e | e | e | e | e | e <;> subst e <;> rfl
theorem ev_fieldOf_bad {f : Int} (h : ¬ (0 ≤ f ∧ f < 9)) : impl_fieldOf.f f = some (0, 0, 0, false) := by
  unfold impl_fieldOf.f
  by_cases c : f < 0
  · rw [if_pos c]
  · rw [if_neg c, if_pos (by omega)]

theorem ev_areElements (p g t : Int) (l : List Int) (hl : l.length ≤ 35184372088832) : Ev (fun k => impl_field_areElements.f k p g t l) (elB p l) := by
  have key : ∀ (d i : Nat), i + d = l.length → Ev (fun k => impl_field_areElements.l0 k l (l.length : Int) (i : Int) p g t) (elB p (l.drop i)) := by
    intro d
    induction d with
    | zero =>
      intro i hi
      refine ev_s ?_
      have h1 : ¬ ((i : Int) < (l.length : Int)) := by omega
      simp only [impl_field_areElements.l0, h1, if_false]
      rw [List.drop_of_length_le (by omega)]
      exact Ev.now _
    | succ d ih =>
      intro i hi
      refine ev_s ?_
      have h1 : (i : Int) < (l.length : Int) := by omega
      have h2 : (0 : Int) ≤ (i : Int) := by omega
      simp only [impl_field_areElements.l0, h1, h2, if_true, w_succ (n := i) (by omega)]
      rw [elB_drop (by omega)]
      by_cases c1 : rd l (i : Int) < 0
      · simp only [c1, if_true, show decide (0 ≤ rd l (i : Int)) = false from decide_eq_false (by omega), Bool.false_and]
        exact Ev.now _
      · by_cases c2 : rd l (i : Int) ≥ p
        · simp only [c1, c2, if_true, if_false, show decide (rd l (i : Int) < p) = false from decide_eq_false (by omega), Bool.false_and, Bool.and_false]
          exact Ev.now _
        · simp only [c1, c2, if_false, show decide (0 ≤ rd l (i : Int)) = true from decide_eq_true (by omega), show decide (rd l (i : Int) < p) = true from decide_eq_true (by omega), Bool.true_and]
          exact ih (i + 1) (by omega)
  exact key l.length 0 (by omega)

theorem ev_pointL {p g t : Int} (l : List Int) (hl : l.length ≤ 40) : ∀ (d i : Nat), i + d = l.length → Ev (fun k => impl_pointField.l0 k l l (l.length : Int) (i : Int) p g t) (if allB l i d then (p, g, t, true) else (0, 0, 0, false)) := by
  have inner : ∀ (i : Nat) (r : Int × Int × Int × Bool), i < l.length → ∀ (d j : Nat), j + d = (l.take i).length →
      (hasB ((l.take i).drop j) (rd l (i : Int)) = false → Ev (fun k => impl_pointField.l0 k l l (l.length : Int) ((i + 1 : Nat) : Int) p g t) r) → (hasB ((l.take i).drop j) (rd l (i : Int)) = true → r = (0, 0, 0, false)) →
      Ev (fun k => impl_pointField.l1 k l (rd l (i : Int)) l (l.length : Int) (i : Int) (l.take i) ((l.take i).length : Int) (j : Int) p g t) r := by
    intro i r hi d
    induction d with
    | zero =>
      intro j hj h1 h2
      refine ev_s ?_
      have g1 : ¬ ((j : Int) < ((l.take i).length : Int)) := by omega
      simp only [impl_pointField.l1, g1, if_false, w_succ (n := i) (by omega)]
      exact h1 (by rw [List.drop_of_length_le (by omega)]; rfl)
    | succ d ih =>
      intro j hj h1 h2
      refine ev_s ?_
      have g1 : (j : Int) < ((l.take i).length : Int) := by omega
      have g2 : (0 : Int) ≤ (j : Int) := by omega
      have hjl : j < (l.take i).length := by omega
      have hlen : (l.take i).length ≤ l.length := by rw [List.length_take]; omega
      by_cases c : rd l (i : Int) = rd (l.take i) (j : Int)
      · rw [h2 (by rw [hasB_drop hjl, decide_eq_true c.symm, Bool.true_or])]
        simp only [impl_pointField.l1, g1, g2, if_true]
        simp only [c, if_true]; exact Ev.now _
      · simp only [impl_pointField.l1, g1, g2, if_true, w_succ (n := j) (by omega)]
        simp only [c, if_false]
        have e : hasB ((l.take i).drop j) (rd l (i : Int)) = hasB ((l.take i).drop (j + 1)) (rd l (i : Int)) := by
          rw [hasB_drop hjl, decide_eq_false (fun h => c h.symm), Bool.false_or]
        rw [e] at h1 h2
        exact ih (j + 1) (by omega) h1 h2
  intro d
  induction d with
  | zero =>
    intro i hi
    refine ev_s ?_
    have h1 : ¬ ((i : Int) < (l.length : Int)) := by omega
    simp only [impl_pointField.l0, h1, if_false, allB, if_true]; exact Ev.now _
  | succ d ih =>
    intro i hi
    refine ev_s ?_
    have h1 : (i : Int) < (l.length : Int) := by omega
    have h2 : (0 : Int) ≤ (i : Int) := by omega
    have h3 : (i : Int) ≤ (l.length : Int) := by omega
    simp only [impl_pointField.l0, h1, h2, h3, if_true, Int.toNat_natCast]
    refine inner i _ (by omega) (l.take i).length 0 (by omega) ?_ ?_
    · intro hh
      rw [List.drop_zero] at hh
      unfold allB
      rw [hh]
      simp only [Bool.not_false, Bool.true_and]
      exact ih (i + 1) (by omega)
    · intro hh
      rw [List.drop_zero] at hh
      unfold allB
      rw [hh]; rfl
theorem ev_pointField {f : Int} {l : List Int} (h : PtsOk f l) : Ev (fun k => impl_pointField.f k f l) (md f, gn f, tp f, true) := by
  obtain ⟨hf, h1, h2, he, hp⟩ := h
  unfold impl_pointField.f
  have n1 : ¬ ((l.length : Int) < 1) := by omega
  have n2 : ¬ ((l.length : Int) > 40) := by omega
  simp only [ev_fieldOf hf, Option.bind_some, if_true, n1, n2, if_false]
  refine Ev.bind (ev_areElements _ _ _ l (by omega)) ?_
  rw [elB_iff.2 he]
  refine ev_s ?_
  simp only [impl_pointField.j0, Bool.not_true, Bool.false_eq_true, if_false]
  exact ev_to (ev_pointL l h2 l.length 0 (by omega)) (by rw [hp]; rfl)
theorem ev_pointField_bad {f : Int} {l : List Int} (h : ¬ PtsOk f l) : Ev (fun k => impl_pointField.f k f l) (0, 0, 0, false) := by
  unfold impl_pointField.f
  have bad : ∀ p g t : Int, Ev (fun k => impl_pointField.j0 k l true p g t) (0, 0, 0, false) := fun p g t => by
    refine ev_s ?_
    simp only [impl_pointField.j0, if_true]; exact Ev.now _
  by_cases hf : 0 ≤ f ∧ f < 9
  · simp only [ev_fieldOf hf, Option.bind_some, if_true]
    by_cases n1 : (l.length : Int) < 1
    · simp only [n1, if_true]; exact bad _ _ _
    by_cases n2 : (l.length : Int) > 40
    · simp only [n1, n2, if_true, if_false]; exact bad _ _ _
    simp only [n1, n2, if_false]
    refine Ev.bind (ev_areElements _ _ _ l (by omega)) ?_
    cases he : elB (md f) l with
    | true =>
      refine ev_s ?_
      simp only [impl_pointField.j0, Bool.not_true, Bool.false_eq_true, if_false]
      refine ev_to (ev_pointL l (by omega) l.length 0 (by omega)) ?_
      rw [if_neg]
      intro hp
      exact h ⟨hf, by omega, by omega, elB_iff.1 he, hp⟩
    | false => exact bad _ _ _
  · simp only [ev_fieldOf_bad hf, Option.bind_some, Bool.false_eq_true, if_false]; exact bad _ _ _

theorem FnExactPointsOk : laws_FnExactPointsOk.Pure := by
  intro f l hf hl hl8 hw
  refine Ev.rounds ?_
  unfold laws_FnExactPointsOk.f
  by_cases hbig : (l.length : Int) > 1048576
  · simp only [hbig, if_true]; exact Ev.now _
  simp only [hbig, if_false]
  have hll : l.length ≤ 35184372088832 := by omega
  obtain ⟨R, hR1, hR2⟩ : ∃ R, Ev (fun k => spec_PointsOk.f k f l) R ∧ Ev (fun k => impl_PointsOk.f k f l) R := by
    by_cases h : PtsOk f l
    · refine ⟨true, ev_PointsOk h, ?_⟩
      unfold impl_PointsOk.f
      refine Ev.bind (ev_pointField h) ?_
      exact Ev.now _
    · refine ⟨false, ev_PointsOk_bad h, ?_⟩
      unfold impl_PointsOk.f
      refine Ev.bind (ev_pointField_bad h) ?_
      exact Ev.now _
  repeat first
    | exact Ev.now _
    | refine Ev.bind (ev_toIntS l hll) ?_
    | refine Ev.bind hR1 ?_
    | refine Ev.bind hR2 ?_
    | refine Ev.bind (ev_eqIntS l (by omega)) ?_
    | simp only [if_true, if_false, bne_self_eq_false, Bool.false_eq_true]

end Go.Proofs.Ytcmhifpbpdbfhaa.Pure
