/- FnExactVanish returns true for every field number and list: both polynomials that are 0 just at the points are the same list. -/
import Derived.Test.YtgjogfohknjpmaaPFnExactVanishx6
import Derived.Test.YtgjogfohknjpmaaGB
import Derived.Test.YtgjogfohknjpmaaGK
set_option linter.unusedVariables false
set_option linter.unusedSimpArgs false
namespace Go.Proofs.Ytgjogfohknjpmaa.Pure
open Go.RowKit Go.Proofs.Ytgjogfohknjpmaa.PFnExactVanish Go.Proofs.YtgjogfohknjpmaaW.PrintWords Go.Proofs.YtgjogfohknjpmaaW.PrintLast Go.Proofs.YtgjogfohknjpmaaW.PrintMore G7
theorem ev_toIntS (l : List Int) (hl : l.length ≤ 35184372088832) : Ev (fun k => laws_toIntS.f k l) l := by
  have key : ∀ (d i : Nat) (out : List Int), i + d = l.length → out.length = l.length → (∀ j : Nat, j < i → rd out (j : Int) = rd l (j : Int)) → Ev (fun k => laws_toIntS.l0 k l out (i : Int)) l := by
    intro d
    induction d with
    | zero =>
      intro i out hi ho hx
      refine ev_s ?_
      have h1 : ¬ ((i : Int) < (l.length : Int)) := by omega
      simp only [laws_toIntS.l0, h1, if_false]
      rw [ext_rd ho (fun j hj => hx j (by omega))]
      exact Ev.now _
    | succ d ih =>
      intro i out hi ho hx
      refine ev_s ?_
      have h1 : (i : Int) < (l.length : Int) := by omega
      have h2 : (0 : Int) ≤ (i : Int) := by omega
      have h3 : (i : Int) < (out.length : Int) := by omega
      simp only [laws_toIntS.l0, h1, h2, h3, if_true, w_succ (n := i) (by omega), Int.toNat_natCast]
      refine ih (i + 1) _ (by omega) (by rw [List.length_set]; exact ho) (fun j hj => ?_)
      by_cases c : i = j
      · subst c; rw [rd_set_eq (by omega)]
      · rw [rd_set_ne c]; exact hx j (by omega)
  unfold laws_toIntS.f
  have h1 : (0 : Int) ≤ (l.length : Int) := by omega
  simp only [h1, if_true, Int.toNat_natCast, hl]
  exact key l.length 0 _ (by omega) (by simp) (fun j hj => by omega)

theorem ev_eqIntS (l : List Int) (hl : l.length ≤ 35184372088832) : Ev (fun k => laws_eqIntS.f k l l) true := by
  have key : ∀ (d i : Nat), i + d = l.length → Ev (fun k => laws_eqIntS.l0 k l l (i : Int)) true := by
    intro d
    induction d with
    | zero =>
      intro i hi
      refine ev_s ?_
      have h1 : ¬ ((i : Int) < (l.length : Int)) := by omega
      simp only [laws_eqIntS.l0, h1, if_false]
      exact Ev.now _
    | succ d ih =>
      intro i hi
      refine ev_s ?_
      have h1 : (i : Int) < (l.length : Int) := by omega
      have h2 : (0 : Int) ≤ (i : Int) := by omega
      simp only [laws_eqIntS.l0, h1, h2, if_true, w_succ (n := i) (by omega)]
      exact ih (i + 1) (by omega)
  unfold laws_eqIntS.f
  simp only [if_true]
  exact key l.length 0 (by omega)

/-- What markIntS leaves. -/
def marks (n : Nat) (m : Int) : List Int := (List.range n).map (fun i => m + (i : Nat))
theorem marks_len (n : Nat) (m : Int) : (marks n m).length = n := by simp [marks]
theorem marks_rd {n i : Nat} (m : Int) (h : i < n) : rd (marks n m) (i : Int) = m + i := by unfold marks; rw [rd_map _ h]
theorem ev_mark (l : List Int) (m : Int) (hl : l.length ≤ 35184372088832) (h0 : 0 ≤ m) (h1 : m ≤ 4611686018427387904) : Ev (fun k => laws_markIntS.f k l m) (m + l.length, marks l.length m) := by
  have key : ∀ (d i : Nat) (out : List Int), i + d = l.length → out.length = l.length → (∀ j : Nat, j < i → rd out (j : Int) = m + j) → Ev (fun k => laws_markIntS.l0 k out (m + i) (i : Int)) (m + l.length, marks l.length m) := by
    intro d
    induction d with
    | zero =>
      intro i out hi ho hx
      refine ev_s ?_
      have g1 : ¬ ((i : Int) < (out.length : Int)) := by omega
      simp only [laws_markIntS.l0, g1, if_false]
      have e : out = marks l.length m := ext_rd (by rw [marks_len, ho]) (fun j hj => by rw [marks_rd m (by omega)]; exact hx j (by omega))
      rw [e, show i = l.length by omega]
      exact Ev.now _
    | succ d ih =>
      intro i out hi ho hx
      refine ev_s ?_
      have g1 : (i : Int) < (out.length : Int) := by omega
      have g2 : (0 : Int) ≤ (i : Int) := by omega
      simp only [laws_markIntS.l0, g1, g2, if_true, w_succ (n := i) (by omega), Int.toNat_natCast, w64 (x := m + (i : Int) + 1) (by omega) (by omega)]
      rw [show m + (i : Int) + 1 = m + ((i + 1 : Nat) : Int) by omega]
      refine ih (i + 1) _ (by omega) (by rw [List.length_set]; exact ho) (fun j hj => ?_)
      by_cases c : i = j
      · subst c; rw [rd_set_eq (by omega)]
      · rw [rd_set_ne c]; exact hx j (by omega)
  unfold laws_markIntS.f
  have := key l.length 0 l (by omega) rfl (fun j hj => by omega)
  simpa using this
theorem ev_held (n : Nat) (m : Int) (hl : n ≤ 35184372088832) (h0 : 0 ≤ m) (h1 : m ≤ 4611686018427387904) : Ev (fun k => laws_heldIntS.f k (marks n m) m) (m + n) := by
  have key : ∀ (d i : Nat), i + d = n → Ev (fun k => laws_heldIntS.l0 k (marks n m) (m + i) (i : Int)) (m + n) := by
    intro d
    induction d with
    | zero =>
      intro i hi
      refine ev_s ?_
      have g1 : ¬ ((i : Int) < ((marks n m).length : Int)) := by rw [marks_len]; omega
      simp only [laws_heldIntS.l0, g1, if_false]
      rw [show i = n by omega]
      exact Ev.now _
    | succ d ih =>
      intro i hi
      refine ev_s ?_
      have g1 : (i : Int) < ((marks n m).length : Int) := by rw [marks_len]; omega
      have g2 : (0 : Int) ≤ (i : Int) := by omega
      simp only [laws_heldIntS.l0, g1, g2, if_true, marks_rd m (show i < n by omega), w_succ (n := i) (by omega), w64 (x := m + (i : Int) + 1) (by omega) (by omega)]
      rw [show m + (i : Int) + 1 = m + ((i + 1 : Nat) : Int) by omega]
      exact ih (i + 1) (by omega)
  unfold laws_heldIntS.f
  have := key n 0 (by omega)
  simpa using this

def hasB (m : List Int) (x : Int) : Bool := m.any (fun y => decide (y = x))
theorem hasB_drop {l : List Int} {x : Int} {i : Nat} (h : i < l.length) : hasB (l.drop i) x = (decide (rd l (i : Int) = x) || hasB (l.drop (i + 1)) x) := by
  rw [drop_cons h]; rfl
def allB (l : List Int) : Nat → Nat → Bool
  | _, 0 => true
  | i, d + 1 => !hasB (l.take i) (rd l (i : Int)) && allB l (i + 1) d
/-- Points of a field. -/
def PtsOk (f : Int) (l : List Int) : Prop := (0 ≤ f ∧ f < 9) ∧ 1 ≤ l.length ∧ l.length ≤ 40 ∧ El (md f) l ∧ allB l 0 l.length = true

theorem ev_l01In (x a b : Int) : spec_l01In.f x a b = some (decide (a ≤ x) && decide (x ≤ b)) := by
  unfold spec_l01In.f
  by_cases h : a ≤ x
  · rw [if_pos h, decide_eq_true h, Bool.true_and]
  · rw [if_neg h, decide_eq_false h, Bool.false_and]

theorem ev_Modulus (f : Int) : spec_Modulus.f f = some (md f) := by
  unfold spec_Modulus.f md
  by_cases h0 : f = 0
  · rw [if_pos h0, if_pos h0]
  rw [if_neg h0, if_neg h0]
  by_cases h1 : f = 1
  · rw [if_pos h1, if_pos h1]
  rw [if_neg h1, if_neg h1]
  by_cases h2 : f = 2
  · rw [if_pos h2, if_pos h2]
  rw [if_neg h2, if_neg h2]
  by_cases h3 : f = 3
  · rw [if_pos h3, if_pos h3]
  rw [if_neg h3, if_neg h3]
  by_cases h4 : f = 4
  · rw [if_pos h4, if_pos h4]
  rw [if_neg h4, if_neg h4]
  by_cases h5 : f = 5
  · rw [if_pos h5, if_pos h5]
  rw [if_neg h5, if_neg h5]
  by_cases h6 : f = 6
  · rw [if_pos h6, if_pos h6]
  rw [if_neg h6, if_neg h6]
  by_cases h7 : f = 7
  · rw [if_pos h7, if_pos h7]
  rw [if_neg h7, if_neg h7]
  by_cases h8 : f = 8
  · rw [if_pos h8, if_pos h8]
  rw [if_neg h8, if_neg h8]

theorem ev_l03Elements {f : Int} (h : 0 ≤ f ∧ f < 9) (l : List Int) (hl : l.length ≤ 35184372088832) : Ev (fun k => spec_l03Elements.f k f l) (elB (md f) l) := by
  have hp := pm_of h
  unfold Pm at hp
  have key : ∀ (d i : Nat), i + d = l.length → Ev (fun k => spec_l03Elements.l0 k l (md f) (i : Int)) (elB (md f) (l.drop i)) := by
    intro d
    induction d with
    | zero =>
      intro i hi
      refine ev_s ?_
      have h1 : ¬ ((i : Int) < (l.length : Int)) := by omega
      simp only [spec_l03Elements.l0, h1, if_false]
      rw [List.drop_of_length_le (by omega)]
      exact Ev.now _
    | succ d ih =>
      intro i hi
      refine ev_s ?_
      have h1 : (i : Int) < (l.length : Int) := by omega
      have h2 : (0 : Int) ≤ (i : Int) := by omega
      simp only [spec_l03Elements.l0, h1, h2, if_true, w_succ (n := i) (by omega), w64 (x := md f - 1) (by omega) (by omega), ev_l01In, Option.bind_some]
      rw [elB_drop (by omega)]
      rw [show decide (rd l (i : Int) < md f) = decide (rd l (i : Int) ≤ md f - 1) from decide_eq_decide.2 (by omega)]
      by_cases c : (decide (0 ≤ rd l (i : Int)) && decide (rd l (i : Int) ≤ md f - 1)) = true
      · simp only [c, if_true, Bool.true_and]
        exact ih (i + 1) (by omega)
      · simp only [Bool.not_eq_true] at c
        simp only [c, Bool.false_and, Bool.false_eq_true, if_false]
        exact Ev.now _
  unfold spec_l03Elements.f
  simp only [ev_Modulus, Option.bind_some]
  have h0 : ¬ (md f = 0) := by omega
  simp only [h0, if_false]
  exact key l.length 0 (by omega)
theorem ev_l03Elements_bad {f : Int} (h : ¬ (0 ≤ f ∧ f < 9)) (l : List Int) : Ev (fun k => spec_l03Elements.f k f l) false := by
  unfold spec_l03Elements.f
  simp only [ev_Modulus, Option.bind_some, md_bad h, if_true]
  exact Ev.now _

theorem ev_l01Has (m : List Int) (x : Int) (hm : m.length ≤ 35184372088832) : Ev (fun k => spec_l01Has.f k m x) (hasB m x) := by
  have key : ∀ (d i : Nat), i + d = m.length → Ev (fun k => spec_l01Has.l0 k m x (i : Int)) (hasB (m.drop i) x) := by
    intro d
    induction d with
    | zero =>
      intro i hi
      refine ev_s ?_
      have h1 : ¬ ((i : Int) < (m.length : Int)) := by omega
      simp only [spec_l01Has.l0, h1, if_false]
      rw [List.drop_of_length_le (by omega)]; exact Ev.now _
    | succ d ih =>
      intro i hi
      refine ev_s ?_
      have h1 : (i : Int) < (m.length : Int) := by omega
      have h2 : (0 : Int) ≤ (i : Int) := by omega
      rw [hasB_drop (by omega)]
      by_cases c : rd m (i : Int) = x
      · simp only [spec_l01Has.l0, h1, h2, c, if_true, decide_true, Bool.true_or]; exact Ev.now _
      · simp only [spec_l01Has.l0, h1, h2, c, if_true, if_false, decide_false, Bool.false_or, w_succ (n := i) (by omega)]
        exact ih (i + 1) (by omega)
  exact key m.length 0 (by omega)
theorem ev_PointsL (l : List Int) (hl : l.length ≤ 40) : ∀ (d i : Nat), i + d = l.length → Ev (fun k => spec_PointsOk.l0 k l (i : Int)) (allB l i d) := by
  intro d
  induction d with
  | zero =>
    intro i hi
    refine ev_s ?_
    have h1 : ¬ ((i : Int) < (l.length : Int)) := by omega
    simp only [spec_PointsOk.l0, h1, if_false]; exact Ev.now _
  | succ d ih =>
    intro i hi
    refine ev_s ?_
    have h1 : (i : Int) < (l.length : Int) := by omega
    have h2 : (0 : Int) ≤ (i : Int) := by omega
    have h3 : (i : Int) ≤ (l.length : Int) := by omega
    simp only [spec_PointsOk.l0, h1, h2, h3, if_true, Int.toNat_natCast]
    refine Ev.bind (ev_l01Has _ _ (by simp; omega)) ?_
    unfold allB
    cases hh : hasB (l.take i) (rd l (i : Int)) with
    | true => simp only [if_true, Bool.not_true, Bool.false_and]; exact Ev.now _
    | false =>
      simp only [Bool.false_eq_true, if_false, Bool.not_false, Bool.true_and, w_succ (n := i) (by omega)]
      exact ih (i + 1) (by omega)
theorem ev_PointsOk {f : Int} {l : List Int} (h : PtsOk f l) : Ev (fun k => spec_PointsOk.f k f l) true := by
  obtain ⟨hf, h1, h2, he, hp⟩ := h
  unfold spec_PointsOk.f
  simp only [ev_l01In, Option.bind_some, show decide ((1 : Int) ≤ (l.length : Int)) = true from decide_eq_true (by omega), show decide ((l.length : Int) ≤ 40) = true from decide_eq_true (by omega), Bool.and_self, if_true]
  refine Ev.bind (ev_l03Elements hf l (by omega)) ?_
  rw [elB_iff.2 he]
  refine ev_s ?_
  simp only [spec_PointsOk.j0, Bool.not_true, Bool.false_eq_true, if_false]
  exact ev_to (ev_PointsL l h2 l.length 0 (by omega)) hp
theorem ev_PointsOk_bad {f : Int} {l : List Int} (h : ¬ PtsOk f l) : Ev (fun k => spec_PointsOk.f k f l) false := by
  unfold spec_PointsOk.f
  simp only [ev_l01In, Option.bind_some]
  by_cases c : (1 : Int) ≤ (l.length : Int) ∧ (l.length : Int) ≤ 40
  · simp only [decide_eq_true c.1, decide_eq_true c.2, Bool.and_self, if_true]
    by_cases hf : 0 ≤ f ∧ f < 9
    · refine Ev.bind (ev_l03Elements hf l (by omega)) ?_
      refine ev_s ?_
      cases he : elB (md f) l with
      | true =>
        simp only [spec_PointsOk.j0, Bool.not_true, Bool.false_eq_true, if_false]
        refine ev_to (ev_PointsL l (by omega) l.length 0 (by omega)) ?_
        rw [← Bool.not_eq_true]
        intro hp
        exact h ⟨hf, by omega, by omega, elB_iff.1 he, hp⟩
      | false => simp only [spec_PointsOk.j0, Bool.not_false, if_true]; exact Ev.now _
    · refine Ev.bind (ev_l03Elements_bad hf l) ?_
      refine ev_s ?_
      simp only [spec_PointsOk.j0, Bool.not_false, if_true]; exact Ev.now _
  · have e : (decide ((1 : Int) ≤ (l.length : Int)) && decide ((l.length : Int) ≤ 40)) = false := by
      rw [← Bool.not_eq_true, Bool.and_eq_true, decide_eq_true_eq, decide_eq_true_eq]; exact c
    simp only [e, Bool.false_eq_true, if_false]
    refine ev_s ?_
    simp only [spec_PointsOk.j0, if_true]; exact Ev.now _

theorem ev_fieldOf {f : Int} (h : 0 ≤ f ∧ f < 9) : impl_fieldOf.f f = some (md f, gn f, tp f, true) := by
  rcases fcases h.1 h.2 with e | e | e | e | e | e | e | e | e <;> subst e <;> rfl
theorem ev_fieldOf_bad {f : Int} (h : ¬ (0 ≤ f ∧ f < 9)) : impl_fieldOf.f f = some (0, 0, 0, false) := by
  unfold impl_fieldOf.f
  by_cases c : f < 0
  · rw [if_pos c]
  · rw [if_neg c, if_pos (by omega)]

theorem ev_areElements (p g t : Int) (l : List Int) (hl : l.length ≤ 35184372088832) : Ev (fun k => impl_field_areElements.f k p g t l) (elB p l) := by
  have key : ∀ (d i : Nat), i + d = l.length → Ev (fun k => impl_field_areElements.l0 k l (l.length : Int) (i : Int) p g t) (elB p (l.drop i)) := by
    intro d
    induction d with
    | zero =>
      intro i hi
      refine ev_s ?_
      have h1 : ¬ ((i : Int) < (l.length : Int)) := by omega
      simp only [impl_field_areElements.l0, h1, if_false]
      rw [List.drop_of_length_le (by omega)]
      exact Ev.now _
    | succ d ih =>
      intro i hi
      refine ev_s ?_
      have h1 : (i : Int) < (l.length : Int) := by omega
      have h2 : (0 : Int) ≤ (i : Int) := by omega
      simp only [impl_field_areElements.l0, h1, h2, if_true, w_succ (n := i) (by omega)]
      rw [elB_drop (by omega)]
      by_cases c1 : rd l (i : Int) < 0
      · simp only [c1, if_true, show decide (0 ≤ rd l (i : Int)) = false from decide_eq_false (by omega), Bool.false_and]
        exact Ev.now _
      · by_cases c2 : rd l (i : Int) ≥ p
        · simp only [c1, c2, if_true, if_false, show decide (rd l (i : Int) < p) = false from decide_eq_false (by omega), Bool.false_and, Bool.and_false]
          exact Ev.now _
        · simp only [c1, c2, if_false, show decide (0 ≤ rd l (i : Int)) = true from decide_eq_true (by omega), show decide (rd l (i : Int) < p) = true from decide_eq_true (by omega), Bool.true_and]
          exact ih (i + 1) (by omega)
  exact key l.length 0 (by omega)

theorem ev_pointL {p g t : Int} (l : List Int) (hl : l.length ≤ 40) : ∀ (d i : Nat), i + d = l.length → Ev (fun k => impl_pointField.l0 k l l (l.length : Int) (i : Int) p g t) (if allB l i d then (p, g, t, true) else (0, 0, 0, false)) := by
  have inner : ∀ (i : Nat) (r : Int × Int × Int × Bool), i < l.length → ∀ (d j : Nat), j + d = (l.take i).length →
      (hasB ((l.take i).drop j) (rd l (i : Int)) = false → Ev (fun k => impl_pointField.l0 k l l (l.length : Int) ((i + 1 : Nat) : Int) p g t) r) → (hasB ((l.take i).drop j) (rd l (i : Int)) = true → r = (0, 0, 0, false)) →
      Ev (fun k => impl_pointField.l1 k l (rd l (i : Int)) l (l.length : Int) (i : Int) (l.take i) ((l.take i).length : Int) (j : Int) p g t) r := by
    intro i r hi d
    induction d with
    | zero =>
      intro j hj h1 h2
      refine ev_s ?_
      have g1 : ¬ ((j : Int) < ((l.take i).length : Int)) := by omega
      simp only [impl_pointField.l1, g1, if_false, w_succ (n := i) (by omega)]
      exact h1 (by rw [List.drop_of_length_le (by omega)]; rfl)
    | succ d ih =>
      intro j hj h1 h2
      refine ev_s ?_
      have g1 : (j : Int) < ((l.take i).length : Int) := by omega
      have g2 : (0 : Int) ≤ (j : Int) := by omega
      have hjl : j < (l.take i).length := by omega
      have hlen : (l.take i).length ≤ l.length := by rw [List.length_take]; omega
      by_cases c : rd l (i : Int) = rd (l.take i) (j : Int)
      · rw [h2 (by rw [hasB_drop hjl, decide_eq_true c.symm, Bool.true_or])]
        simp only [impl_pointField.l1, g1, g2, if_true]
        simp only [c, if_true]; exact Ev.now _
      · simp only [impl_pointField.l1, g1, g2, if_true, w_succ (n := j) (by omega)]
        simp only [c, if_false]
        have e : hasB ((l.take i).drop j) (rd l (i : Int)) = hasB ((l.take i).drop (j + 1)) (rd l (i : Int)) := by
          rw [hasB_drop hjl, decide_eq_false (fun h => c h.symm), Bool.false_or]
        rw [e] at h1 h2
        exact ih (j + 1) (by omega) h1 h2
  intro d
  induction d with
  | zero =>
    intro i hi
    refine ev_s ?_
    have h1 : ¬ ((i : Int) < (l.length : Int)) := by omega
    simp only [impl_pointField.l0, h1, if_false, allB, if_true]; exact Ev.now _
  | succ d ih =>
    intro i hi
    refine ev_s ?_
    have h1 : (i : Int) < (l.length : Int) := by omega
    have h2 : (0 : Int) ≤ (i : Int) := by omega
    have h3 : (i : Int) ≤ (l.length : Int) := by omega
    simp only [impl_pointField.l0, h1, h2, h3, if_true, Int.toNat_natCast]
    refine inner i _ (by omega) (l.take i).length 0 (by omega) ?_ ?_
    · intro hh
      rw [List.drop_zero] at hh
      unfold allB
      rw [hh]
      simp only [Bool.not_false, Bool.true_and]
      exact ih (i + 1) (by omega)
    · intro hh
      rw [List.drop_zero] at hh
      unfold allB
      rw [hh]; rfl
theorem ev_pointField {f : Int} {l : List Int} (h : PtsOk f l) : Ev (fun k => impl_pointField.f k f l) (md f, gn f, tp f, true) := by
  obtain ⟨hf, h1, h2, he, hp⟩ := h
  unfold impl_pointField.f
  have n1 : ¬ ((l.length : Int) < 1) := by omega
  have n2 : ¬ ((l.length : Int) > 40) := by omega
  simp only [ev_fieldOf hf, Option.bind_some, if_true, n1, n2, if_false]
  refine Ev.bind (ev_areElements _ _ _ l (by omega)) ?_
  rw [elB_iff.2 he]
  refine ev_s ?_
  simp only [impl_pointField.j0, Bool.not_true, Bool.false_eq_true, if_false]
  exact ev_to (ev_pointL l h2 l.length 0 (by omega)) (by rw [hp]; rfl)
theorem ev_pointField_bad {f : Int} {l : List Int} (h : ¬ PtsOk f l) : Ev (fun k => impl_pointField.f k f l) (0, 0, 0, false) := by
  unfold impl_pointField.f
  have bad : ∀ p g t : Int, Ev (fun k => impl_pointField.j0 k l true p g t) (0, 0, 0, false) := fun p g t => by
    refine ev_s ?_
    simp only [impl_pointField.j0, if_true]; exact Ev.now _
  by_cases hf : 0 ≤ f ∧ f < 9
  · simp only [ev_fieldOf hf, Option.bind_some, if_true]
    by_cases n1 : (l.length : Int) < 1
    · simp only [n1, if_true]; exact bad _ _ _
    by_cases n2 : (l.length : Int) > 40
    · simp only [n1, n2, if_true, if_false]; exact bad _ _ _
    simp only [n1, n2, if_false]
    refine Ev.bind (ev_areElements _ _ _ l (by omega)) ?_
    cases he : elB (md f) l with
    | true =>
      refine ev_s ?_
      simp only [impl_pointField.j0, Bool.not_true, Bool.false_eq_true, if_false]
      refine ev_to (ev_pointL l (by omega) l.length 0 (by omega)) ?_
      rw [if_neg]
      intro hp
      exact h ⟨hf, by omega, by omega, elB_iff.1 he, hp⟩
    | false => exact bad _ _ _
  · simp only [ev_fieldOf_bad hf, Option.bind_some, Bool.false_eq_true, if_false]; exact bad _ _ _

theorem ev_l01Copy (l : List Int) (hl : l.length ≤ 17592186044416) : Ev (fun k => spec_l01Copy.f k l) l := by
  have key : ∀ (d i : Nat), i + d = l.length → Ev (fun k => spec_l01Copy.l0 k l (l.take i) (i : Int)) l := by
    intro d
    induction d with
    | zero =>
      intro i hi
      refine ev_s ?_
      have g1 : ¬ ((i : Int) < (l.length : Int)) := by omega
      simp only [spec_l01Copy.l0, g1, if_false]
      rw [List.take_of_length_le (by omega)]; exact Ev.now _
    | succ d ih =>
      intro i hi
      refine ev_s ?_
      have g1 : (i : Int) < (l.length : Int) := by omega
      have g2 : (0 : Int) ≤ (i : Int) := by omega
      have g3 : (l.take i).length < 17592186044416 := by rw [List.length_take]; omega
      simp only [spec_l01Copy.l0, g1, g2, g3, if_true, w_succ (n := i) (by omega)]
      rw [rd_at (show i < l.length by omega), List.take_append_getElem (show i < l.length by omega)]
      exact ih (i + 1) (by omega)
  exact key l.length 0 (by omega)

theorem ev_l03Cut (l : List Int) (hl : l.length ≤ 100000) : Ev (fun k => spec_l03Cut.f k l) (cutS l) := by
  have key : ∀ n, n ≤ l.length → Ev (fun k => spec_l03Cut.l0 k l (n : Int)) (cutN l n) := by
    intro n
    induction n with
    | zero =>
      intro hn
      refine ev_s ?_
      have g1 : ¬ (((0 : Nat) : Int) > 0) := by omega
      have g2 : (0 : Int) ≤ ((0 : Nat) : Int) := by omega
      have g3 : ((0 : Nat) : Int) ≤ (l.length : Int) := by omega
      simp only [spec_l03Cut.l0, g1, g2, g3, if_true, if_false, Int.toNat_natCast]
      refine Ev.bind (ev_l01Copy _ (by simp)) ?_
      exact Ev.now _
    | succ n ih =>
      intro hn
      refine ev_s ?_
      have g1 : ((n + 1 : Nat) : Int) > 0 := by omega
      have ew : wrap64 (((n + 1 : Nat) : Int) - 1) = (n : Int) := by rw [w64 (by omega) (by omega)]; omega
      have g2 : (0 : Int) ≤ (n : Int) := by omega
      have g3 : (n : Int) < (l.length : Int) := by omega
      unfold cutN
      by_cases c : rd l (n : Int) = 0
      · simp only [spec_l03Cut.l0, g1, ew, g2, g3, c, if_true]
        exact ih (by omega)
      · have g4 : (0 : Int) ≤ ((n + 1 : Nat) : Int) := by omega
        have g5 : ((n + 1 : Nat) : Int) ≤ (l.length : Int) := by omega
        simp only [spec_l03Cut.l0, g1, ew, g2, g3, g4, g5, c, if_true, if_false, Int.toNat_natCast]
        refine Ev.bind (ev_l01Copy _ (by simp; omega)) ?_
        exact Ev.now _
  exact key l.length (Nat.le_refl _)

theorem ev_trimmed (l : List Int) (hl : l.length ≤ 100000) : Ev (fun k => impl_trimmed.f k l) (cutS l) := by
  have key : ∀ n, n ≤ l.length → Ev (fun k => impl_trimmed.l0 k (l.take n)) (cutN l n) := by
    intro n
    induction n with
    | zero =>
      intro hn
      refine ev_s ?_
      have g1 : ¬ (((l.take 0).length : Int) > 0) := by simp
      simp only [impl_trimmed.l0, g1, if_false]; exact Ev.now _
    | succ n ih =>
      intro hn
      refine ev_s ?_
      have hlen : (l.take (n + 1)).length = n + 1 := by rw [List.length_take]; omega
      have g1 : ((l.take (n + 1)).length : Int) > 0 := by omega
      have ew : wrap64 (((l.take (n + 1)).length : Int) - 1) = (n : Int) := by rw [hlen, w64 (by omega) (by omega)]; omega
      have g2 : (0 : Int) ≤ (n : Int) := by omega
      have g3 : (n : Int) < ((l.take (n + 1)).length : Int) := by omega
      have g4 : (n : Int) ≤ ((l.take (n + 1)).length : Int) := by omega
      have er : rd (l.take (n + 1)) (n : Int) = rd l (n : Int) := rd_take (by omega)
      unfold cutN
      by_cases c : rd l (n : Int) = 0
      · simp only [impl_trimmed.l0, g1, ew, g2, g3, g4, er, c, if_true, Int.toNat_natCast]
        rw [List.take_take, show min n (n + 1) = n by omega]
        exact ih (by omega)
      · simp only [impl_trimmed.l0, g1, ew, g2, g3, er, c, if_true, if_false]; exact Ev.now _
  unfold impl_trimmed.f
  have := key l.length (Nat.le_refl _)
  rw [List.take_length] at this
  exact this

def rawS (p : Int) (a b : List Int) : List Int := (List.range (a.length + b.length - 1)).map (fun c => pc a b c % p)
theorem rawS_len (p : Int) (a b : List Int) : (rawS p a b).length = a.length + b.length - 1 := by simp [rawS]
def mpS (p : Int) (a b : List Int) : List Int := if a.length = 0 ∨ b.length = 0 then [] else cutS (rawS p a b)
theorem mpS_len (p : Int) (a b : List Int) : (mpS p a b).length ≤ a.length + b.length := by
  unfold mpS; split
  · simp
  · have h := cutN_len (rawS p a b) (rawS p a b).length
    rw [rawS_len] at h
    unfold cutS
    rw [rawS_len]; omega
theorem mpS_rd (p : Int) (a b : List Int) (c : Nat) : rd (mpS p a b) (c : Int) = pc a b c % p := by
  unfold mpS
  by_cases h : a.length = 0 ∨ b.length = 0
  · rw [if_pos h]
    have : pc a b c = 0 := by
      rcases h with h | h
      · unfold pc; exact sm_nil (fun i hi => tm_a (by omega))
      · unfold pc; exact sm_nil (fun i hi => tm_b (by omega))
    rw [this, Int.zero_emod]; exact rd_out (by simp)
  · rw [if_neg h, cutS_rd]
    by_cases h2 : c < a.length + b.length - 1
    · unfold rawS; rw [rd_map _ h2]
    · rw [rd_out (by rw [rawS_len]; omega), pc_out (by omega) (by omega), Int.zero_emod]
theorem ev_mulPoly {p : Int} (hp : Pm p) (g t : Int) {a b : List Int} (h1 : a.length ≤ 400) (h2 : b.length ≤ 400) (ha : El p a) (hb : El p b) : Ev (fun k => impl_field_mulPoly.f k p g t a b) (mpS p a b) := by
  have hpp := hp
  unfold Pm at hpp
  unfold impl_field_mulPoly.f
  by_cases ca : (a.length : Int) = 0
  · simp only [ca, if_true]
    refine ev_s ?_
    simp only [impl_field_mulPoly.j0, if_true]
    unfold mpS
    rw [if_pos (by omega)]; exact Ev.now _
  by_cases cb : (b.length : Int) = 0
  · simp only [ca, if_false, cb]
    refine ev_s ?_
    simp only [impl_field_mulPoly.j0, beq_self_eq_true, if_true]
    unfold mpS
    rw [if_pos (by omega)]; exact Ev.now _
  have cb' : ((b.length : Int) == 0) = false := by rw [← Bool.not_eq_true, beq_iff_eq]; exact cb
  simp only [ca, if_false, cb']
  obtain ⟨N, hN⟩ : ∃ N, N = a.length + b.length - 1 := ⟨_, rfl⟩
  have ew : wrap64 (wrap64 ((a.length : Int) + (b.length : Int)) - 1) = (N : Int) := by
    rw [w64 (x := (a.length : Int) + (b.length : Int)) (by omega) (by omega), w64 (by omega) (by omega)]; omega
  refine ev_s ?_
  have g1 : (0 : Int) ≤ (N : Int) := by omega
  simp only [impl_field_mulPoly.j0, Bool.false_eq_true, if_false, ew, g1, if_true, Int.toNat_natCast, show N ≤ 35184372088832 from by omega]
  clear ew
  have emp : mpS p a b = cutS (rawS p a b) := by unfold mpS; rw [if_neg (by omega)]
  rw [emp]
  have inner : ∀ (d j i : Nat) (out : List Int) (r : List Int), j + d = b.length → i < a.length → out.length = N → (∀ c : Nat, c < N → rd out (c : Int) = scat a b i j c % p) →
      (∀ out' : List Int, out'.length = N → (∀ c : Nat, c < N → rd out' (c : Int) = sm (i + 1) (tm a b c) % p) → Ev (fun k => impl_field_mulPoly.l0 k b out' a (a.length : Int) ((i + 1 : Nat) : Int) p g t) r) →
      Ev (fun k => impl_field_mulPoly.l1 k b out (i : Int) (rd a (i : Int)) a (a.length : Int) (i : Int) b (b.length : Int) (j : Int) p g t) r := by
    intro d
    induction d with
    | zero =>
      intro j i out r hj hi ho hx hr
      refine ev_s ?_
      have g1 : ¬ ((j : Int) < (b.length : Int)) := by omega
      simp only [impl_field_mulPoly.l1, g1, if_false, w_succ (n := i) (by omega)]
      exact hr out ho (fun c hc => by rw [hx c hc, scat_row (Or.inl (by omega))])
    | succ d ih =>
      intro j i out r hj hi ho hx hr
      refine ev_s ?_
      have g0 : (j : Int) < (b.length : Int) := by omega
      have g00 : (0 : Int) ≤ (j : Int) := by omega
      have g2 : (0 : Int) ≤ ((i + j : Nat) : Int) := by omega
      have g3 : ((i + j : Nat) : Int) < (out.length : Int) := by omega
      have g6 : ¬ (p = 0) := by omega
      have hj9 : j < 9223372036854775807 := by omega
      have hai := ha.rd hp.pos (i : Int)
      have hbj := hb.rd hp.pos (j : Int)
      have hm := mul_lt_big hai.1 hai.2 hbj.1 hbj.2 hpp.2
      have ho1 := hx (i + j) (by omega)
      have ho2 := em_lt (a := scat a b i j (i + j)) hp.pos
      have ei : wrap64 ((i : Int) + (j : Int)) = ((i + j : Nat) : Int) := by rw [w64 (by omega) (by omega)]; omega
      have ev : Int.tmod (wrap64 (rd out ((i + j : Nat) : Int) + wrap64 (rd a (i : Int) * rd b (j : Int)))) p = scat a b i (j + 1) (i + j) % p := by
        rw [w64 (x := rd a (i : Int) * rd b (j : Int)) (by omega) (by omega), ho1, w64 (by omega) (by omega), tmod_nn (by omega), eadd_l, scat_hit]
      simp only [impl_field_mulPoly.l1, g0, g00, ei, g2, g3, g6, if_true, if_false, ev, w_succ (n := j) hj9, Int.toNat_natCast]
      clear ev ei
      refine ih (j + 1) i _ r (by omega) hi (by rw [List.length_set]; exact ho) (fun c hc => ?_) hr
      by_cases e : i + j = c
      · subst e; rw [rd_set_eq (by omega)]
      · rw [rd_set_ne e, hx c hc, scat_miss (by omega)]
  have outer : ∀ (d i : Nat) (out : List Int), i + d = a.length → out.length = N → (∀ c : Nat, c < N → rd out (c : Int) = sm i (tm a b c) % p) → Ev (fun k => impl_field_mulPoly.l0 k b out a (a.length : Int) (i : Int) p g t) (cutS (rawS p a b)) := by
    intro d
    induction d with
    | zero =>
      intro i out hi ho hx
      refine ev_s ?_
      have g1 : ¬ ((i : Int) < (a.length : Int)) := by omega
      simp only [impl_field_mulPoly.l0, g1, if_false]
      have e : out = rawS p a b := by
        unfold rawS
        rw [← hN]
        exact set_map_rd ho (fun c hc => by rw [hx c hc, show i = a.length by omega, pc_of_len])
      rw [e]
      refine Ev.bind (ev_trimmed _ (by rw [rawS_len]; omega)) ?_
      exact Ev.now _
    | succ d ih =>
      intro i out hi ho hx
      refine ev_s ?_
      have g1 : (i : Int) < (a.length : Int) := by omega
      have g2 : (0 : Int) ≤ (i : Int) := by omega
      simp only [impl_field_mulPoly.l0, g1, g2, if_true]
      exact inner b.length 0 i out _ (by omega) (by omega) ho (fun c hc => by rw [hx c hc, scat_start]) (fun out' ho' hx' => ih (i + 1) out' (by omega) ho' hx')
  exact outer a.length 0 _ (by omega) (by simp) (fun c _ => by rw [rd_rep, sm_zero, Int.zero_emod])

theorem mpS_el {p : Int} (hp : 0 < p) (a b : List Int) : El p (mpS p a b) := by
  unfold mpS; split
  · exact El.nil
  · exact cutN_el (El.map (fun i _ => em_lt hp)) _
theorem ev_l03Mul {f : Int} (hf : 0 ≤ f ∧ f < 9) {a b : List Int} (h1 : a.length ≤ 400) (h2 : b.length ≤ 400) (ha : El (md f) a) (hb : El (md f) b) : Ev (fun k => spec_l03Mul.f k f a b) (mpS (md f) a b) := by
  have hp := pm_of hf
  have hpp := hp
  unfold Pm at hpp
  unfold spec_l03Mul.f
  simp only [ev_Modulus, Option.bind_some]
  generalize md f = p at *
  by_cases ca : (a.length : Int) = 0
  · simp only [ca, if_true]
    refine ev_s ?_
    simp only [spec_l03Mul.j0, if_true]
    unfold mpS
    rw [if_pos (by omega)]; exact Ev.now _
  by_cases cb : (b.length : Int) = 0
  · simp only [ca, if_false, cb]
    refine ev_s ?_
    simp only [spec_l03Mul.j0, beq_self_eq_true, if_true]
    unfold mpS
    rw [if_pos (by omega)]; exact Ev.now _
  have cb' : ((b.length : Int) == 0) = false := by rw [← Bool.not_eq_true, beq_iff_eq]; exact cb
  simp only [ca, if_false, cb']
  obtain ⟨N, hN⟩ : ∃ N, N = a.length + b.length - 1 := ⟨_, rfl⟩
  have ew : ∀ _ : Unit, wrap64 (wrap64 ((a.length : Int) + (b.length : Int)) - 1) = (N : Int) := fun _ => by
    rw [w64 (x := (a.length : Int) + (b.length : Int)) (by omega) (by omega), w64 (by omega) (by omega)]; omega
  refine ev_s ?_
  simp only [spec_l03Mul.j0, Bool.false_eq_true, if_false]
  have emp : mpS p a b = cutS (rawS p a b) := by unfold mpS; rw [if_neg (by omega)]
  rw [emp]
  have hend : ∀ c i : Nat, i = min (c + 1) a.length → sm i (tm a b c) = pc a b c := fun c i hi => by
    by_cases h : c + 1 ≤ a.length
    · rw [show i = c + 1 by omega]; rfl
    · rw [show i = a.length by omega, pc_of_len]
  have inner : ∀ (c : Nat), c < N → ∀ (d i : Nat) (out r : List Int), i + d = min (c + 1) a.length → out.length ≤ 1000 →
      Ev (fun k => spec_l03Mul.l0 k a b p (out ++ [pc a b c % p]) ((c + 1 : Nat) : Int)) r → Ev (fun k => spec_l03Mul.l1 k a b p out (c : Int) (sm i (tm a b c) % p) (i : Int)) r := by
    intro c hc d
    have ewc : ∀ _ : Unit, wrap64 ((c : Int) + 1) = ((c + 1 : Nat) : Int) := fun _ => w_succ (n := c) (by omega)
    induction d with
    | zero =>
      intro i out r hi ho hr
      have hfin : Ev (fun k => spec_l03Mul.j3 k a b p out (c : Int) (sm i (tm a b c) % p) (i : Int) false) r := by
        refine ev_s ?_
        have g3 : out.length < 17592186044416 := by omega
        simp only [spec_l03Mul.j3, Bool.false_eq_true, if_false, g3, if_true, ewc ()]
        rw [hend c i (by omega)]
        exact hr
      refine ev_s ?_
      by_cases g1 : (i : Int) ≤ (c : Int)
      · have g2 : ¬ ((i : Int) < (a.length : Int)) := by omega
        simp only [spec_l03Mul.l1, g1, if_true, decide_eq_false g2]; exact hfin
      · simp only [spec_l03Mul.l1, g1, if_false]; exact hfin
    | succ d ih =>
      intro i out r hi ho hr
      have hn := ih (i + 1) out r (by omega) ho hr
      have g1 : (i : Int) ≤ (c : Int) := by omega
      have g2 : (i : Int) < (a.length : Int) := by omega
      have g0 : (0 : Int) ≤ (i : Int) := by omega
      have ewi : ∀ _ : Unit, wrap64 ((i : Int) + 1) = ((i + 1 : Nat) : Int) := fun _ => w_succ (n := i) (by omega)
      have ewd : ∀ _ : Unit, wrap64 ((c : Int) - (i : Int)) = ((c - i : Nat) : Int) := fun _ => by rw [w64 (by omega) (by omega)]; omega
      refine ev_s ?_
      simp only [spec_l03Mul.l1, g1, if_true, decide_eq_true g2]
      refine ev_s ?_
      by_cases g4 : ((c - i : Nat) : Int) < (b.length : Int)
      · have g5 : (0 : Int) ≤ ((c - i : Nat) : Int) := by omega
        have g6 : ¬ (p = 0) := by omega
        have hai := ha.rd hp.pos (i : Int)
        have hbj := hb.rd hp.pos ((c - i : Nat) : Int)
        have hm := mul_lt_big hai.1 hai.2 hbj.1 hbj.2 hpp.2
        have hs := em_lt (a := sm i (tm a b c)) hp.pos
        have ev : Int.tmod (wrap64 (sm i (tm a b c) % p + wrap64 (rd a (i : Int) * rd b ((c - i : Nat) : Int)))) p = sm (i + 1) (tm a b c) % p := by
          rw [w64 (x := rd a (i : Int) * rd b ((c - i : Nat) : Int)) (by omega) (by omega), w64 (by omega) (by omega), tmod_nn (by omega), eadd_l, sm_succ, tm_in (by omega)]
        simp only [spec_l03Mul.j3, if_true, ewd (), g4, g0, g2, g5, g6, if_false, ev, ewi ()]
        exact hn
      · simp only [spec_l03Mul.j3, if_true, ewd (), g4, if_false, ewi ()]
        rw [sm_succ, tm_b (by omega), Int.add_zero] at hn
        exact hn
  have outer : ∀ (d c : Nat) (out : List Int), c + d = N → out = (List.range c).map (fun c => pc a b c % p) → Ev (fun k => spec_l03Mul.l0 k a b p out (c : Int)) (cutS (rawS p a b)) := by
    intro d
    induction d with
    | zero =>
      intro c out hc ho
      refine ev_s ?_
      have g1 : ¬ ((c : Int) < (N : Int)) := by omega
      simp only [spec_l03Mul.l0, ew (), g1, if_false]
      have e : out = rawS p a b := by unfold rawS; rw [← hN, ho, show c = N by omega]
      rw [e]
      refine Ev.bind (ev_l03Cut _ (by rw [rawS_len]; omega)) ?_
      exact Ev.now _
    | succ d ih =>
      intro c out hc ho
      refine ev_s ?_
      have g1 : (c : Int) < (N : Int) := by omega
      simp only [spec_l03Mul.l0, ew (), g1, if_true]
      have hol : out.length = c := by rw [ho]; simp
      have ho' : out ++ [pc a b c % p] = (List.range (c + 1)).map (fun c => pc a b c % p) := by rw [ho]; exact (map_snoc c _).symm
      have hc' : c + 1 + d = N := by omega
      have hnext := ih (c + 1) (out ++ [pc a b c % p]) hc' ho'
      have hc2 : c < N := by omega
      have ho2 : out.length ≤ 1000 := by omega
      have hm0 : 0 + min (c + 1) a.length = min (c + 1) a.length := Nat.zero_add _
      have hi := inner c hc2 (min (c + 1) a.length) 0 out (cutS (rawS p a b)) hm0 ho2 hnext
      rw [sm_zero, Int.zero_emod] at hi
      exact hi
  exact outer N 0 [] (by omega) rfl

theorem ev_Reduce {f : Int} (h : 0 ≤ f ∧ f < 9) (x : Int) : spec_Reduce.f f x = some (x % md f) := by
  have hp := pm_of h
  unfold Pm at hp
  unfold spec_Reduce.f
  rw [ev_Modulus]
  simp only [Option.bind_some]
  rw [if_neg (by omega)]
  have hb := tmod_bounds (a := x) (p := md f) (by omega)
  rw [w64 (by omega) (by omega), ← tmod_fix (a := x) (p := md f) (by omega)]
  by_cases c : Int.tmod x (md f) < 0
  · rw [if_pos c, if_pos c]
  · rw [if_neg c, if_neg c]
theorem ev_Reduce_bad {f : Int} (h : ¬ (0 ≤ f ∧ f < 9)) (x : Int) : spec_Reduce.f f x = some (-1) := by
  unfold spec_Reduce.f
  rw [ev_Modulus]
  simp only [Option.bind_some]
  rw [if_pos (md_bad h)]

theorem ev_Sub {f : Int} (h : 0 ≤ f ∧ f < 9) (x y : Int) : spec_Sub.f f x y = some ((x - y) % md f) := by
  have hp := pm_of h
  unfold Pm at hp
  have hx := em_lt (a := x) (p := md f) (by omega)
  have hy := em_lt (a := y) (p := md f) (by omega)
  unfold spec_Sub.f
  rw [ev_Modulus]
  simp only [Option.bind_some, ev_Reduce h]
  rw [if_neg (by omega), w64 (by omega) (by omega), esub_l, esub_r]

theorem ev_sub {p : Int} (hp : Pm p) (g t : Int) {a b : Int} (ha : 0 ≤ a ∧ a < p) (hb : 0 ≤ b ∧ b < p) : impl_field_sub.f p g t a b = some ((a - b) % p) := by
  unfold Pm at hp
  unfold impl_field_sub.f
  rw [if_neg (by omega), w64 (x := a - b) (by omega) (by omega), w64 (by omega) (by omega), tmod_nn (by omega), Int.add_emod_right]

def vst (p : Int) (xs : List Int) : Nat → Nat → List Int → List Int
  | 0, _, out => out
  | d + 1, i, out => vst p xs d (i + 1) (mpS p out [(0 - rd xs (i : Int)) % p, 1])
theorem van_el {p x : Int} (hp : 1 < p) : El p [(0 - x) % p, 1] := by
  intro y hy
  rcases List.mem_cons.1 hy with h | h
  · subst h; exact em_lt (by omega)
  · rw [List.mem_singleton] at h; subst h; omega
theorem van_len {x o i : Nat} (h : x ≤ o + 2) (k : o ≤ 2 * i + 1) : x ≤ 2 * (i + 1) + 1 := by omega
theorem pm_1 {p : Int} (h : Pm p) : 1 < p := Int.lt_of_lt_of_le (by decide : (1 : Int) < 17) h.1
theorem ev_vanish_both {f : Int} (hf : 0 ≤ f ∧ f < 9) {xs : List Int} (hn : xs.length ≤ 40) (he : El (md f) xs) : ∀ (d i : Nat) (out : List Int), i + d = xs.length → out.length ≤ 2 * i + 1 → El (md f) out →
    Ev (fun k => spec_l07Vanish.l0 k f xs out (i : Int)) (vst (md f) xs d i out) ∧ Ev (fun k => impl_field_vanish.l0 k out xs (xs.length : Int) (i : Int) (md f) (gn f) (tp f)) (vst (md f) xs d i out) ∧ (vst (md f) xs d i out).length ≤ 1048576 := by
  have hp := pm_of hf
  intro d
  induction d with
  | zero =>
    intro i out hi ho hel
    have g1 : ¬ ((i : Int) < (xs.length : Int)) := by omega
    refine ⟨ev_s ?_, ev_s ?_, by show out.length ≤ _; omega⟩
    · simp only [spec_l07Vanish.l0, g1, if_false]; exact Ev.now _
    · simp only [impl_field_vanish.l0, g1, if_false]; exact Ev.now _
  | succ d ih =>
    intro i out hi ho hel
    have g1 : (i : Int) < (xs.length : Int) := by omega
    have g2 : (0 : Int) ≤ (i : Int) := by omega
    have g4 : out.length ≤ 400 := by omega
    have g5 : i + 1 + d = xs.length := by omega
    have ew : ∀ _ : Unit, wrap64 ((i : Int) + 1) = ((i + 1 : Nat) : Int) := fun _ => w_succ (n := i) (by omega)
    have hv : El (md f) [(0 - rd xs (i : Int)) % md f, 1] := van_el (pm_1 hp)
    have hn := ih (i + 1) (mpS (md f) out [(0 - rd xs (i : Int)) % md f, 1]) g5 (van_len (mpS_len (md f) out [(0 - rd xs (i : Int)) % md f, 1]) ho) (mpS_el hp.pos _ _)
    refine ⟨ev_s ?_, ev_s ?_, hn.2.2⟩
    · simp only [spec_l07Vanish.l0, g1, g2, if_true, ev_Sub hf, Option.bind_some, ew ()]
      refine Ev.bind (ev_l03Mul hf g4 (by decide : 2 ≤ 400) hel hv) ?_
      exact hn.1
    · simp only [impl_field_vanish.l0, g1, g2, if_true, ev_sub hp _ _ (a := 0) (b := rd xs (i : Int)) ⟨Int.le_refl 0, hp.pos⟩ (he.rd hp.pos (i : Int)), Option.bind_some, ew ()]
      refine Ev.bind (ev_mulPoly hp _ _ g4 (by decide : 2 ≤ 400) hel hv) ?_
      exact hn.2.1
theorem FnExactVanish : laws_FnExactVanish.Pure := by
  intro f l hf hl hl8 hw
  refine Ev.rounds ?_
  unfold laws_FnExactVanish.f
  by_cases hbig : (l.length : Int) > 1048576
  · simp only [hbig, if_true]; exact Ev.now _
  simp only [hbig, if_false]
  have hll : l.length ≤ 35184372088832 := by omega
  obtain ⟨R, hR1, hR2, hRl⟩ : ∃ (R : List Int), Ev (fun k => spec_Vanish.f k f l) R ∧ Ev (fun k => impl_Vanish.f k f l) R ∧ R.length ≤ 1048576 := by
    by_cases h : PtsOk f l
    · have hb := (isF h.1.1 h.1.2).bounds
      obtain ⟨v1, v2, v3⟩ := ev_vanish_both h.1 h.2.2.1 h.2.2.2.1 l.length 0 [1] (by omega) (by simp) (fun x hx => by rw [List.mem_singleton] at hx; subst hx; omega)
      refine ⟨_, ?_, ?_, v3⟩
      · unfold spec_Vanish.f
        refine Ev.bind (ev_PointsOk h) ?_
        simp only [if_true]
        unfold spec_l07Vanish.f
        refine Ev.bind v1 ?_
        exact Ev.now _
      · unfold impl_Vanish.f
        refine Ev.bind (ev_pointField h) ?_
        simp only [if_true]
        unfold impl_field_vanish.f
        refine Ev.bind v2 ?_
        exact Ev.now _
    · refine ⟨[], ?_, ?_, by simp⟩
      · unfold spec_Vanish.f
        refine Ev.bind (ev_PointsOk_bad h) ?_
        simp only [Bool.false_eq_true, if_false]; exact Ev.now _
      · unfold impl_Vanish.f
        refine Ev.bind (ev_pointField_bad h) ?_
        simp only [Bool.false_eq_true, if_false]; exact Ev.now _
  have nR : ¬ ((1 : Int) + (R.length : Int) < 0) := by omega
  have nL : ¬ ((1 : Int) + (l.length : Int) < 0) := by omega
  repeat first
    | exact Ev.now _
    | refine Ev.bind hR1 ?_
    | refine Ev.bind hR2 ?_
    | refine Ev.bind (ev_toIntS l hll) ?_
    | refine Ev.bind (ev_eqIntS l (by omega)) ?_
    | refine Ev.bind (ev_eqIntS R (by omega)) ?_
    | refine Ev.bind (ev_mark l (1) (by omega) (by omega) (by omega)) ?_
    | refine Ev.bind (ev_mark R 1 (by omega) (by omega) (by omega)) ?_
    | refine Ev.bind (ev_held R.length 1 (by omega) (by omega) (by omega)) ?_
    | simp only [if_true, nR, nL, if_false, bne_self_eq_false, Bool.false_eq_true, Bool.not_true]
    | (refine ev_s ?_; simp only [laws_FnExactVanish.j0])

end Go.Proofs.Ytgjogfohknjpmaa.Pure
