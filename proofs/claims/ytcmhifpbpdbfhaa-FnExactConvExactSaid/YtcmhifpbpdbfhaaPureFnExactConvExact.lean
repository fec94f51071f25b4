/- FnExactConvExact returns true for every two lists: both ConvExacts are the same list and flag. -/
import Derived.Test.YtcmhifpbpdbfhaaPFnExactConvExactx4
import Derived.Test.YtcmhifpbpdbfhaaGB
import Derived.Test.YtcmhifpbpdbfhaaGC
set_option linter.unusedVariables false
set_option linter.unusedSimpArgs false
namespace Go.Proofs.Ytcmhifpbpdbfhaa.Pure
open Go.RowKit Go.Proofs.Ytcmhifpbpdbfhaa.PFnExactConvExact Go.Proofs.YtcmhifpbpdbfhaaW.PrintWords Go.Proofs.YtcmhifpbpdbfhaaW.PrintLast Go.Proofs.YtcmhifpbpdbfhaaW.PrintMore G7
theorem ev_toIntS (l : List Int) (hl : l.length ≤ 35184372088832) : Ev (fun k => laws_toIntS.f k l) l := by
  have key : ∀ (d i : Nat) (out : List Int), i + d = l.length → out.length = l.length → (∀ j : Nat, j < i → rd out (j : Int) = rd l (j : Int)) → Ev (fun k => laws_toIntS.l0 k l out (i : Int)) l := by
    intro d
    induction d with
    | zero =>
      intro i out hi ho hx
      refine ev_s ?_
      have h1 : ¬ ((i : Int) < (l.length : Int)) := by omega
      simp only [laws_toIntS.l0, h1, if_false]
      rw [ext_rd ho (fun j hj => hx j (by omega))]
      exact Ev.now _
    | succ d ih =>
      intro i out hi ho hx
      refine ev_s ?_
      have h1 : (i : Int) < (l.length : Int) := by omega
      have h2 : (0 : Int) ≤ (i : Int) := by omega
      have h3 : (i : Int) < (out.length : Int) := by omega
      simp only [laws_toIntS.l0, h1, h2, h3, if_true, w_succ (n := i) (by omega), Int.toNat_natCast]
      refine ih (i + 1) _ (by omega) (by rw [List.length_set]; exact ho) (fun j hj => ?_)
      by_cases c : i = j
      · subst c; rw [rd_set_eq (by omega)]
      · rw [rd_set_ne c]; exact hx j (by omega)
  unfold laws_toIntS.f
  have h1 : (0 : Int) ≤ (l.length : Int) := by omega
  simp only [h1, if_true, Int.toNat_natCast, hl]
  exact key l.length 0 _ (by omega) (by simp) (fun j hj => by omega)

theorem ev_eqIntS (l : List Int) (hl : l.length ≤ 35184372088832) : Ev (fun k => laws_eqIntS.f k l l) true := by
  have key : ∀ (d i : Nat), i + d = l.length → Ev (fun k => laws_eqIntS.l0 k l l (i : Int)) true := by
    intro d
    induction d with
    | zero =>
      intro i hi
      refine ev_s ?_
      have h1 : ¬ ((i : Int) < (l.length : Int)) := by omega
      simp only [laws_eqIntS.l0, h1, if_false]
      exact Ev.now _
    | succ d ih =>
      intro i hi
      refine ev_s ?_
      have h1 : (i : Int) < (l.length : Int) := by omega
      have h2 : (0 : Int) ≤ (i : Int) := by omega
      simp only [laws_eqIntS.l0, h1, h2, if_true, w_succ (n := i) (by omega)]
      exact ih (i + 1) (by omega)
  unfold laws_eqIntS.f
  simp only [if_true]
  exact key l.length 0 (by omega)

/-- What markIntS leaves. -/
def marks (n : Nat) (m : Int) : List Int := (List.range n).map (fun i => m + (i : Nat))
theorem marks_len (n : Nat) (m : Int) : (marks n m).length = n := by simp [marks]
theorem marks_rd {n i : Nat} (m : Int) (h : i < n) : rd (marks n m) (i : Int) = m + i := by unfold marks; rw [rd_map _ h]
theorem ev_mark (l : List Int) (m : Int) (hl : l.length ≤ 35184372088832) (h0 : 0 ≤ m) (h1 : m ≤ 4611686018427387904) : Ev (fun k => laws_markIntS.f k l m) (m + l.length, marks l.length m) := by
  have key : ∀ (d i : Nat) (out : List Int), i + d = l.length → out.length = l.length → (∀ j : Nat, j < i → rd out (j : Int) = m + j) → Ev (fun k => laws_markIntS.l0 k out (m + i) (i : Int)) (m + l.length, marks l.length m) := by
    intro d
    induction d with
    | zero =>
      intro i out hi ho hx
      refine ev_s ?_
      have g1 : ¬ ((i : Int) < (out.length : Int)) := by omega
      simp only [laws_markIntS.l0, g1, if_false]
      have e : out = marks l.length m := ext_rd (by rw [marks_len, ho]) (fun j hj => by rw [marks_rd m (by omega)]; exact hx j (by omega))
      rw [e, show i = l.length by omega]
      exact Ev.now _
    | succ d ih =>
      intro i out hi ho hx
      refine ev_s ?_
      have g1 : (i : Int) < (out.length : Int) := by omega
      have g2 : (0 : Int) ≤ (i : Int) := by omega
      simp only [laws_markIntS.l0, g1, g2, if_true, w_succ (n := i) (by omega), Int.toNat_natCast, w64 (x := m + (i : Int) + 1) (by omega) (by omega)]
      rw [show m + (i : Int) + 1 = m + ((i + 1 : Nat) : Int) by omega]
      refine ih (i + 1) _ (by omega) (by rw [List.length_set]; exact ho) (fun j hj => ?_)
      by_cases c : i = j
      · subst c; rw [rd_set_eq (by omega)]
      · rw [rd_set_ne c]; exact hx j (by omega)
  unfold laws_markIntS.f
  have := key l.length 0 l (by omega) rfl (fun j hj => by omega)
  simpa using this
theorem ev_held (n : Nat) (m : Int) (hl : n ≤ 35184372088832) (h0 : 0 ≤ m) (h1 : m ≤ 4611686018427387904) : Ev (fun k => laws_heldIntS.f k (marks n m) m) (m + n) := by
  have key : ∀ (d i : Nat), i + d = n → Ev (fun k => laws_heldIntS.l0 k (marks n m) (m + i) (i : Int)) (m + n) := by
    intro d
    induction d with
    | zero =>
      intro i hi
      refine ev_s ?_
      have g1 : ¬ ((i : Int) < ((marks n m).length : Int)) := by rw [marks_len]; omega
      simp only [laws_heldIntS.l0, g1, if_false]
      rw [show i = n by omega]
      exact Ev.now _
    | succ d ih =>
      intro i hi
      refine ev_s ?_
      have g1 : (i : Int) < ((marks n m).length : Int) := by rw [marks_len]; omega
      have g2 : (0 : Int) ≤ (i : Int) := by omega
      simp only [laws_heldIntS.l0, g1, g2, if_true, marks_rd m (show i < n by omega), w_succ (n := i) (by omega), w64 (x := m + (i : Int) + 1) (by omega) (by omega)]
      rw [show m + (i : Int) + 1 = m + ((i + 1 : Nat) : Int) by omega]
      exact ih (i + 1) (by omega)
  unfold laws_heldIntS.f
  have := key n 0 (by omega)
  simpa using this

/-- At most 200 integers, none too great. -/
def trB (l : List Int) : Bool := l.all (fun x => decide (-1000000 ≤ x) && decide (x ≤ 1000000))
theorem trB_rd {l : List Int} (h : trB l = true) (i : Int) : -1000000 ≤ rd l i ∧ rd l i ≤ 1000000 := by
  unfold trB at h
  rw [List.all_eq_true] at h
  unfold rd
  rw [List.getD_eq_getElem?_getD]
  cases e : l[i.toNat]? with
  | none => simp
  | some x => have := h x (List.mem_of_getElem? e); simpa using this
theorem trB_drop {l : List Int} {i : Nat} (h : i < l.length) : trB (l.drop i) = (decide (-1000000 ≤ rd l (i : Int)) && decide (rd l (i : Int) ≤ 1000000) && trB (l.drop (i + 1))) := by
  rw [drop_cons h]; rfl

def convV (a b : List Int) : List Int := (List.range (a.length + b.length - 1)).map (pc a b)
theorem tm_tr {a b : List Int} (ha : trB a = true) (hb : trB b = true) (c j : Nat) : -1000000000000 ≤ tm a b c j ∧ tm a b c j ≤ 1000000000000 := by
  by_cases h : c < j
  · rw [tm_c h]; omega
  · rw [tm_in (by omega)]
    have h1 := trB_rd ha (j : Int)
    have h2 := trB_rd hb ((c - j : Nat) : Int)
    generalize rd a (j : Int) = x at *
    generalize rd b ((c - j : Nat) : Int) = y at *
    have e1 : x * y ≤ 1000000 * 1000000 := by
      by_cases hx : 0 ≤ x
      · calc x * y ≤ x * 1000000 := Int.mul_le_mul_of_nonneg_left (by omega) hx
          _ ≤ 1000000 * 1000000 := by omega
      · have := Int.mul_le_mul_of_nonneg_left (a := -y) (b := 1000000) (c := -x) (by omega) (by omega)
        rw [Int.neg_mul_neg] at this
        omega
    have e2 : -(1000000 * 1000000) ≤ x * y := by
      by_cases hx : 0 ≤ x
      · have := Int.mul_le_mul_of_nonneg_left (a := -y) (b := 1000000) (c := x) (by omega) hx
        rw [Int.mul_neg] at this
        omega
      · have := Int.mul_le_mul_of_nonneg_left (a := y) (b := 1000000) (c := -x) (by omega) (by omega)
        rw [Int.neg_mul] at this
        omega
    omega

theorem ev_l01In (x a b : Int) : spec_l01In.f x a b = some (decide (a ≤ x) && decide (x ≤ b)) := by
  unfold spec_l01In.f
  by_cases h : a ≤ x
  · rw [if_pos h, decide_eq_true h, Bool.true_and]
  · rw [if_neg h, decide_eq_false h, Bool.false_and]

theorem ev_l05Terms (l : List Int) (hl : l.length ≤ 35184372088832) : Ev (fun k => spec_l05Terms.f k l) (decide (l.length ≤ 200) && trB l) := by
  have key : ∀ (d i : Nat), i + d = l.length → Ev (fun k => spec_l05Terms.l0 k l (i : Int)) (trB (l.drop i)) := by
    intro d
    induction d with
    | zero =>
      intro i hi
      refine ev_s ?_
      have h1 : ¬ ((i : Int) < (l.length : Int)) := by omega
      simp only [spec_l05Terms.l0, h1, if_false]
      rw [List.drop_of_length_le (by omega)]
      exact Ev.now _
    | succ d ih =>
      intro i hi
      refine ev_s ?_
      have h1 : (i : Int) < (l.length : Int) := by omega
      have h2 : (0 : Int) ≤ (i : Int) := by omega
      simp only [spec_l05Terms.l0, h1, h2, if_true, w_succ (n := i) (by omega), ev_l01In, Option.bind_some]
      rw [trB_drop (by omega)]
      by_cases c : (decide (-1000000 ≤ rd l (i : Int)) && decide (rd l (i : Int) ≤ 1000000)) = true
      · simp only [c, if_true, Bool.true_and]
        exact ih (i + 1) (by omega)
      · simp only [Bool.not_eq_true] at c
        simp only [c, Bool.false_and, Bool.false_eq_true, if_false]
        exact Ev.now _
  unfold spec_l05Terms.f
  by_cases c : (l.length : Int) > 200
  · simp only [c, if_true, show decide (l.length ≤ 200) = false from decide_eq_false (by omega), Bool.false_and]
    exact Ev.now _
  · simp only [c, if_false, show decide (l.length ≤ 200) = true from decide_eq_true (by omega), Bool.true_and]
    exact key l.length 0 (by omega)

theorem ev_sConvExact {a b : List Int} (ha : a.length ≤ 35184372088832) (hb : b.length ≤ 35184372088832) :
    Ev (fun k => spec_ConvExact.f k a b) (if (decide (a.length ≤ 200) && trB a) && (decide (b.length ≤ 200) && trB b) then (if a.length = 0 ∨ b.length = 0 then ([], true) else (convV a b, true)) else ([], false)) := by
  unfold spec_ConvExact.f
  simp only [Option.bind_some]
  refine Ev.bind (ev_l05Terms a ha) ?_
  by_cases ca : (decide (a.length ≤ 200) && trB a) = true
  · simp only [ca, if_true, Bool.true_and]
    refine Ev.bind (ev_l05Terms b hb) ?_
    by_cases cb : (decide (b.length ≤ 200) && trB b) = true
    · simp only [cb, if_true]
      rw [Bool.and_eq_true, decide_eq_true_eq] at ca cb
      refine ev_s ?_
      simp only [spec_ConvExact.j0, Bool.not_true, Bool.false_eq_true, if_false]
      by_cases za : a.length = 0
      · have z : (a.length : Int) = 0 := by omega
        simp only [z, if_true]
        rw [if_pos (Or.inl za)]
        refine ev_s ?_
        simp only [spec_ConvExact.j1, if_true]; exact Ev.now _
      have z : ¬ ((a.length : Int) = 0) := by omega
      simp only [z, if_false]
      by_cases zb : b.length = 0
      · have z2 : ((b.length : Int) == 0) = true := by rw [beq_iff_eq]; omega
        simp only [z2]
        rw [if_pos (Or.inr zb)]
        refine ev_s ?_
        simp only [spec_ConvExact.j1, if_true]; exact Ev.now _
      have z2 : ((b.length : Int) == 0) = false := by rw [beq_eq_false_iff_ne]; omega
      simp only [z2]
      rw [if_neg (by omega)]
      refine ev_s ?_
      simp only [spec_ConvExact.j1, Bool.false_eq_true, if_false]
      have inner : ∀ (d j c : Nat) (out : List Int) (r : List Int × Bool), j + d = c + 1 → c < 400 → out.length < 400 → Ev (fun k => spec_ConvExact.l0 k a b (out ++ [pc a b c]) ((c + 1 : Nat) : Int)) r → Ev (fun k => spec_ConvExact.l1 k a b out (c : Int) (sm j (tm a b c)) (j : Int)) r := by
        intro d
        induction d with
        | zero =>
          intro j c out r hj hc ho hr
          refine ev_s ?_
          have h1 : ¬ ((j : Int) ≤ (c : Int)) := by omega
          simp only [spec_ConvExact.l1, h1, if_false]
          refine ev_s ?_
          have h2 : out.length < 17592186044416 := by omega
          simp only [spec_ConvExact.j4, Bool.false_eq_true, h2, if_true, if_false, w_succ (n := c) (by omega)]
          rw [show j = c + 1 by omega]
          exact hr
        | succ d ih =>
          intro j c out r hj hc ho hr
          have hb1 := sm_bound (B := 1000000000000) (n := j) (by omega) (fun i _ => tm_tr ca.2 cb.2 c i)
          have hb2 := tm_tr ca.2 cb.2 c j
          refine ev_s ?_
          have h1 : (j : Int) ≤ (c : Int) := by omega
          simp only [spec_ConvExact.l1, h1, if_true]
          refine ev_s ?_
          simp only [spec_ConvExact.j4, decide_eq_true_eq]
          have hstep := ih (j + 1) c out r (by omega) hc ho hr
          rw [sm_succ] at hstep
          have ew : wrap64 ((c : Int) - (j : Int)) = ((c - j : Nat) : Int) := by rw [w64 (by omega) (by omega)]; omega
          by_cases h2 : (j : Int) < (a.length : Int)
          · by_cases h3 : ((c - j : Nat) : Int) < (b.length : Int)
            · have h4 : (0 : Int) ≤ (j : Int) := by omega
              have h5 : (0 : Int) ≤ ((c - j : Nat) : Int) := by omega
              have e : wrap64 (sm j (tm a b c) + wrap64 (rd a (j : Int) * rd b ((c - j : Nat) : Int))) = sm j (tm a b c) + tm a b c j := by
                rw [← tm_in (by omega), w64 (x := tm a b c j) (by omega) (by omega), w64 (by omega) (by omega)]
              simp only [ew, h2, h3, h4, h5, if_true, e, w_succ (n := j) (by omega)]
              exact hstep
            · simp only [ew, h2, h3, if_true, if_false, w_succ (n := j) (by omega)]
              rw [tm_b (by omega), Int.add_zero] at hstep
              exact hstep
          · simp only [h2, if_false]
            -- the sum's list has ended: from here on nothing is added
            have e : sm j (tm a b c) = pc a b c := by
              unfold pc
              exact sm_same (fun i h => by
                rcases h with h | h
                · exact tm_a (by omega)
                · omega)
            have h2' : out.length < 17592186044416 := by omega
            simp only [h2', if_true, w_succ (n := c) (by omega), e]
            exact hr
      have outer : ∀ (d c : Nat) (out : List Int), c + d = a.length + b.length - 1 → out = (List.range c).map (pc a b) → Ev (fun k => spec_ConvExact.l0 k a b out (c : Int)) (convV a b, true) := by
        intro d
        induction d with
        | zero =>
          intro c out hc ho
          refine ev_s ?_
          have h1 : ¬ ((c : Int) < wrap64 (wrap64 ((a.length : Int) + (b.length : Int)) - 1)) := by
            rw [w64 (x := (a.length : Int) + (b.length : Int)) (by omega) (by omega), w64 (by omega) (by omega)]; omega
          simp only [spec_ConvExact.l0, h1, if_false]
          rw [ho, show c = a.length + b.length - 1 by omega]
          exact Ev.now _
        | succ d ih =>
          intro c out hc ho
          refine ev_s ?_
          have h1 : (c : Int) < wrap64 (wrap64 ((a.length : Int) + (b.length : Int)) - 1) := by
            rw [w64 (x := (a.length : Int) + (b.length : Int)) (by omega) (by omega), w64 (by omega) (by omega)]; omega
          simp only [spec_ConvExact.l0, h1, if_true]
          refine inner (c + 1) 0 c out _ (by omega) (by omega) (by subst ho; simp; omega) ?_
          exact ih (c + 1) _ (by omega) (by rw [map_snoc, ho])
      exact outer (a.length + b.length - 1) 0 [] (by omega) rfl
    · simp only [Bool.not_eq_true] at cb
      simp only [cb, Bool.false_eq_true, if_false]
      refine ev_s ?_
      simp only [spec_ConvExact.j0, Bool.not_false, if_true]; exact Ev.now _
  · simp only [Bool.not_eq_true] at ca
    simp only [ca, Bool.false_eq_true, if_false, Bool.false_and]
    refine ev_s ?_
    simp only [spec_ConvExact.j0, if_true]; exact Ev.now _

theorem ev_areTerms (l : List Int) (hl : l.length ≤ 35184372088832) : Ev (fun k => impl_areTerms.f k l) (decide (l.length ≤ 200) && trB l) := by
  have key : ∀ (d i : Nat), i + d = l.length → Ev (fun k => impl_areTerms.l0 k l l (l.length : Int) (i : Int)) (decide (l.length ≤ 200) && trB (l.drop i)) := by
    intro d
    induction d with
    | zero =>
      intro i hi
      refine ev_s ?_
      have h1 : ¬ ((i : Int) < (l.length : Int)) := by omega
      simp only [impl_areTerms.l0, h1, if_false]
      rw [List.drop_of_length_le (by omega)]
      refine ev_c ?_
      simp only [trB, List.all_nil, Bool.and_true, Option.some.injEq]
      exact decide_eq_decide.2 (by omega)
    | succ d ih =>
      intro i hi
      refine ev_s ?_
      have h1 : (i : Int) < (l.length : Int) := by omega
      have h2 : (0 : Int) ≤ (i : Int) := by omega
      simp only [impl_areTerms.l0, h1, h2, if_true, w_succ (n := i) (by omega)]
      rw [trB_drop (by omega)]
      by_cases c1 : rd l (i : Int) < -1000000
      · simp only [c1, if_true, show decide (-1000000 ≤ rd l (i : Int)) = false from decide_eq_false (by omega), Bool.false_and, Bool.and_false]
        exact Ev.now _
      · by_cases c2 : rd l (i : Int) > 1000000
        · simp only [c1, c2, if_true, if_false, show decide (rd l (i : Int) ≤ 1000000) = false from decide_eq_false (by omega), Bool.false_and, Bool.and_false]
          exact Ev.now _
        · simp only [c1, c2, if_false, show decide (-1000000 ≤ rd l (i : Int)) = true from decide_eq_true (by omega), show decide (rd l (i : Int) ≤ 1000000) = true from decide_eq_true (by omega), Bool.true_and]
          exact ih (i + 1) (by omega)
  unfold impl_areTerms.f
  exact key l.length 0 (by omega)

theorem ev_iConvExact {a b : List Int} (ha : a.length ≤ 35184372088832) (hb : b.length ≤ 35184372088832) :
    Ev (fun k => impl_ConvExact.f k a b) (if (decide (a.length ≤ 200) && trB a) && (decide (b.length ≤ 200) && trB b) then (if a.length = 0 ∨ b.length = 0 then ([], true) else (convV a b, true)) else ([], false)) := by
  unfold impl_ConvExact.f
  refine Ev.bind (ev_areTerms a ha) ?_
  by_cases ca : (decide (a.length ≤ 200) && trB a) = true
  · simp only [ca, if_true, Bool.true_and]
    refine Ev.bind (ev_areTerms b hb) ?_
    by_cases cb : (decide (b.length ≤ 200) && trB b) = true
    · simp only [cb, if_true]
      rw [Bool.and_eq_true, decide_eq_true_eq] at ca cb
      refine ev_s ?_
      simp only [impl_ConvExact.j0, Bool.not_true, Bool.false_eq_true, if_false]
      by_cases za : a.length = 0
      · have z : (a.length : Int) = 0 := by omega
        simp only [z, if_true]
        rw [if_pos (Or.inl za)]
        refine ev_s ?_
        simp only [impl_ConvExact.j1, if_true]; exact Ev.now _
      have z : ¬ ((a.length : Int) = 0) := by omega
      simp only [z, if_false]
      by_cases zb : b.length = 0
      · have z2 : ((b.length : Int) == 0) = true := by rw [beq_iff_eq]; omega
        simp only [z2]
        rw [if_pos (Or.inr zb)]
        refine ev_s ?_
        simp only [impl_ConvExact.j1, if_true]; exact Ev.now _
      have z2 : ((b.length : Int) == 0) = false := by rw [beq_eq_false_iff_ne]; omega
      simp only [z2]
      rw [if_neg (by omega)]
      refine ev_s ?_
      have ew : wrap64 (wrap64 ((a.length : Int) + (b.length : Int)) - 1) = ((a.length + b.length - 1 : Nat) : Int) := by
        rw [w64 (x := (a.length : Int) + (b.length : Int)) (by omega) (by omega), w64 (by omega) (by omega)]; omega
      simp only [impl_ConvExact.j1, Bool.false_eq_true, if_false, ew, Int.toNat_natCast, show (0 : Int) ≤ ((a.length + b.length - 1 : Nat) : Int) from by omega, show a.length + b.length - 1 ≤ 35184372088832 from by omega, if_true]
      have inner : ∀ (d j i : Nat) (out : List Int) (r : List Int × Bool), j + d = b.length → i < a.length → out.length = a.length + b.length - 1 → (∀ c : Nat, c < out.length → rd out (c : Int) = scat a b i j c) →
          (∀ out' : List Int, out'.length = a.length + b.length - 1 → (∀ c : Nat, c < out'.length → rd out' (c : Int) = sm (i + 1) (tm a b c)) → Ev (fun k => impl_ConvExact.l0 k b out' a (a.length : Int) ((i + 1 : Nat) : Int)) r) →
          Ev (fun k => impl_ConvExact.l1 k b out (i : Int) (rd a (i : Int)) a (a.length : Int) (i : Int) b (b.length : Int) (j : Int)) r := by
        intro d
        induction d with
        | zero =>
          intro j i out r hj hi ho hx hr
          refine ev_s ?_
          have h1 : ¬ ((j : Int) < (b.length : Int)) := by omega
          simp only [impl_ConvExact.l1, h1, if_false, w_succ (n := i) (by omega)]
          exact hr out ho (fun c hc => by rw [hx c hc, scat_row (Or.inl (by omega))])
        | succ d ih =>
          intro j i out r hj hi ho hx hr
          refine ev_s ?_
          have h1 : (j : Int) < (b.length : Int) := by omega
          have h2 : (0 : Int) ≤ (j : Int) := by omega
          have ei : wrap64 ((i : Int) + (j : Int)) = ((i + j : Nat) : Int) := by rw [w64 (by omega) (by omega)]; omega
          have h3 : (0 : Int) ≤ ((i + j : Nat) : Int) := by omega
          have h4 : ((i + j : Nat) : Int) < (out.length : Int) := by omega
          have hb1 := sm_bound (B := 1000000000000) (n := i) (by omega) (fun q _ => tm_tr ca.2 cb.2 (i + j) q)
          have hb2 := tm_tr ca.2 cb.2 (i + j) i
          rw [tm_in (by omega), show i + j - i = j by omega] at hb2
          have eo : rd out ((i + j : Nat) : Int) = sm i (tm a b (i + j)) := by
            rw [hx (i + j) (by omega)]; unfold scat; rw [if_neg (by omega)]; omega
          have ev : wrap64 (rd out ((i + j : Nat) : Int) + wrap64 (rd a (i : Int) * rd b (j : Int))) = scat a b i (j + 1) (i + j) := by
            rw [w64 (x := rd a (i : Int) * rd b (j : Int)) (by omega) (by omega), w64 (by omega) (by omega), scat_hit, hx (i + j) (by omega)]
          simp only [impl_ConvExact.l1, h1, h2, ei, h3, h4, if_true, ev, w_succ (n := j) (by omega), Int.toNat_natCast]
          refine ih (j + 1) i _ r (by omega) hi (by rw [List.length_set]; exact ho) (fun c hc => ?_) hr
          rw [List.length_set] at hc
          by_cases e : i + j = c
          · subst e; rw [rd_set_eq (by omega)]
          · rw [rd_set_ne e, hx c hc, scat_miss (by omega)]
      have outer : ∀ (d i : Nat) (out : List Int), i + d = a.length → out.length = a.length + b.length - 1 → (∀ c : Nat, c < out.length → rd out (c : Int) = sm i (tm a b c)) → Ev (fun k => impl_ConvExact.l0 k b out a (a.length : Int) (i : Int)) (convV a b, true) := by
        intro d
        induction d with
        | zero =>
          intro i out hi ho hx
          refine ev_s ?_
          have h1 : ¬ ((i : Int) < (a.length : Int)) := by omega
          simp only [impl_ConvExact.l0, h1, if_false]
          have e : out = convV a b := set_map_rd ho (fun c hc => by rw [hx c (by omega), show i = a.length by omega, pc_of_len])
          rw [e]; exact Ev.now _
        | succ d ih =>
          intro i out hi ho hx
          refine ev_s ?_
          have h1 : (i : Int) < (a.length : Int) := by omega
          have h2 : (0 : Int) ≤ (i : Int) := by omega
          simp only [impl_ConvExact.l0, h1, h2, if_true]
          refine inner b.length 0 i out _ (by omega) (by omega) ho (fun c hc => by rw [hx c hc, scat_start]) (fun out' ho' hx' => ?_)
          exact ih (i + 1) out' (by omega) ho' hx'
      exact outer a.length 0 _ (by omega) (by simp) (fun c _ => by rw [rd_rep]; rfl)
    · simp only [Bool.not_eq_true] at cb
      simp only [cb, Bool.false_eq_true, if_false]
      refine ev_s ?_
      simp only [impl_ConvExact.j0, Bool.not_false, if_true]; exact Ev.now _
  · simp only [Bool.not_eq_true] at ca
    simp only [ca, Bool.false_eq_true, if_false, Bool.false_and]
    refine ev_s ?_
    simp only [impl_ConvExact.j0, if_true]; exact Ev.now _

theorem FnExactConvExact : laws_FnExactConvExact.Pure := by
  intro l m hl hl8 hwl hm hm8 hwm
  refine Ev.rounds ?_
  unfold laws_FnExactConvExact.f
  by_cases hbig : (l.length : Int) > 1048576
  · simp only [hbig, if_true]; exact Ev.now _
  by_cases hbig2 : (m.length : Int) > 1048576
  · simp only [hbig, hbig2, if_true, if_false]; exact Ev.now _
  simp only [hbig, hbig2, if_false]
  have hll : l.length ≤ 35184372088832 := by omega
  have hlm : m.length ≤ 35184372088832 := by omega
  obtain ⟨R, hR1, hR2, hRl⟩ : ∃ R, Ev (fun k => spec_ConvExact.f k l m) R ∧ Ev (fun k => impl_ConvExact.f k l m) R ∧ R.1.length ≤ 1048576 := by
    refine ⟨_, ev_sConvExact hll hlm, ev_iConvExact hll hlm, ?_⟩
    by_cases c : ((decide (l.length ≤ 200) && trB l) && (decide (m.length ≤ 200) && trB m)) = true
    · rw [if_pos c]
      simp only [Bool.and_eq_true, decide_eq_true_eq] at c
      split
      · simp
      · unfold convV; simp; omega
    · rw [if_neg c]; simp
  obtain ⟨R1, R2⟩ := R
  replace hRl : R1.length ≤ 1048576 := hRl
  have nR : ¬ ((1 : Int) + (R1.length : Int) < 0) := by omega
  have nL : ¬ ((1 : Int) + (l.length : Int) + (m.length : Int) < 0) := by omega
  repeat first
    | exact Ev.now _
    | refine Ev.bind hR1 ?_
    | refine Ev.bind hR2 ?_
    | refine Ev.bind (ev_toIntS l hll) ?_
    | refine Ev.bind (ev_toIntS m hlm) ?_
    | refine Ev.bind (ev_eqIntS l (by omega)) ?_
    | refine Ev.bind (ev_eqIntS m (by omega)) ?_
    | refine Ev.bind (ev_eqIntS R1 (by omega)) ?_
    | refine Ev.bind (ev_mark l (1) (by omega) (by omega) (by omega)) ?_
    | refine Ev.bind (ev_mark m (1 + (l.length : Int)) (by omega) (by omega) (by omega)) ?_
    | refine Ev.bind (ev_mark R1 1 (by omega) (by omega) (by omega)) ?_
    | refine Ev.bind (ev_held R1.length 1 (by omega) (by omega) (by omega)) ?_
    | simp only [if_true, nR, nL, if_false, bne_self_eq_false, Bool.false_eq_true, Bool.not_true]
    | (refine ev_s ?_; simp only [laws_FnExactConvExact.j0])
    | (refine ev_s ?_; simp only [laws_FnExactConvExact.j1])
    | (refine ev_s ?_; simp only [laws_FnExactConvExact.j2])

end Go.Proofs.Ytcmhifpbpdbfhaa.Pure
