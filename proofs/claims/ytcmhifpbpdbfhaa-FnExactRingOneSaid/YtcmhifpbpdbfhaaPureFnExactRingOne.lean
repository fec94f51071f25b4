/- FnExactRingOne returns true for all arguments: both RingOnes are the same list. -/
import Derived.Test.YtcmhifpbpdbfhaaPFnExactRingOnex3
import Derived.Test.YtcmhifpbpdbfhaaGB
import Derived.Test.YtcmhifpbpdbfhaaGD
set_option linter.unusedVariables false
set_option linter.unusedSimpArgs false
namespace Go.Proofs.Ytcmhifpbpdbfhaa.Pure
open Go.RowKit Go.Proofs.Ytcmhifpbpdbfhaa.PFnExactRingOne Go.Proofs.YtcmhifpbpdbfhaaW.PrintWords Go.Proofs.YtcmhifpbpdbfhaaW.PrintLast Go.Proofs.YtcmhifpbpdbfhaaW.PrintMore G7
theorem ev_eqIntS (l : List Int) (hl : l.length ≤ 35184372088832) : Ev (fun k => laws_eqIntS.f k l l) true := by
  have key : ∀ (d i : Nat), i + d = l.length → Ev (fun k => laws_eqIntS.l0 k l l (i : Int)) true := by
    intro d
    induction d with
    | zero =>
      intro i hi
      refine ev_s ?_
      have h1 : ¬ ((i : Int) < (l.length : Int)) := by omega
      simp only [laws_eqIntS.l0, h1, if_false]
      exact Ev.now _
    | succ d ih =>
      intro i hi
      refine ev_s ?_
      have h1 : (i : Int) < (l.length : Int) := by omega
      have h2 : (0 : Int) ≤ (i : Int) := by omega
      simp only [laws_eqIntS.l0, h1, h2, if_true, w_succ (n := i) (by omega)]
      exact ih (i + 1) (by omega)
  unfold laws_eqIntS.f
  simp only [if_true]
  exact key l.length 0 (by omega)

/-- What markIntS leaves. -/
def marks (n : Nat) (m : Int) : List Int := (List.range n).map (fun i => m + (i : Nat))
theorem marks_len (n : Nat) (m : Int) : (marks n m).length = n := by simp [marks]
theorem marks_rd {n i : Nat} (m : Int) (h : i < n) : rd (marks n m) (i : Int) = m + i := by unfold marks; rw [rd_map _ h]
theorem ev_mark (l : List Int) (m : Int) (hl : l.length ≤ 35184372088832) (h0 : 0 ≤ m) (h1 : m ≤ 4611686018427387904) : Ev (fun k => laws_markIntS.f k l m) (m + l.length, marks l.length m) := by
  have key : ∀ (d i : Nat) (out : List Int), i + d = l.length → out.length = l.length → (∀ j : Nat, j < i → rd out (j : Int) = m + j) → Ev (fun k => laws_markIntS.l0 k out (m + i) (i : Int)) (m + l.length, marks l.length m) := by
    intro d
    induction d with
    | zero =>
      intro i out hi ho hx
      refine ev_s ?_
      have g1 : ¬ ((i : Int) < (out.length : Int)) := by omega
      simp only [laws_markIntS.l0, g1, if_false]
      have e : out = marks l.length m := ext_rd (by rw [marks_len, ho]) (fun j hj => by rw [marks_rd m (by omega)]; exact hx j (by omega))
      rw [e, show i = l.length by omega]
      exact Ev.now _
    | succ d ih =>
      intro i out hi ho hx
      refine ev_s ?_
      have g1 : (i : Int) < (out.length : Int) := by omega
      have g2 : (0 : Int) ≤ (i : Int) := by omega
      simp only [laws_markIntS.l0, g1, g2, if_true, w_succ (n := i) (by omega), Int.toNat_natCast, w64 (x := m + (i : Int) + 1) (by omega) (by omega)]
      rw [show m + (i : Int) + 1 = m + ((i + 1 : Nat) : Int) by omega]
      refine ih (i + 1) _ (by omega) (by rw [List.length_set]; exact ho) (fun j hj => ?_)
      by_cases c : i = j
      · subst c; rw [rd_set_eq (by omega)]
      · rw [rd_set_ne c]; exact hx j (by omega)
  unfold laws_markIntS.f
  have := key l.length 0 l (by omega) rfl (fun j hj => by omega)
  simpa using this
theorem ev_held (n : Nat) (m : Int) (hl : n ≤ 35184372088832) (h0 : 0 ≤ m) (h1 : m ≤ 4611686018427387904) : Ev (fun k => laws_heldIntS.f k (marks n m) m) (m + n) := by
  have key : ∀ (d i : Nat), i + d = n → Ev (fun k => laws_heldIntS.l0 k (marks n m) (m + i) (i : Int)) (m + n) := by
    intro d
    induction d with
    | zero =>
      intro i hi
      refine ev_s ?_
      have g1 : ¬ ((i : Int) < ((marks n m).length : Int)) := by rw [marks_len]; omega
      simp only [laws_heldIntS.l0, g1, if_false]
      rw [show i = n by omega]
      exact Ev.now _
    | succ d ih =>
      intro i hi
      refine ev_s ?_
      have g1 : (i : Int) < ((marks n m).length : Int) := by rw [marks_len]; omega
      have g2 : (0 : Int) ≤ (i : Int) := by omega
      simp only [laws_heldIntS.l0, g1, g2, if_true, marks_rd m (show i < n by omega), w_succ (n := i) (by omega), w64 (x := m + (i : Int) + 1) (by omega) (by omega)]
      rw [show m + (i : Int) + 1 = m + ((i + 1 : Nat) : Int) by omega]
      exact ih (i + 1) (by omega)
  unfold laws_heldIntS.f
  have := key n 0 (by omega)
  simpa using this

theorem ev_LogOf (n : Int) : Ev (fun k => spec_LogOf.f k n) (lg n) := by
  have key : ∀ (d c : Nat), c + d = 10 → Ev (fun k => spec_LogOf.l0 k n (c : Int)) (lgA n d c) := by
    intro d
    induction d with
    | zero =>
      intro c hc
      refine ev_s ?_
      have h1 : ¬ ((c : Int) ≤ 9) := by omega
      simp only [spec_LogOf.l0, h1, if_false]; exact Ev.now _
    | succ d ih =>
      intro c hc
      refine ev_s ?_
      have h1 : (c : Int) ≤ 9 := by omega
      have h2 : (0 : Int) ≤ (c : Int) := by omega
      simp only [spec_LogOf.l0, h1, u64_id (x := (c : Int)) (by omega) (by omega), h2, if_true, shl1 (c := c) (by omega), w_succ (n := c) (by omega)]
      unfold lgA
      by_cases h : n = ((2 ^ c : Nat) : Int)
      · rw [if_pos h]; simp only [if_pos h]; exact Ev.now _
      · rw [if_neg h]; simp only [if_neg h]; exact ih (c + 1) (by omega)
  exact key 10 0 rfl

theorem ev_Modulus (f : Int) : spec_Modulus.f f = some (md f) := by
  unfold spec_Modulus.f md
  by_cases h0 : f = 0
  · rw [if_pos h0, if_pos h0]
  rw [if_neg h0, if_neg h0]
  by_cases h1 : f = 1
  · rw [if_pos h1, if_pos h1]
  rw [if_neg h1, if_neg h1]
  by_cases h2 : f = 2
  · rw [if_pos h2, if_pos h2]
  rw [if_neg h2, if_neg h2]
  by_cases h3 : f = 3
  · rw [if_pos h3, if_pos h3]
  rw [if_neg h3, if_neg h3]
  by_cases h4 : f = 4
  · rw [if_pos h4, if_pos h4]
  rw [if_neg h4, if_neg h4]
  by_cases h5 : f = 5
  · rw [if_pos h5, if_pos h5]
  rw [if_neg h5, if_neg h5]
  by_cases h6 : f = 6
  · rw [if_pos h6, if_pos h6]
  rw [if_neg h6, if_neg h6]
  by_cases h7 : f = 7
  · rw [if_pos h7, if_pos h7]
  rw [if_neg h7, if_neg h7]
  by_cases h8 : f = 8
  · rw [if_pos h8, if_pos h8]
  rw [if_neg h8, if_neg h8]

theorem ev_TwoPower (f : Int) : Ev (fun k => spec_TwoPower.f k f) (tp f) := by
  unfold spec_TwoPower.f
  simp only [ev_Modulus, Option.bind_some]
  by_cases h : 0 ≤ f ∧ f < 9
  · have hp := pm_of h
    unfold Pm at hp
    obtain ⟨e1, e2, e3, e4, e5⟩ := oddP_spec h
    simp only [show ¬ (md f = 0) from by omega, if_false, w64 (x := md f - 1) (by omega) (by omega)]
    have key : ∀ (t : Nat) (c : Int), 0 ≤ c → c + t ≤ 100 → oddP f * ((2 ^ t : Nat) : Int) ≤ md f - 1 → Ev (fun k => spec_TwoPower.l0 k c (oddP f * ((2 ^ t : Nat) : Int))) (c + t) := by
      intro t
      induction t with
      | zero =>
        intro c hc hct hb
        refine ev_s ?_
        rw [Nat.pow_zero, Int.natCast_one, Int.mul_one] at *
        have h1 : ¬ (Int.tmod (oddP f) 2 = 0) := by rw [tmod_nn (by omega)]; omega
        simp only [spec_TwoPower.l0, h1, if_false, Int.natCast_zero, Int.add_zero]; exact Ev.now _
      | succ t ih =>
        intro c hc hct hb
        have e : oddP f * ((2 ^ (t + 1) : Nat) : Int) = 2 * (oddP f * ((2 ^ t : Nat) : Int)) := by
          rw [Nat.pow_succ, Int.natCast_mul, ← Int.mul_assoc, Int.mul_comm]; rfl
        have hq : 0 ≤ oddP f * ((2 ^ t : Nat) : Int) := Int.mul_nonneg (by omega) (Int.natCast_nonneg _)
        rw [e] at hb ⊢
        have hs := ih (c + 1) (by omega) (by omega) (by omega)
        generalize oddP f * ((2 ^ t : Nat) : Int) = q at *
        refine ev_s ?_
        have h1 : Int.tmod (2 * q) 2 = 0 := by rw [tmod_nn (by omega)]; omega
        have h2 : wrap64 (Int.tdiv (2 * q) 2) = q := by
          rw [Int.tdiv_eq_ediv_of_nonneg (by omega), w64 (by omega) (by omega)]; omega
        simp only [spec_TwoPower.l0, h1, h2, if_true, w64 (x := c + 1) (by omega) (by omega)]
        exact ev_to hs (by omega)
    have := key (tp f).toNat 0 (by omega) (by omega) (by omega)
    rw [← e1] at this
    exact ev_to this (by omega)
  · simp only [md_bad h, if_true]
    rw [tp_bad h]; exact Ev.now _

theorem ev_fieldOf {f : Int} (h : 0 ≤ f ∧ f < 9) : impl_fieldOf.f f = some (md f, gn f, tp f, true) := by
  rcases fcases h.1 h.2 with e | e | e | e | e | e | e | e | e <;> subst e <;> rfl
theorem ev_fieldOf_bad {f : Int} (h : ¬ (0 ≤ f ∧ f < 9)) : impl_fieldOf.f f = some (0, 0, 0, false) := by
  unfold impl_fieldOf.f
  by_cases c : f < 0
  · rw [if_pos c]
  · rw [if_neg c, if_pos (by omega)]

theorem ev_logOf (n : Int) : Ev (fun k => impl_logOf.f k n) (lg n) := by
  have key : ∀ (d c : Nat), c + d = 10 → Ev (fun k => impl_logOf.l0 k n (c : Int)) (lgA n d c) := by
    intro d
    induction d with
    | zero =>
      intro c hc
      refine ev_s ?_
      have h1 : ¬ ((c : Int) < 10) := by omega
      simp only [impl_logOf.l0, h1, if_false]; exact Ev.now _
    | succ d ih =>
      intro c hc
      refine ev_s ?_
      have h1 : (c : Int) < 10 := by omega
      have h2 : (0 : Int) ≤ (c : Int) := by omega
      simp only [impl_logOf.l0, h1, h2, if_true, shl1 (c := c) (by omega), w_succ (n := c) (by omega)]
      unfold lgA
      by_cases h : n = ((2 ^ c : Nat) : Int)
      · rw [if_pos h]; simp only [if_pos h]; exact Ev.now _
      · rw [if_neg h]; simp only [if_neg h]; exact ih (c + 1) (by omega)
  exact key 10 0 rfl

theorem ev_areElements (p g t : Int) (l : List Int) (hl : l.length ≤ 35184372088832) : Ev (fun k => impl_field_areElements.f k p g t l) (elB p l) := by
  have key : ∀ (d i : Nat), i + d = l.length → Ev (fun k => impl_field_areElements.l0 k l (l.length : Int) (i : Int) p g t) (elB p (l.drop i)) := by
    intro d
    induction d with
    | zero =>
      intro i hi
      refine ev_s ?_
      have h1 : ¬ ((i : Int) < (l.length : Int)) := by omega
      simp only [impl_field_areElements.l0, h1, if_false]
      rw [List.drop_of_length_le (by omega)]
      exact Ev.now _
    | succ d ih =>
      intro i hi
      refine ev_s ?_
      have h1 : (i : Int) < (l.length : Int) := by omega
      have h2 : (0 : Int) ≤ (i : Int) := by omega
      simp only [impl_field_areElements.l0, h1, h2, if_true, w_succ (n := i) (by omega)]
      rw [elB_drop (by omega)]
      by_cases c1 : rd l (i : Int) < 0
      · simp only [c1, if_true, show decide (0 ≤ rd l (i : Int)) = false from decide_eq_false (by omega), Bool.false_and]
        exact Ev.now _
      · by_cases c2 : rd l (i : Int) ≥ p
        · simp only [c1, c2, if_true, if_false, show decide (rd l (i : Int) < p) = false from decide_eq_false (by omega), Bool.false_and, Bool.and_false]
          exact Ev.now _
        · simp only [c1, c2, if_false, show decide (0 ≤ rd l (i : Int)) = true from decide_eq_true (by omega), show decide (rd l (i : Int) < p) = true from decide_eq_true (by omega), Bool.true_and]
          exact ih (i + 1) (by omega)
  exact key l.length 0 (by omega)

theorem ev_vectorField1 {f : Int} {a : List Int} (h : VecOk f a) : Ev (fun k => impl_vectorField.f k f [a]) (md f, gn f, tp f, true) := by
  have hlg := h.lg
  have hn := h.len
  obtain ⟨hf, _, he⟩ := h
  unfold impl_vectorField.f
  have hl : (([a] : List (List Int)).length : Int) = 1 := rfl
  have hr : rd_L1 [a] 0 = a := rfl
  have n1 : ¬ (lg (a.length : Int) < 0) := by omega
  have n2 : ¬ (lg (a.length : Int) > tp f) := by omega
  simp only [ev_fieldOf hf, Option.bind_some, if_true, hl]
  refine ev_s ?_
  simp only [impl_vectorField.l0, hl, hr, show (0 : Int) < 1 from by decide, show (0 : Int) ≤ 0 from by decide, if_true]
  refine Ev.bind (ev_logOf _) ?_
  simp only [n1, n2, if_false]
  refine Ev.bind (ev_areElements _ _ _ a (by omega)) ?_
  simp only [elB_iff.2 he, if_true, w64 (x := 0 + 1) (by decide) (by decide)]
  refine ev_s ?_
  simp only [impl_vectorField.l0, hl, show ¬ ((0 : Int) + 1 < 1) from by decide, if_false]
  exact Ev.now _
theorem lg_small {n : Nat} (h : 0 ≤ lg (n : Int)) : n ≤ 512 := by
  rcases lg_cases (n : Int) with ⟨e, _⟩ | ⟨k, hk, _, e⟩
  · omega
  · have := two_pow_le hk; omega
theorem ev_vectorField1_bad {f : Int} {a : List Int} (h : ¬ VecOk f a) : Ev (fun k => impl_vectorField.f k f [a]) (0, 0, 0, false) := by
  unfold impl_vectorField.f
  by_cases hf : 0 ≤ f ∧ f < 9
  · have hl : (([a] : List (List Int)).length : Int) = 1 := rfl
    have hr : rd_L1 [a] 0 = a := rfl
    simp only [ev_fieldOf hf, Option.bind_some, if_true, hl]
    refine ev_s ?_
    simp only [impl_vectorField.l0, hl, hr, show (0 : Int) < 1 from by decide, show (0 : Int) ≤ 0 from by decide, if_true]
    refine Ev.bind (ev_logOf _) ?_
    by_cases n1 : lg (a.length : Int) < 0
    · simp only [n1, if_true]; exact Ev.now _
    by_cases n2 : lg (a.length : Int) > tp f
    · simp only [n1, n2, if_true, if_false]; exact Ev.now _
    simp only [n1, n2, if_false]
    have hs := lg_small (n := a.length) (by omega)
    refine Ev.bind (ev_areElements _ _ _ a (by omega)) ?_
    have he : elB (md f) a = false := by
      rw [← Bool.not_eq_true, elB_iff]
      intro he
      exact h (vec_of hf (by omega) (by omega) he)
    simp only [he, Bool.false_eq_true, if_false]
    exact Ev.now _
  · simp only [ev_fieldOf_bad hf, Option.bind_some, Bool.false_eq_true, if_false]
    exact Ev.now _

theorem FnExactRingOne : laws_FnExactRingOne.Pure := by
  intro f n hf hn
  have bn := wf_i64 hn
  refine Ev.rounds ?_
  unfold laws_FnExactRingOne.f
  obtain ⟨R, hR1, hR2, hRl⟩ : ∃ R, Ev (fun k => spec_RingOne.f k f n) R ∧ Ev (fun k => impl_RingOne.f k f n) R ∧ R.length ≤ 1048576 := by
    have sbad : Ev (fun k => spec_RingOne.j0 k n true) [] := by
      refine ev_s ?_
      simp only [spec_RingOne.j0, if_true]; exact Ev.now _
    by_cases h : 0 ≤ lg n ∧ lg n ≤ tp f
    · rcases lg_cases n with ⟨e, _⟩ | ⟨k, hk, ek, en⟩
      · omega
      have h2 := two_pow_le hk
      have hf9 : 0 ≤ f ∧ f < 9 := by
        by_cases c : 0 ≤ f ∧ f < 9
        · exact c
        · have := tp_bad c; omega
      have hp := pm_of hf9
      unfold Pm at hp
      refine ⟨1 :: List.replicate (n.toNat - 1) 0, ?_, ?_, by simp; omega⟩
      · unfold spec_RingOne.f
        refine Ev.bind (ev_LogOf n) ?_
        have g1 : ¬ (lg n < 0) := by omega
        simp only [g1, if_false]
        refine Ev.bind (ev_TwoPower f) ?_
        simp only [decide_eq_false (show ¬ (lg n > tp f) by omega)]
        refine ev_s ?_
        simp only [spec_RingOne.j0, Bool.false_eq_true, if_false]
        have key : ∀ (d c : Nat) (out : List Int), c + d = n.toNat → 1 ≤ c → out = 1 :: List.replicate (c - 1) 0 → Ev (fun k => spec_RingOne.l0 k n out (c : Int)) (1 :: List.replicate (n.toNat - 1) 0) := by
          intro d
          induction d with
          | zero =>
            intro c out hc h1 ho
            refine ev_s ?_
            have g : ¬ ((c : Int) < n) := by omega
            simp only [spec_RingOne.l0, g, if_false]
            rw [ho, show c = n.toNat by omega]; exact Ev.now _
          | succ d ih =>
            intro c out hc h1 ho
            refine ev_s ?_
            have g : (c : Int) < n := by omega
            have g2 : out.length < 17592186044416 := by subst ho; simp; omega
            simp only [spec_RingOne.l0, g, g2, if_true, w_succ (n := c) (by omega)]
            refine ih (c + 1) _ (by omega) (by omega) ?_
            obtain ⟨m, rfl⟩ : ∃ m, c = m + 1 := ⟨c - 1, by omega⟩
            rw [ho, show m + 1 + 1 - 1 = m + 1 by omega, show m + 1 - 1 = m by omega, List.replicate_succ', List.cons_append]
        exact key (n.toNat - 1) 1 [1] (by omega) (by omega) rfl
      · unfold impl_RingOne.f
        have g1 : ¬ (n < 1) := by omega
        simp only [g1, if_false, decide_eq_false (show ¬ (n > 512) by omega)]
        refine ev_s ?_
        have g2 : (0 : Int) ≤ n := by omega
        have g3 : n.toNat ≤ 35184372088832 := by omega
        have g4 : (0 : Int) < ((List.replicate n.toNat (0 : Int)).length : Int) := by simp; omega
        have eset : (List.replicate n.toNat (0 : Int)).set (0 : Int).toNat 1 = 1 :: List.replicate (n.toNat - 1) 0 := by
          obtain ⟨m, hm⟩ : ∃ m, n.toNat = m + 1 := ⟨n.toNat - 1, by omega⟩
          rw [hm, List.replicate_succ]; rfl
        simp only [impl_RingOne.j0, Bool.false_eq_true, if_false, g2, g3, g4, if_true, Option.bind_some, eset]
        refine Ev.bind (ev_vectorField1 (vec_of hf9 ?_ ?_ ?_)) ?_
        · rw [show ((1 :: List.replicate (n.toNat - 1) (0 : Int)).length : Int) = n by simp; omega]; exact h.1
        · rw [show ((1 :: List.replicate (n.toNat - 1) (0 : Int)).length : Int) = n by simp; omega]; exact h.2
        · intro x hx
          rcases List.mem_cons.1 hx with hx | hx
          · omega
          · rw [List.mem_replicate] at hx; omega
        · simp only [if_true]; exact Ev.now _
    · refine ⟨[], ?_, ?_, by simp⟩
      · unfold spec_RingOne.f
        refine Ev.bind (ev_LogOf n) ?_
        by_cases g1 : lg n < 0
        · simp only [g1, if_true]; exact sbad
        · simp only [g1, if_false]
          refine Ev.bind (ev_TwoPower f) ?_
          simp only [decide_eq_true (show lg n > tp f by omega)]; exact sbad
      · unfold impl_RingOne.f
        have ibad : Ev (fun k => impl_RingOne.j0 k f n true) [] := by
          refine ev_s ?_
          simp only [impl_RingOne.j0, if_true]; exact Ev.now _
        by_cases g1 : n < 1
        · simp only [g1, if_true]; exact ibad
        by_cases g5 : n > 512
        · simp only [g1, if_false, decide_eq_true g5]; exact ibad
        simp only [g1, if_false, decide_eq_false g5]
        refine ev_s ?_
        have g2 : (0 : Int) ≤ n := by omega
        have g3 : n.toNat ≤ 35184372088832 := by omega
        have g4 : (0 : Int) < ((List.replicate n.toNat (0 : Int)).length : Int) := by simp; omega
        simp only [impl_RingOne.j0, Bool.false_eq_true, if_false, g2, g3, g4, if_true, Option.bind_some]
        refine Ev.bind (ev_vectorField1_bad (fun hv => h ?_)) ?_
        · have := hv.lg
          rw [show (((List.replicate n.toNat (0 : Int)).set (0 : Int).toNat 1).length : Int) = n by simp; omega] at this
          exact this
        · simp only [Bool.false_eq_true, if_false]; exact Ev.now _
  have nR : ¬ ((1 : Int) + (R.length : Int) < 0) := by omega
  have nL : ¬ ((1 : Int) < 0) := by omega
  repeat first
    | exact Ev.now _
    | refine Ev.bind hR1 ?_
    | refine Ev.bind hR2 ?_
    | refine Ev.bind (ev_eqIntS R (by omega)) ?_
    | refine Ev.bind (ev_mark R 1 (by omega) (by omega) (by omega)) ?_
    | refine Ev.bind (ev_held R.length 1 (by omega) (by omega) (by omega)) ?_
    | simp only [if_true, nR, nL, if_false, bne_self_eq_false, Bool.false_eq_true, Bool.not_true]

end Go.Proofs.Ytcmhifpbpdbfhaa.Pure
