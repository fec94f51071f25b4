/- FnExactRingPower returns true for every field number, list and number: both powers are the same list. -/
import Derived.Test.YthdmhmhcmokieaaPFnExactRingPowerx6
import Derived.Test.YthdmhmhcmokieaaGB
import Derived.Test.YthdmhmhcmokieaaGH
set_option linter.unusedVariables false
set_option linter.unusedSimpArgs false
namespace Go.Proofs.Ythdmhmhcmokieaa.Pure
open Go.RowKit Go.Proofs.Ythdmhmhcmokieaa.PFnExactRingPower Go.Proofs.YthdmhmhcmokieaaW.PrintWords Go.Proofs.YthdmhmhcmokieaaW.PrintLast Go.Proofs.YthdmhmhcmokieaaW.PrintMore G7
theorem ev_toIntS (l : List Int) (hl : l.length ≤ 35184372088832) : Ev (fun k => laws_toIntS.f k l) l := by
  have key : ∀ (d i : Nat) (out : List Int), i + d = l.length → out.length = l.length → (∀ j : Nat, j < i → rd out (j : Int) = rd l (j : Int)) → Ev (fun k => laws_toIntS.l0 k l out (i : Int)) l := by
    intro d
    induction d with
    | zero =>
      intro i out hi ho hx
      refine ev_s ?_
      have h1 : ¬ ((i : Int) < (l.length : Int)) := by omega
      simp only [laws_toIntS.l0, h1, if_false]
      rw [ext_rd ho (fun j hj => hx j (by omega))]
      exact Ev.now _
    | succ d ih =>
      intro i out hi ho hx
      refine ev_s ?_
      have h1 : (i : Int) < (l.length : Int) := by omega
      have h2 : (0 : Int) ≤ (i : Int) := by omega
      have h3 : (i : Int) < (out.length : Int) := by omega
      simp only [laws_toIntS.l0, h1, h2, h3, if_true, w_succ (n := i) (by omega), Int.toNat_natCast]
      refine ih (i + 1) _ (by omega) (by rw [List.length_set]; exact ho) (fun j hj => ?_)
      by_cases c : i = j
      · subst c; rw [rd_set_eq (by omega)]
      · rw [rd_set_ne c]; exact hx j (by omega)
  unfold laws_toIntS.f
  have h1 : (0 : Int) ≤ (l.length : Int) := by omega
  simp only [h1, if_true, Int.toNat_natCast, hl]
  exact key l.length 0 _ (by omega) (by simp) (fun j hj => by omega)

theorem ev_eqIntS (l : List Int) (hl : l.length ≤ 35184372088832) : Ev (fun k => laws_eqIntS.f k l l) true := by
  have key : ∀ (d i : Nat), i + d = l.length → Ev (fun k => laws_eqIntS.l0 k l l (i : Int)) true := by
    intro d
    induction d with
    | zero =>
      intro i hi
      refine ev_s ?_
      have h1 : ¬ ((i : Int) < (l.length : Int)) := by omega
      simp only [laws_eqIntS.l0, h1, if_false]
      exact Ev.now _
    | succ d ih =>
      intro i hi
      refine ev_s ?_
      have h1 : (i : Int) < (l.length : Int) := by omega
      have h2 : (0 : Int) ≤ (i : Int) := by omega
      simp only [laws_eqIntS.l0, h1, h2, if_true, w_succ (n := i) (by omega)]
      exact ih (i + 1) (by omega)
  unfold laws_eqIntS.f
  simp only [if_true]
  exact key l.length 0 (by omega)

/-- What markIntS leaves. -/
def marks (n : Nat) (m : Int) : List Int := (List.range n).map (fun i => m + (i : Nat))
theorem marks_len (n : Nat) (m : Int) : (marks n m).length = n := by simp [marks]
theorem marks_rd {n i : Nat} (m : Int) (h : i < n) : rd (marks n m) (i : Int) = m + i := by unfold marks; rw [rd_map _ h]
theorem ev_mark (l : List Int) (m : Int) (hl : l.length ≤ 35184372088832) (h0 : 0 ≤ m) (h1 : m ≤ 4611686018427387904) : Ev (fun k => laws_markIntS.f k l m) (m + l.length, marks l.length m) := by
  have key : ∀ (d i : Nat) (out : List Int), i + d = l.length → out.length = l.length → (∀ j : Nat, j < i → rd out (j : Int) = m + j) → Ev (fun k => laws_markIntS.l0 k out (m + i) (i : Int)) (m + l.length, marks l.length m) := by
    intro d
    induction d with
    | zero =>
      intro i out hi ho hx
      refine ev_s ?_
      have g1 : ¬ ((i : Int) < (out.length : Int)) := by omega
      simp only [laws_markIntS.l0, g1, if_false]
      have e : out = marks l.length m := ext_rd (by rw [marks_len, ho]) (fun j hj => by rw [marks_rd m (by omega)]; exact hx j (by omega))
      rw [e, show i = l.length by omega]
      exact Ev.now _
    | succ d ih =>
      intro i out hi ho hx
      refine ev_s ?_
      have g1 : (i : Int) < (out.length : Int) := by omega
      have g2 : (0 : Int) ≤ (i : Int) := by omega
      simp only [laws_markIntS.l0, g1, g2, if_true, w_succ (n := i) (by omega), Int.toNat_natCast, w64 (x := m + (i : Int) + 1) (by omega) (by omega)]
      rw [show m + (i : Int) + 1 = m + ((i + 1 : Nat) : Int) by omega]
      refine ih (i + 1) _ (by omega) (by rw [List.length_set]; exact ho) (fun j hj => ?_)
      by_cases c : i = j
      · subst c; rw [rd_set_eq (by omega)]
      · rw [rd_set_ne c]; exact hx j (by omega)
  unfold laws_markIntS.f
  have := key l.length 0 l (by omega) rfl (fun j hj => by omega)
  simpa using this
theorem ev_held (n : Nat) (m : Int) (hl : n ≤ 35184372088832) (h0 : 0 ≤ m) (h1 : m ≤ 4611686018427387904) : Ev (fun k => laws_heldIntS.f k (marks n m) m) (m + n) := by
  have key : ∀ (d i : Nat), i + d = n → Ev (fun k => laws_heldIntS.l0 k (marks n m) (m + i) (i : Int)) (m + n) := by
    intro d
    induction d with
    | zero =>
      intro i hi
      refine ev_s ?_
      have g1 : ¬ ((i : Int) < ((marks n m).length : Int)) := by rw [marks_len]; omega
      simp only [laws_heldIntS.l0, g1, if_false]
      rw [show i = n by omega]
      exact Ev.now _
    | succ d ih =>
      intro i hi
      refine ev_s ?_
      have g1 : (i : Int) < ((marks n m).length : Int) := by rw [marks_len]; omega
      have g2 : (0 : Int) ≤ (i : Int) := by omega
      simp only [laws_heldIntS.l0, g1, g2, if_true, marks_rd m (show i < n by omega), w_succ (n := i) (by omega), w64 (x := m + (i : Int) + 1) (by omega) (by omega)]
      rw [show m + (i : Int) + 1 = m + ((i + 1 : Nat) : Int) by omega]
      exact ih (i + 1) (by omega)
  unfold laws_heldIntS.f
  have := key n 0 (by omega)
  simpa using this

theorem ev_LogOf (n : Int) : Ev (fun k => spec_LogOf.f k n) (lg n) := by
  have key : ∀ (d c : Nat), c + d = 10 → Ev (fun k => spec_LogOf.l0 k n (c : Int)) (lgA n d c) := by
    intro d
    induction d with
    | zero =>
      intro c hc
      refine ev_s ?_
      have h1 : ¬ ((c : Int) ≤ 9) := by omega
      simp only [spec_LogOf.l0, h1, if_false]; exact Ev.now _
    | succ d ih =>
      intro c hc
      refine ev_s ?_
      have h1 : (c : Int) ≤ 9 := by omega
      have h2 : (0 : Int) ≤ (c : Int) := by omega
      simp only [spec_LogOf.l0, h1, u64_id (x := (c : Int)) (by omega) (by omega), h2, if_true, shl1 (c := c) (by omega), w_succ (n := c) (by omega)]
      unfold lgA
      by_cases h : n = ((2 ^ c : Nat) : Int)
      · rw [if_pos h]; simp only [if_pos h]; exact Ev.now _
      · rw [if_neg h]; simp only [if_neg h]; exact ih (c + 1) (by omega)
  exact key 10 0 rfl

theorem ev_Modulus (f : Int) : spec_Modulus.f f = some (md f) := by
  unfold spec_Modulus.f md
  by_cases h0 : f = 0
  · rw [if_pos h0, if_pos h0]
  rw [if_neg h0, if_neg h0]
  by_cases h1 : f = 1
  · rw [if_pos h1, if_pos h1]
  rw [if_neg h1, if_neg h1]
  by_cases h2 : f = 2
  · rw [if_pos h2, if_pos h2]
  rw [if_neg h2, if_neg h2]
  by_cases h3 : f = 3
  · rw [if_pos h3, if_pos h3]
  rw [if_neg h3, if_neg h3]
  by_cases h4 : f = 4
  · rw [if_pos h4, if_pos h4]
  rw [if_neg h4, if_neg h4]
  by_cases h5 : f = 5
  · rw [if_pos h5, if_pos h5]
  rw [if_neg h5, if_neg h5]
  by_cases h6 : f = 6
  · rw [if_pos h6, if_pos h6]
  rw [if_neg h6, if_neg h6]
  by_cases h7 : f = 7
  · rw [if_pos h7, if_pos h7]
  rw [if_neg h7, if_neg h7]
  by_cases h8 : f = 8
  · rw [if_pos h8, if_pos h8]
  rw [if_neg h8, if_neg h8]

theorem ev_TwoPower (f : Int) : Ev (fun k => spec_TwoPower.f k f) (tp f) := by
  unfold spec_TwoPower.f
  simp only [ev_Modulus, Option.bind_some]
  by_cases h : 0 ≤ f ∧ f < 9
  · have hp := pm_of h
    unfold Pm at hp
    obtain ⟨e1, e2, e3, e4, e5⟩ := oddP_spec h
    simp only [show ¬ (md f = 0) from by omega, if_false, w64 (x := md f - 1) (by omega) (by omega)]
    have key : ∀ (t : Nat) (c : Int), 0 ≤ c → c + t ≤ 100 → oddP f * ((2 ^ t : Nat) : Int) ≤ md f - 1 → Ev (fun k => spec_TwoPower.l0 k c (oddP f * ((2 ^ t : Nat) : Int))) (c + t) := by
      intro t
      induction t with
      | zero =>
        intro c hc hct hb
        refine ev_s ?_
        rw [Nat.pow_zero, Int.natCast_one, Int.mul_one] at *
        have h1 : ¬ (Int.tmod (oddP f) 2 = 0) := by rw [tmod_nn (by omega)]; omega
        simp only [spec_TwoPower.l0, h1, if_false, Int.natCast_zero, Int.add_zero]; exact Ev.now _
      | succ t ih =>
        intro c hc hct hb
        have e : oddP f * ((2 ^ (t + 1) : Nat) : Int) = 2 * (oddP f * ((2 ^ t : Nat) : Int)) := by
          rw [Nat.pow_succ, Int.natCast_mul, ← Int.mul_assoc, Int.mul_comm]; rfl
        have hq : 0 ≤ oddP f * ((2 ^ t : Nat) : Int) := Int.mul_nonneg (by omega) (Int.natCast_nonneg _)
        rw [e] at hb ⊢
        have hs := ih (c + 1) (by omega) (by omega) (by omega)
        generalize oddP f * ((2 ^ t : Nat) : Int) = q at *
        refine ev_s ?_
        have h1 : Int.tmod (2 * q) 2 = 0 := by rw [tmod_nn (by omega)]; omega
        have h2 : wrap64 (Int.tdiv (2 * q) 2) = q := by
          rw [Int.tdiv_eq_ediv_of_nonneg (by omega), w64 (by omega) (by omega)]; omega
        simp only [spec_TwoPower.l0, h1, h2, if_true, w64 (x := c + 1) (by omega) (by omega)]
        exact ev_to hs (by omega)
    have := key (tp f).toNat 0 (by omega) (by omega) (by omega)
    rw [← e1] at this
    exact ev_to this (by omega)
  · simp only [md_bad h, if_true]
    rw [tp_bad h]; exact Ev.now _

theorem ev_l01In (x a b : Int) : spec_l01In.f x a b = some (decide (a ≤ x) && decide (x ≤ b)) := by
  unfold spec_l01In.f
  by_cases h : a ≤ x
  · rw [if_pos h, decide_eq_true h, Bool.true_and]
  · rw [if_neg h, decide_eq_false h, Bool.false_and]

theorem ev_l03Elements {f : Int} (h : 0 ≤ f ∧ f < 9) (l : List Int) (hl : l.length ≤ 35184372088832) : Ev (fun k => spec_l03Elements.f k f l) (elB (md f) l) := by
  have hp := pm_of h
  unfold Pm at hp
  have key : ∀ (d i : Nat), i + d = l.length → Ev (fun k => spec_l03Elements.l0 k l (md f) (i : Int)) (elB (md f) (l.drop i)) := by
    intro d
    induction d with
    | zero =>
      intro i hi
      refine ev_s ?_
      have h1 : ¬ ((i : Int) < (l.length : Int)) := by omega
      simp only [spec_l03Elements.l0, h1, if_false]
      rw [List.drop_of_length_le (by omega)]
      exact Ev.now _
    | succ d ih =>
      intro i hi
      refine ev_s ?_
      have h1 : (i : Int) < (l.length : Int) := by omega
      have h2 : (0 : Int) ≤ (i : Int) := by omega
      simp only [spec_l03Elements.l0, h1, h2, if_true, w_succ (n := i) (by omega), w64 (x := md f - 1) (by omega) (by omega), ev_l01In, Option.bind_some]
      rw [elB_drop (by omega)]
      rw [show decide (rd l (i : Int) < md f) = decide (rd l (i : Int) ≤ md f - 1) from decide_eq_decide.2 (by omega)]
      by_cases c : (decide (0 ≤ rd l (i : Int)) && decide (rd l (i : Int) ≤ md f - 1)) = true
      · simp only [c, if_true, Bool.true_and]
        exact ih (i + 1) (by omega)
      · simp only [Bool.not_eq_true] at c
        simp only [c, Bool.false_and, Bool.false_eq_true, if_false]
        exact Ev.now _
  unfold spec_l03Elements.f
  simp only [ev_Modulus, Option.bind_some]
  have h0 : ¬ (md f = 0) := by omega
  simp only [h0, if_false]
  exact key l.length 0 (by omega)
theorem ev_l03Elements_bad {f : Int} (h : ¬ (0 ≤ f ∧ f < 9)) (l : List Int) : Ev (fun k => spec_l03Elements.f k f l) false := by
  unfold spec_l03Elements.f
  simp only [ev_Modulus, Option.bind_some, md_bad h, if_true]
  exact Ev.now _

theorem ev_VectorOk {f : Int} {v : List Int} (h : VecOk f v) : Ev (fun k => spec_VectorOk.f k f v) true := by
  have hl := h.lg
  have hn := h.len
  unfold spec_VectorOk.f
  refine Ev.bind (ev_LogOf _) ?_
  have h1 : lg (v.length : Int) ≥ 0 := hl.1
  simp only [h1, if_true]
  refine Ev.bind (ev_TwoPower f) ?_
  simp only [hl.2, if_true]
  refine Ev.bind (ev_l03Elements h.1 v (by omega)) ?_
  rw [elB_iff.2 h.2.2]; exact Ev.now _
theorem ev_VectorOk_bad {f : Int} {v : List Int} (h : ¬ VecOk f v) : Ev (fun k => spec_VectorOk.f k f v) false := by
  unfold spec_VectorOk.f
  refine Ev.bind (ev_LogOf _) ?_
  by_cases h1 : lg (v.length : Int) ≥ 0
  · simp only [h1, if_true]
    refine Ev.bind (ev_TwoPower f) ?_
    have hn : v.length ≤ 512 := by
      rcases lg_cases (v.length : Int) with ⟨e, _⟩ | ⟨k, hk, _, e⟩
      · omega
      · have := two_pow_le hk; omega
    by_cases h2 : lg (v.length : Int) ≤ tp f
    · simp only [h2, if_true]
      by_cases hf : 0 ≤ f ∧ f < 9
      · refine Ev.bind (ev_l03Elements hf v (by omega)) ?_
        have he : elB (md f) v = false := by
          rw [← Bool.not_eq_true, elB_iff]
          intro he
          exact h (vec_of hf h1 h2 he)
        rw [he]; exact Ev.now _
      · refine Ev.bind (ev_l03Elements_bad hf v) ?_
        exact Ev.now _
    · simp only [h2, if_false]; exact Ev.now _
  · simp only [h1, if_false]; exact Ev.now _

theorem ev_l04Two {f : Int} {a b : List Int} (h : VecOk f a) (k : VecOk f b) (e : a.length = b.length) : Ev (fun k => spec_l04Two.f k f a b) true := by
  unfold spec_l04Two.f
  have g1 : (a.length : Int) = (b.length : Int) := by omega
  simp only [g1, if_true]
  refine Ev.bind (ev_VectorOk h) ?_
  simp only [if_true]
  refine Ev.bind (ev_VectorOk k) ?_
  exact Ev.now _
theorem ev_l04Two_bad {f : Int} {a b : List Int} (h : ¬ (VecOk f a ∧ VecOk f b ∧ a.length = b.length)) : Ev (fun k => spec_l04Two.f k f a b) false := by
  unfold spec_l04Two.f
  by_cases g1 : (a.length : Int) = (b.length : Int)
  · simp only [g1, if_true]
    by_cases ha : VecOk f a
    · refine Ev.bind (ev_VectorOk ha) ?_
      simp only [if_true]
      refine Ev.bind (ev_VectorOk_bad (fun hb => h ⟨ha, hb, by omega⟩)) ?_
      exact Ev.now _
    · refine Ev.bind (ev_VectorOk_bad ha) ?_
      simp only [Bool.false_eq_true, if_false]; exact Ev.now _
  · simp only [g1, if_false]; exact Ev.now _

theorem ev_Twisted {f : Int} {a b : List Int} (h : VecOk f a) (k : VecOk f b) (e : a.length = b.length) : Ev (fun k => spec_Twisted.f k f a b) (twS (md f) a b) := by
  have hn := h.len
  have hp := h.pm
  have hpp := hp
  unfold Pm at hpp
  have inner : ∀ (d j c : Nat) (out : List Int) (r : List Int), j + d = a.length → c < a.length → out.length ≤ 512 → Ev (fun k => spec_Twisted.l0 k a b (out ++ [sm a.length (tt a b a.length c) % md f]) (md f) (a.length : Int) ((c + 1 : Nat) : Int)) r → Ev (fun k => spec_Twisted.l1 k a b out (md f) (a.length : Int) (c : Int) (sm j (tt a b a.length c) % md f) (j : Int)) r := by
    intro d
    induction d with
    | zero =>
      intro j c out r hj hc ho hr
      refine ev_s ?_
      have g1 : ¬ ((j : Int) < (a.length : Int)) := by omega
      have g2 : out.length < 17592186044416 := by omega
      simp only [spec_Twisted.l1, g1, g2, if_false, if_true, w_succ (n := c) (by omega)]
      rw [show j = a.length by omega]; exact hr
    | succ d ih =>
      intro j c out r hj hc ho hr
      refine ev_s ?_
      have hs := ih (j + 1) c out r (by omega) hc ho hr
      have g1 : (j : Int) < (a.length : Int) := by omega
      have g2 : (0 : Int) ≤ (j : Int) := by omega
      have g3 : ¬ ((a.length : Int) = 0) := by omega
      have g4 : ¬ (md f = 0) := by omega
      have haj := h.2.2.rd hp.pos (j : Int)
      have hs1 := em_lt (a := sm j (tt a b a.length c)) hp.pos
      have ew : Int.tmod (wrap64 (wrap64 ((c : Int) - (j : Int)) + (a.length : Int))) (a.length : Int) = ((if j ≤ c then c - j else a.length + c - j : Nat) : Int) := by
        rw [w64 (x := (c : Int) - (j : Int)) (by omega) (by omega), w64 (by omega) (by omega), tmod_nn (by omega)]
        by_cases q : j ≤ c
        · rw [if_pos q, show (c : Int) - (j : Int) + (a.length : Int) = ((c - j : Nat) : Int) + (a.length : Int) by omega, Int.add_emod_right, Int.emod_eq_of_lt (by omega) (by omega)]
        · rw [if_neg q, Int.emod_eq_of_lt (by omega) (by omega)]; omega
      by_cases q : j ≤ c
      · rw [if_pos q] at ew
        have g5 : (0 : Int) ≤ ((c - j : Nat) : Int) := by omega
        have g6 : ((c - j : Nat) : Int) < (b.length : Int) := by omega
        have g7 : ¬ ((j : Int) > (c : Int)) := by omega
        have hbj := k.2.2.rd hp.pos ((c - j : Nat) : Int)
        have hm := mul_lt_big haj.1 haj.2 hbj.1 hbj.2 hpp.2
        have hm2 := em_lt (a := rd a (j : Int) * rd b ((c - j : Nat) : Int)) hp.pos
        simp only [spec_Twisted.l1, g1, g2, g3, g4, ew, g5, g6, g7, if_true, if_false, w_succ (n := j) (by omega)]
        rw [w64 (x := rd a (j : Int) * rd b ((c - j : Nat) : Int)) (by omega) (by omega), tmod_nn (a := rd a (j : Int) * rd b ((c - j : Nat) : Int)) (by omega), w64 (by omega) (by omega), tmod_nn (by omega), eadd_l, eadd_r]
        rw [sm_succ] at hs
        have et : tt a b a.length c j = rd a (j : Int) * rd b ((c - j : Nat) : Int) := by unfold tt; rw [if_pos q]
        rw [et] at hs
        exact hs
      · rw [if_neg q] at ew
        have g5 : (0 : Int) ≤ ((a.length + c - j : Nat) : Int) := by omega
        have g6 : ((a.length + c - j : Nat) : Int) < (b.length : Int) := by omega
        have g7 : (j : Int) > (c : Int) := by omega
        have hbj := k.2.2.rd hp.pos ((a.length + c - j : Nat) : Int)
        have hm := mul_lt_big haj.1 haj.2 hbj.1 hbj.2 hpp.2
        have hm2 := em_lt (a := rd a (j : Int) * rd b ((a.length + c - j : Nat) : Int)) hp.pos
        simp only [spec_Twisted.l1, g1, g2, g3, g4, ew, g5, g6, g7, if_true, if_false, w_succ (n := j) (by omega)]
        rw [w64 (x := rd a (j : Int) * rd b ((a.length + c - j : Nat) : Int)) (by omega) (by omega), tmod_nn (a := rd a (j : Int) * rd b ((a.length + c - j : Nat) : Int)) (by omega), w64 (x := md f - rd a (j : Int) * rd b ((a.length + c - j : Nat) : Int) % md f) (by omega) (by omega), w64 (by omega) (by omega), tmod_nn (by omega)]
        rw [sm_succ] at hs
        have et : tt a b a.length c j = -(rd a (j : Int) * rd b ((a.length + c - j : Nat) : Int)) := by unfold tt; rw [if_neg q]
        rw [et] at hs
        have ee : (sm j (tt a b a.length c) % md f + (md f - rd a (j : Int) * rd b ((a.length + c - j : Nat) : Int) % md f)) % md f = (sm j (tt a b a.length c) + -(rd a (j : Int) * rd b ((a.length + c - j : Nat) : Int))) % md f := by
          rw [show sm j (tt a b a.length c) % md f + (md f - rd a (j : Int) * rd b ((a.length + c - j : Nat) : Int) % md f) = sm j (tt a b a.length c) % md f - rd a (j : Int) * rd b ((a.length + c - j : Nat) : Int) % md f + md f by omega, Int.add_emod_right, esub_l, esub_r, Int.sub_eq_add_neg]
        rw [ee]
        exact hs
  have outer : ∀ (d c : Nat) (out : List Int), c + d = a.length → out = (List.range c).map (fun c => sm a.length (tt a b a.length c) % md f) → Ev (fun k => spec_Twisted.l0 k a b out (md f) (a.length : Int) (c : Int)) (twS (md f) a b) := by
    intro d
    induction d with
    | zero =>
      intro c out hc ho
      refine ev_s ?_
      have g1 : ¬ ((c : Int) < (a.length : Int)) := by omega
      simp only [spec_Twisted.l0, g1, if_false]
      rw [ho, show c = a.length by omega]; exact Ev.now _
    | succ d ih =>
      intro c out hc ho
      refine ev_s ?_
      have g1 : (c : Int) < (a.length : Int) := by omega
      simp only [spec_Twisted.l0, g1, if_true]
      have hi := inner a.length 0 c out (twS (md f) a b) (by omega) (by omega) (by subst ho; simp; omega) (ih (c + 1) _ (by omega) (by rw [map_snoc, ho]))
      rw [sm_zero, Int.zero_emod] at hi
      exact hi
  unfold spec_Twisted.f
  refine Ev.bind (ev_l04Two h k e) ?_
  simp only [if_true, ev_Modulus, Option.bind_some]
  exact outer a.length 0 [] (by omega) rfl

theorem ev_mul {p : Int} (hp : Pm p) (g t : Int) {a b : Int} (ha : 0 ≤ a ∧ a < p) (hb : 0 ≤ b ∧ b < p) : impl_field_mul.f p g t a b = some (a * b % p) := by
  unfold Pm at hp
  have h := mul_lt_big ha.1 ha.2 hb.1 hb.2 hp.2
  unfold impl_field_mul.f
  rw [if_neg (by omega), w64 (by omega) (by omega), tmod_nn (by omega)]

theorem ev_add {p : Int} (hp : Pm p) (g t : Int) {a b : Int} (ha : 0 ≤ a ∧ a < p) (hb : 0 ≤ b ∧ b < p) : impl_field_add.f p g t a b = some ((a + b) % p) := by
  unfold Pm at hp
  unfold impl_field_add.f
  rw [if_neg (by omega), w64 (by omega) (by omega), tmod_nn (by omega)]

theorem ev_sub {p : Int} (hp : Pm p) (g t : Int) {a b : Int} (ha : 0 ≤ a ∧ a < p) (hb : 0 ≤ b ∧ b < p) : impl_field_sub.f p g t a b = some ((a - b) % p) := by
  unfold Pm at hp
  unfold impl_field_sub.f
  rw [if_neg (by omega), w64 (x := a - b) (by omega) (by omega), w64 (by omega) (by omega), tmod_nn (by omega), Int.add_emod_right]

theorem ev_twisted {p : Int} (hp : Pm p) (g t : Int) {a b : List Int} (h2 : a.length ≤ 512) (e : a.length = b.length) (ha : El p a) (hb : El p b) : Ev (fun k => impl_field_twisted.f k p g t a b) (twS p a b) := by
  have inner : ∀ (d j i : Nat) (out : List Int) (r : List Int), j + d = a.length → i < a.length → out.length = a.length → (∀ c : Nat, c < a.length → rd out (c : Int) = tsc a b a.length i j c % p) →
      (∀ out' : List Int, out'.length = a.length → (∀ c : Nat, c < a.length → rd out' (c : Int) = sm (i + 1) (tt a b a.length c) % p) → Ev (fun k => impl_field_twisted.l0 k b (a.length : Int) out' a (a.length : Int) ((i + 1 : Nat) : Int) p g t) r) →
      Ev (fun k => impl_field_twisted.l1 k b (a.length : Int) out (i : Int) (rd a (i : Int)) a (a.length : Int) (i : Int) b (a.length : Int) (j : Int) p g t) r := by
    intro d
    induction d with
    | zero =>
      intro j i out r hj hi ho hx hr
      refine ev_s ?_
      have g1 : ¬ ((j : Int) < (a.length : Int)) := by omega
      simp only [impl_field_twisted.l1, g1, if_false, w_succ (n := i) (by omega)]
      exact hr out ho (fun c hc => by rw [hx c hc, show j = a.length by omega, tsc_row a b hi hc])
    | succ d ih =>
      intro j i out r hj hi ho hx hr
      refine ev_s ?_
      have ei : wrap64 ((i : Int) + (j : Int)) = ((i + j : Nat) : Int) := by rw [w64 (by omega) (by omega)]; omega
      have g1 : (j : Int) < (a.length : Int) := by omega
      have g2 : (0 : Int) ≤ (j : Int) := by omega
      have g3 : (j : Int) < (b.length : Int) := by omega
      have hai := ha.rd hp.pos (i : Int)
      have hbj := hb.rd hp.pos (j : Int)
      have hm := em_lt (a := rd a (i : Int) * rd b (j : Int)) hp.pos
      simp only [impl_field_twisted.l1, g1, g2, g3, if_true, ev_mul hp g t hai hbj, Option.bind_some, ei]
      by_cases q : i + j < a.length
      · have q1 : ((i + j : Nat) : Int) < (a.length : Int) := by omega
        have q2 : (0 : Int) ≤ ((i + j : Nat) : Int) := by omega
        have q3 : ((i + j : Nat) : Int) < (out.length : Int) := by omega
        have ho1 := hx (i + j) q
        have ho2 : 0 ≤ rd out ((i + j : Nat) : Int) ∧ rd out ((i + j : Nat) : Int) < p := by rw [ho1]; exact em_lt hp.pos
        simp only [q1, q2, q3, if_true, ev_add hp g t ho2 hm, Option.bind_some, w_succ (n := j) (by omega), Int.toNat_natCast]
        refine ih (j + 1) i _ r (by omega) hi (by rw [List.length_set]; exact ho) (fun c hc => ?_) hr
        by_cases e : i + j = c
        · subst e; rw [rd_set_eq (by omega), ho1, eadd_l, eadd_r, tsc_hit1]
        · rw [rd_set_ne e, hx c hc, tsc_miss a b (by omega) (by omega)]
      · have q1 : ¬ (((i + j : Nat) : Int) < (a.length : Int)) := by omega
        have en : wrap64 (((i + j : Nat) : Int) - (a.length : Int)) = ((i + j - a.length : Nat) : Int) := by rw [w64 (by omega) (by omega)]; omega
        have q2 : (0 : Int) ≤ ((i + j - a.length : Nat) : Int) := by omega
        have q3 : ((i + j - a.length : Nat) : Int) < (out.length : Int) := by omega
        have ho1 := hx (i + j - a.length) (by omega)
        have ho2 : 0 ≤ rd out ((i + j - a.length : Nat) : Int) ∧ rd out ((i + j - a.length : Nat) : Int) < p := by rw [ho1]; exact em_lt hp.pos
        simp only [q1, en, q2, q3, if_true, if_false, ev_sub hp g t ho2 hm, Option.bind_some, w_succ (n := j) (by omega), Int.toNat_natCast]
        refine ih (j + 1) i _ r (by omega) hi (by rw [List.length_set]; exact ho) (fun c hc => ?_) hr
        by_cases e : i + j - a.length = c
        · subst e; rw [rd_set_eq (by omega), ho1, esub_l, esub_r, tsc_hit2 a b hi (show j < a.length by omega) (show i + j - a.length + a.length = i + j by omega)]
        · rw [rd_set_ne e, hx c hc, tsc_miss a b (by omega) (by omega)]
  have outer : ∀ (d i : Nat) (out : List Int), i + d = a.length → out.length = a.length → (∀ c : Nat, c < a.length → rd out (c : Int) = sm i (tt a b a.length c) % p) → Ev (fun k => impl_field_twisted.l0 k b (a.length : Int) out a (a.length : Int) (i : Int) p g t) (twS p a b) := by
    intro d
    induction d with
    | zero =>
      intro i out hi ho hx
      refine ev_s ?_
      have g1 : ¬ ((i : Int) < (a.length : Int)) := by omega
      simp only [impl_field_twisted.l0, g1, if_false]
      have e : out = twS p a b := set_map_rd ho (fun c hc => by rw [hx c hc, show i = a.length by omega])
      rw [e]; exact Ev.now _
    | succ d ih =>
      intro i out hi ho hx
      refine ev_s ?_
      have g1 : (i : Int) < (a.length : Int) := by omega
      have g2 : (0 : Int) ≤ (i : Int) := by omega
      simp only [impl_field_twisted.l0, g1, g2, if_true]
      have hi2 := inner a.length 0 i out (twS p a b) (by omega) (by omega) ho (fun c hc => by rw [hx c hc, tsc_start a b (show i < a.length by omega)]) (fun out' ho' hx' => ih (i + 1) out' (by omega) ho' hx')
      rw [show ((b.length : Nat) : Int) = (a.length : Int) by omega]
      exact hi2
  unfold impl_field_twisted.f
  have g1 : (0 : Int) ≤ (a.length : Int) := by omega
  simp only [g1, if_true, Int.toNat_natCast, show a.length ≤ 35184372088832 from by omega]
  exact outer a.length 0 _ (by omega) (by simp) (fun c _ => by rw [rd_rep, sm_zero, Int.zero_emod])

theorem ev_RingOne {f : Int} {n : Nat} (h : 0 ≤ lg (n : Int) ∧ lg (n : Int) ≤ tp f) (h1 : 1 ≤ n ∧ n ≤ 512) : Ev (fun k => spec_RingOne.f k f (n : Int)) (oneS n) := by
  unfold spec_RingOne.f
  refine Ev.bind (ev_LogOf _) ?_
  have g1 : ¬ (lg (n : Int) < 0) := by omega
  simp only [g1, if_false]
  refine Ev.bind (ev_TwoPower f) ?_
  simp only [decide_eq_false (show ¬ (lg (n : Int) > tp f) by omega)]
  refine ev_s ?_
  simp only [spec_RingOne.j0, Bool.false_eq_true, if_false]
  have key : ∀ (d c : Nat) (out : List Int), c + d = n → 1 ≤ c → out = 1 :: List.replicate (c - 1) 0 → Ev (fun k => spec_RingOne.l0 k (n : Int) out (c : Int)) (oneS n) := by
    intro d
    induction d with
    | zero =>
      intro c out hc h1 ho
      refine ev_s ?_
      have g : ¬ ((c : Int) < (n : Int)) := by omega
      simp only [spec_RingOne.l0, g, if_false]
      rw [ho, show c = n by omega]; exact Ev.now _
    | succ d ih =>
      intro c out hc h1 ho
      refine ev_s ?_
      have g : (c : Int) < (n : Int) := by omega
      have g2 : out.length < 17592186044416 := by subst ho; simp; omega
      simp only [spec_RingOne.l0, g, g2, if_true, w_succ (n := c) (by omega)]
      refine ih (c + 1) _ (by omega) (by omega) ?_
      obtain ⟨m, rfl⟩ : ∃ m, c = m + 1 := ⟨c - 1, by omega⟩
      rw [ho, show m + 1 + 1 - 1 = m + 1 by omega, show m + 1 - 1 = m by omega, List.replicate_succ', List.cons_append]
  exact key (n - 1) 1 [1] (by omega) (by omega) rfl

theorem ev_l01Copy (l : List Int) (hl : l.length ≤ 17592186044416) : Ev (fun k => spec_l01Copy.f k l) l := by
  have key : ∀ (d i : Nat), i + d = l.length → Ev (fun k => spec_l01Copy.l0 k l (l.take i) (i : Int)) l := by
    intro d
    induction d with
    | zero =>
      intro i hi
      refine ev_s ?_
      have g1 : ¬ ((i : Int) < (l.length : Int)) := by omega
      simp only [spec_l01Copy.l0, g1, if_false]
      rw [List.take_of_length_le (by omega)]; exact Ev.now _
    | succ d ih =>
      intro i hi
      refine ev_s ?_
      have g1 : (i : Int) < (l.length : Int) := by omega
      have g2 : (0 : Int) ≤ (i : Int) := by omega
      have g3 : (l.take i).length < 17592186044416 := by rw [List.length_take]; omega
      simp only [spec_l01Copy.l0, g1, g2, g3, if_true, w_succ (n := i) (by omega)]
      rw [rd_at (show i < l.length by omega), List.take_append_getElem (show i < l.length by omega)]
      exact ih (i + 1) (by omega)
  exact key l.length 0 (by omega)

theorem ev_fieldOf {f : Int} (h : 0 ≤ f ∧ f < 9) : impl_fieldOf.f f = some (md f, gn f, tp f, true) := by
  rcases fcases h.1 h.2 with e | e | e | e | e | e | e | e | e <;> subst e <;> rfl
theorem ev_fieldOf_bad {f : Int} (h : ¬ (0 ≤ f ∧ f < 9)) : impl_fieldOf.f f = some (0, 0, 0, false) := by
  unfold impl_fieldOf.f
  by_cases c : f < 0
  · rw [if_pos c]
  · rw [if_neg c, if_pos (by omega)]

theorem ev_logOf (n : Int) : Ev (fun k => impl_logOf.f k n) (lg n) := by
  have key : ∀ (d c : Nat), c + d = 10 → Ev (fun k => impl_logOf.l0 k n (c : Int)) (lgA n d c) := by
    intro d
    induction d with
    | zero =>
      intro c hc
      refine ev_s ?_
      have h1 : ¬ ((c : Int) < 10) := by omega
      simp only [impl_logOf.l0, h1, if_false]; exact Ev.now _
    | succ d ih =>
      intro c hc
      refine ev_s ?_
      have h1 : (c : Int) < 10 := by omega
      have h2 : (0 : Int) ≤ (c : Int) := by omega
      simp only [impl_logOf.l0, h1, h2, if_true, shl1 (c := c) (by omega), w_succ (n := c) (by omega)]
      unfold lgA
      by_cases h : n = ((2 ^ c : Nat) : Int)
      · rw [if_pos h]; simp only [if_pos h]; exact Ev.now _
      · rw [if_neg h]; simp only [if_neg h]; exact ih (c + 1) (by omega)
  exact key 10 0 rfl

theorem ev_areElements (p g t : Int) (l : List Int) (hl : l.length ≤ 35184372088832) : Ev (fun k => impl_field_areElements.f k p g t l) (elB p l) := by
  have key : ∀ (d i : Nat), i + d = l.length → Ev (fun k => impl_field_areElements.l0 k l (l.length : Int) (i : Int) p g t) (elB p (l.drop i)) := by
    intro d
    induction d with
    | zero =>
      intro i hi
      refine ev_s ?_
      have h1 : ¬ ((i : Int) < (l.length : Int)) := by omega
      simp only [impl_field_areElements.l0, h1, if_false]
      rw [List.drop_of_length_le (by omega)]
      exact Ev.now _
    | succ d ih =>
      intro i hi
      refine ev_s ?_
      have h1 : (i : Int) < (l.length : Int) := by omega
      have h2 : (0 : Int) ≤ (i : Int) := by omega
      simp only [impl_field_areElements.l0, h1, h2, if_true, w_succ (n := i) (by omega)]
      rw [elB_drop (by omega)]
      by_cases c1 : rd l (i : Int) < 0
      · simp only [c1, if_true, show decide (0 ≤ rd l (i : Int)) = false from decide_eq_false (by omega), Bool.false_and]
        exact Ev.now _
      · by_cases c2 : rd l (i : Int) ≥ p
        · simp only [c1, c2, if_true, if_false, show decide (rd l (i : Int) < p) = false from decide_eq_false (by omega), Bool.false_and, Bool.and_false]
          exact Ev.now _
        · simp only [c1, c2, if_false, show decide (0 ≤ rd l (i : Int)) = true from decide_eq_true (by omega), show decide (rd l (i : Int) < p) = true from decide_eq_true (by omega), Bool.true_and]
          exact ih (i + 1) (by omega)
  exact key l.length 0 (by omega)

theorem ev_vectorField1 {f : Int} {a : List Int} (h : VecOk f a) : Ev (fun k => impl_vectorField.f k f [a]) (md f, gn f, tp f, true) := by
  have hlg := h.lg
  have hn := h.len
  obtain ⟨hf, _, he⟩ := h
  unfold impl_vectorField.f
  have hl : (([a] : List (List Int)).length : Int) = 1 := rfl
  have hr : rd_L1 [a] 0 = a := rfl
  have n1 : ¬ (lg (a.length : Int) < 0) := by omega
  have n2 : ¬ (lg (a.length : Int) > tp f) := by omega
  simp only [ev_fieldOf hf, Option.bind_some, if_true, hl]
  refine ev_s ?_
  simp only [impl_vectorField.l0, hl, hr, show (0 : Int) < 1 from by decide, show (0 : Int) ≤ 0 from by decide, if_true]
  refine Ev.bind (ev_logOf _) ?_
  simp only [n1, n2, if_false]
  refine Ev.bind (ev_areElements _ _ _ a (by omega)) ?_
  simp only [elB_iff.2 he, if_true, w64 (x := 0 + 1) (by decide) (by decide)]
  refine ev_s ?_
  simp only [impl_vectorField.l0, hl, show ¬ ((0 : Int) + 1 < 1) from by decide, if_false]
  exact Ev.now _
theorem lg_small {n : Nat} (h : 0 ≤ lg (n : Int)) : n ≤ 512 := by
  rcases lg_cases (n : Int) with ⟨e, _⟩ | ⟨k, hk, _, e⟩
  · omega
  · have := two_pow_le hk; omega
theorem ev_vectorField1_bad {f : Int} {a : List Int} (h : ¬ VecOk f a) : Ev (fun k => impl_vectorField.f k f [a]) (0, 0, 0, false) := by
  unfold impl_vectorField.f
  by_cases hf : 0 ≤ f ∧ f < 9
  · have hl : (([a] : List (List Int)).length : Int) = 1 := rfl
    have hr : rd_L1 [a] 0 = a := rfl
    simp only [ev_fieldOf hf, Option.bind_some, if_true, hl]
    refine ev_s ?_
    simp only [impl_vectorField.l0, hl, hr, show (0 : Int) < 1 from by decide, show (0 : Int) ≤ 0 from by decide, if_true]
    refine Ev.bind (ev_logOf _) ?_
    by_cases n1 : lg (a.length : Int) < 0
    · simp only [n1, if_true]; exact Ev.now _
    by_cases n2 : lg (a.length : Int) > tp f
    · simp only [n1, n2, if_true, if_false]; exact Ev.now _
    simp only [n1, n2, if_false]
    have hs := lg_small (n := a.length) (by omega)
    refine Ev.bind (ev_areElements _ _ _ a (by omega)) ?_
    have he : elB (md f) a = false := by
      rw [← Bool.not_eq_true, elB_iff]
      intro he
      exact h (vec_of hf (by omega) (by omega) he)
    simp only [he, Bool.false_eq_true, if_false]
    exact Ev.now _
  · simp only [ev_fieldOf_bad hf, Option.bind_some, Bool.false_eq_true, if_false]
    exact Ev.now _

theorem ev_RingPower_run {f : Int} : ∀ (n e : Nat) (out x : List Int), e < 2 ^ n → e < 9223372036854775807 → VecOk f out → VecOk f x → out.length = x.length → Ev (fun k => spec_RingPower.l0 k f out x (e : Int)) (powR (twS (md f)) n e x out, true) := by
  intro n
  induction n with
  | zero =>
    intro e out x he hb ho hx hl
    refine ev_s ?_
    have g1 : ¬ ((e : Int) > 0) := by simp at he; omega
    simp only [spec_RingPower.l0, g1, if_false]; exact Ev.now _
  | succ n ih =>
    intro e out x he hb ho hx hl
    refine ev_s ?_
    by_cases g : e = 0
    · have g1 : ¬ ((e : Int) > 0) := by omega
      simp only [spec_RingPower.l0, g1, if_false]
      rw [g, powR_zero]; exact Ev.now _
    · have g1 : (e : Int) > 0 := by omega
      have ed : wrap64 (Int.tdiv (e : Int) 2) = ((e / 2 : Nat) : Int) := by rw [Int.tdiv_eq_ediv_of_nonneg (by omega), w64 (by omega) (by omega)]; omega
      have em : Int.tmod (e : Int) 2 = ((e % 2 : Nat) : Int) := by rw [tmod_nn (by omega)]; omega
      have h2 : e / 2 < 2 ^ n := by rw [Nat.pow_succ] at he; omega
      simp only [spec_RingPower.l0, g1, if_true, ed, em]
      unfold powR
      rw [if_neg g]
      by_cases q : e % 2 = 1
      · have q1 : ((e % 2 : Nat) : Int) = 1 := by omega
        simp only [q1, if_true]
        rw [if_pos q]
        refine Ev.bind (ev_Twisted ho hx hl) ?_
        refine Ev.bind (ev_Twisted hx hx rfl) ?_
        exact ih (e / 2) _ _ h2 (by omega) (twS_ok ho) (twS_ok hx) (by rw [twS_len, twS_len, hl])
      · have q1 : ¬ (((e % 2 : Nat) : Int) = 1) := by omega
        simp only [q1, if_false]
        rw [if_neg q]
        refine Ev.bind (ev_Twisted hx hx rfl) ?_
        exact ih (e / 2) _ _ h2 (by omega) ho (twS_ok hx) (by rw [twS_len, hl])
theorem ev_iRingPower_run {f : Int} (g t : Int) : ∀ (n e : Nat) (out x : List Int), e < 2 ^ n → e < 9223372036854775807 → VecOk f out → VecOk f x → out.length = x.length → Ev (fun k => impl_RingPower.l0 k (e : Int) out x (md f) g t) (powR (twS (md f)) n e x out, true) := by
  intro n
  induction n with
  | zero =>
    intro e out x he hb ho hx hl
    refine ev_s ?_
    have g1 : ¬ ((e : Int) > 0) := by simp at he; omega
    simp only [impl_RingPower.l0, g1, if_false]; exact Ev.now _
  | succ n ih =>
    intro e out x he hb ho hx hl
    refine ev_s ?_
    have hxx : Ev (fun k => impl_field_twisted.f k (md f) g t x x) (twS (md f) x x) := ev_twisted hx.pm g t hx.len.2 rfl hx.2.2 hx.2.2
    by_cases c : e = 0
    · have g1 : ¬ ((e : Int) > 0) := by omega
      simp only [impl_RingPower.l0, g1, if_false]
      rw [c, powR_zero]; exact Ev.now _
    · have g1 : (e : Int) > 0 := by omega
      have ed : wrap64 (Int.tdiv (e : Int) 2) = ((e / 2 : Nat) : Int) := by rw [Int.tdiv_eq_ediv_of_nonneg (by omega), w64 (by omega) (by omega)]; omega
      have em : Int.tmod (e : Int) 2 = ((e % 2 : Nat) : Int) := by rw [tmod_nn (by omega)]; omega
      have h2 : e / 2 < 2 ^ n := by rw [Nat.pow_succ] at he; omega
      simp only [impl_RingPower.l0, g1, if_true, ed, em]
      unfold powR
      rw [if_neg c]
      by_cases q : e % 2 = 1
      · have q1 : ((e % 2 : Nat) : Int) = 1 := by omega
        simp only [q1, if_true]
        rw [if_pos q]
        refine Ev.bind (ev_twisted ho.pm g t ho.len.2 hl ho.2.2 hx.2.2) ?_
        refine Ev.bind hxx ?_
        exact ih (e / 2) _ _ h2 (by omega) (twS_ok ho) (twS_ok hx) (by rw [twS_len, twS_len, hl])
      · have q1 : ¬ (((e % 2 : Nat) : Int) = 1) := by omega
        simp only [q1, if_false]
        rw [if_neg q]
        refine Ev.bind hxx ?_
        exact ih (e / 2) _ _ h2 (by omega) ho (twS_ok hx) (by rw [twS_len, hl])
theorem powR_twS_len {p : Int} {x out : List Int} (h : out.length = x.length) : ∀ (n e : Nat) (x out : List Int), (powR (twS p) n e x out).length = out.length := by
  intro n
  induction n with
  | zero => intro e x out; rfl
  | succ n ih =>
    intro e x out
    unfold powR
    by_cases c : e = 0
    · rw [if_pos c]
    · rw [if_neg c, ih]
      by_cases q : e % 2 = 1
      · rw [if_pos q, twS_len]
      · rw [if_neg q]
theorem FnExactRingPower : laws_FnExactRingPower.Pure := by
  intro f l e hf hl hl8 hwl he
  have be := wf_i64 he
  refine Ev.rounds ?_
  unfold laws_FnExactRingPower.f
  by_cases hbig : (l.length : Int) > 1048576
  · simp only [hbig, if_true]; exact Ev.now _
  simp only [hbig, if_false]
  have hll : l.length ≤ 35184372088832 := by omega
  obtain ⟨R1, R2, hR1, hR2, hRl⟩ : ∃ (R1 : List Int) (R2 : Bool), Ev (fun k => spec_RingPower.f k f l e) (R1, R2) ∧ Ev (fun k => impl_RingPower.f k f l e) (R1, R2) ∧ R1.length ≤ 1048576 := by
    have sbad : Ev (fun k => spec_RingPower.j0 k f l e true) ([], false) := by
      refine ev_s ?_
      simp only [spec_RingPower.j0, if_true]; exact Ev.now _
    have ibad : ∀ p g t : Int, Ev (fun k => impl_RingPower.j0 k l e true p g t) ([], false) := fun p g t => by
      refine ev_s ?_
      simp only [impl_RingPower.j0, if_true]; exact Ev.now _
    by_cases hv : VecOk f l
    · by_cases h : 0 ≤ e ∧ e ≤ 1000000
      · have hn := hv.len
        obtain ⟨n, rfl⟩ : ∃ n : Nat, e = n := ⟨e.toNat, by omega⟩
        have hn2 : n < 2 ^ 20 := by have : (2 : Nat) ^ 20 = 1048576 := rfl; omega
        refine ⟨powR (twS (md f)) 20 n l (oneS l.length), true, ?_, ?_, by rw [powR_twS_len (x := l) (out := l) rfl, oneS_len hn.1]; omega⟩
        · unfold spec_RingPower.f
          refine Ev.bind (ev_VectorOk hv) ?_
          simp only [if_true, ev_l01In, Option.bind_some, decide_eq_true h.1, decide_eq_true h.2, Bool.and_self, Bool.not_true]
          refine ev_s ?_
          simp only [spec_RingPower.j0, Bool.false_eq_true, if_false]
          refine Ev.bind (ev_RingOne hv.lg hn) ?_
          refine Ev.bind (ev_l01Copy l (by omega)) ?_
          exact ev_RingPower_run 20 n _ _ hn2 (by omega) (oneS_ok hv) hv (oneS_len hn.1)
        · unfold impl_RingPower.f
          refine Ev.bind (ev_vectorField1 hv) ?_
          have g1 : ¬ ((n : Int) < 0) := by omega
          simp only [if_true, g1, if_false, decide_eq_false (show ¬ ((n : Int) > 1000000) by omega)]
          refine ev_s ?_
          have g2 : (0 : Int) ≤ (l.length : Int) := by omega
          have g4 : (0 : Int) < ((List.replicate l.length (0 : Int)).length : Int) := by simp; omega
          simp only [impl_RingPower.j0, Bool.false_eq_true, if_false, g2, Int.toNat_natCast, show l.length ≤ 35184372088832 from by omega, if_true, Option.bind_some, g4, oneS_set hn.1]
          exact ev_iRingPower_run _ _ 20 n _ _ hn2 (by omega) (oneS_ok hv) hv (oneS_len hn.1)
      · refine ⟨[], false, ?_, ?_, by simp⟩
        · unfold spec_RingPower.f
          refine Ev.bind (ev_VectorOk hv) ?_
          have : (decide (0 ≤ e) && decide (e ≤ 1000000)) = false := by
            rw [← Bool.not_eq_true, Bool.and_eq_true, decide_eq_true_eq, decide_eq_true_eq]; exact h
          simp only [if_true, ev_l01In, Option.bind_some, this, Bool.not_false]
          exact sbad
        · unfold impl_RingPower.f
          refine Ev.bind (ev_vectorField1 hv) ?_
          by_cases g1 : e < 0
          · simp only [if_true, g1]; exact ibad _ _ _
          · simp only [if_true, g1, if_false, decide_eq_true (show e > 1000000 by omega)]; exact ibad _ _ _
    · refine ⟨[], false, ?_, ?_, by simp⟩
      · unfold spec_RingPower.f
        refine Ev.bind (ev_VectorOk_bad hv) ?_
        simp only [Bool.false_eq_true, if_false]; exact sbad
      · unfold impl_RingPower.f
        refine Ev.bind (ev_vectorField1_bad hv) ?_
        simp only [Bool.false_eq_true, if_false]; exact ibad _ _ _
  have nR : ¬ ((1 : Int) + (R1.length : Int) < 0) := by omega
  have nL : ¬ ((1 : Int) + (l.length : Int) < 0) := by omega
  repeat first
    | exact Ev.now _
    | refine Ev.bind hR1 ?_
    | refine Ev.bind hR2 ?_
    | refine Ev.bind (ev_toIntS l hll) ?_
    | refine Ev.bind (ev_eqIntS l (by omega)) ?_
    | refine Ev.bind (ev_eqIntS R1 (by omega)) ?_
    | refine Ev.bind (ev_mark l (1) (by omega) (by omega) (by omega)) ?_
    | refine Ev.bind (ev_mark R1 1 (by omega) (by omega) (by omega)) ?_
    | refine Ev.bind (ev_held R1.length 1 (by omega) (by omega) (by omega)) ?_
    | simp only [if_true, nR, nL, if_false, bne_self_eq_false, Bool.false_eq_true, Bool.not_true]
    | (refine ev_s ?_; simp only [laws_FnExactRingPower.j0])
    | (refine ev_s ?_; simp only [laws_FnExactRingPower.j1])
    | (refine ev_s ?_; simp only [laws_FnExactRingPower.j2])

end Go.Proofs.Ythdmhmhcmokieaa.Pure
