/- FnExactConvPoly returns true for every field number and two lists: both products and flags are the same. -/
import Derived.Test.YtgjogfohknjpmaaPFnExactConvPolyx5
import Derived.Test.YtgjogfohknjpmaaGB
import Derived.Test.YtgjogfohknjpmaaGK
set_option linter.unusedVariables false
set_option linter.unusedSimpArgs false
namespace Go.Proofs.Ytgjogfohknjpmaa.Pure
open Go.RowKit Go.Proofs.Ytgjogfohknjpmaa.PFnExactConvPoly Go.Proofs.YtgjogfohknjpmaaW.PrintWords Go.Proofs.YtgjogfohknjpmaaW.PrintLast Go.Proofs.YtgjogfohknjpmaaW.PrintMore G7
theorem ev_toIntS (l : List Int) (hl : l.length ≤ 35184372088832) : Ev (fun k => laws_toIntS.f k l) l := by
  have key : ∀ (d i : Nat) (out : List Int), i + d = l.length → out.length = l.length → (∀ j : Nat, j < i → rd out (j : Int) = rd l (j : Int)) → Ev (fun k => laws_toIntS.l0 k l out (i : Int)) l := by
    intro d
    induction d with
    | zero =>
      intro i out hi ho hx
      refine ev_s ?_
      have h1 : ¬ ((i : Int) < (l.length : Int)) := by omega
      simp only [laws_toIntS.l0, h1, if_false]
      rw [ext_rd ho (fun j hj => hx j (by omega))]
      exact Ev.now _
    | succ d ih =>
      intro i out hi ho hx
      refine ev_s ?_
      have h1 : (i : Int) < (l.length : Int) := by omega
      have h2 : (0 : Int) ≤ (i : Int) := by omega
      have h3 : (i : Int) < (out.length : Int) := by omega
      simp only [laws_toIntS.l0, h1, h2, h3, if_true, w_succ (n := i) (by omega), Int.toNat_natCast]
      refine ih (i + 1) _ (by omega) (by rw [List.length_set]; exact ho) (fun j hj => ?_)
      by_cases c : i = j
      · subst c; rw [rd_set_eq (by omega)]
      · rw [rd_set_ne c]; exact hx j (by omega)
  unfold laws_toIntS.f
  have h1 : (0 : Int) ≤ (l.length : Int) := by omega
  simp only [h1, if_true, Int.toNat_natCast, hl]
  exact key l.length 0 _ (by omega) (by simp) (fun j hj => by omega)

theorem ev_eqIntS (l : List Int) (hl : l.length ≤ 35184372088832) : Ev (fun k => laws_eqIntS.f k l l) true := by
  have key : ∀ (d i : Nat), i + d = l.length → Ev (fun k => laws_eqIntS.l0 k l l (i : Int)) true := by
    intro d
    induction d with
    | zero =>
      intro i hi
      refine ev_s ?_
      have h1 : ¬ ((i : Int) < (l.length : Int)) := by omega
      simp only [laws_eqIntS.l0, h1, if_false]
      exact Ev.now _
    | succ d ih =>
      intro i hi
      refine ev_s ?_
      have h1 : (i : Int) < (l.length : Int) := by omega
      have h2 : (0 : Int) ≤ (i : Int) := by omega
      simp only [laws_eqIntS.l0, h1, h2, if_true, w_succ (n := i) (by omega)]
      exact ih (i + 1) (by omega)
  unfold laws_eqIntS.f
  simp only [if_true]
  exact key l.length 0 (by omega)

/-- What markIntS leaves. -/
def marks (n : Nat) (m : Int) : List Int := (List.range n).map (fun i => m + (i : Nat))
theorem marks_len (n : Nat) (m : Int) : (marks n m).length = n := by simp [marks]
theorem marks_rd {n i : Nat} (m : Int) (h : i < n) : rd (marks n m) (i : Int) = m + i := by unfold marks; rw [rd_map _ h]
theorem ev_mark (l : List Int) (m : Int) (hl : l.length ≤ 35184372088832) (h0 : 0 ≤ m) (h1 : m ≤ 4611686018427387904) : Ev (fun k => laws_markIntS.f k l m) (m + l.length, marks l.length m) := by
  have key : ∀ (d i : Nat) (out : List Int), i + d = l.length → out.length = l.length → (∀ j : Nat, j < i → rd out (j : Int) = m + j) → Ev (fun k => laws_markIntS.l0 k out (m + i) (i : Int)) (m + l.length, marks l.length m) := by
    intro d
    induction d with
    | zero =>
      intro i out hi ho hx
      refine ev_s ?_
      have g1 : ¬ ((i : Int) < (out.length : Int)) := by omega
      simp only [laws_markIntS.l0, g1, if_false]
      have e : out = marks l.length m := ext_rd (by rw [marks_len, ho]) (fun j hj => by rw [marks_rd m (by omega)]; exact hx j (by omega))
      rw [e, show i = l.length by omega]
      exact Ev.now _
    | succ d ih =>
      intro i out hi ho hx
      refine ev_s ?_
      have g1 : (i : Int) < (out.length : Int) := by omega
      have g2 : (0 : Int) ≤ (i : Int) := by omega
      simp only [laws_markIntS.l0, g1, g2, if_true, w_succ (n := i) (by omega), Int.toNat_natCast, w64 (x := m + (i : Int) + 1) (by omega) (by omega)]
      rw [show m + (i : Int) + 1 = m + ((i + 1 : Nat) : Int) by omega]
      refine ih (i + 1) _ (by omega) (by rw [List.length_set]; exact ho) (fun j hj => ?_)
      by_cases c : i = j
      · subst c; rw [rd_set_eq (by omega)]
      · rw [rd_set_ne c]; exact hx j (by omega)
  unfold laws_markIntS.f
  have := key l.length 0 l (by omega) rfl (fun j hj => by omega)
  simpa using this
theorem ev_held (n : Nat) (m : Int) (hl : n ≤ 35184372088832) (h0 : 0 ≤ m) (h1 : m ≤ 4611686018427387904) : Ev (fun k => laws_heldIntS.f k (marks n m) m) (m + n) := by
  have key : ∀ (d i : Nat), i + d = n → Ev (fun k => laws_heldIntS.l0 k (marks n m) (m + i) (i : Int)) (m + n) := by
    intro d
    induction d with
    | zero =>
      intro i hi
      refine ev_s ?_
      have g1 : ¬ ((i : Int) < ((marks n m).length : Int)) := by rw [marks_len]; omega
      simp only [laws_heldIntS.l0, g1, if_false]
      rw [show i = n by omega]
      exact Ev.now _
    | succ d ih =>
      intro i hi
      refine ev_s ?_
      have g1 : (i : Int) < ((marks n m).length : Int) := by rw [marks_len]; omega
      have g2 : (0 : Int) ≤ (i : Int) := by omega
      simp only [laws_heldIntS.l0, g1, g2, if_true, marks_rd m (show i < n by omega), w_succ (n := i) (by omega), w64 (x := m + (i : Int) + 1) (by omega) (by omega)]
      rw [show m + (i : Int) + 1 = m + ((i + 1 : Nat) : Int) by omega]
      exact ih (i + 1) (by omega)
  unfold laws_heldIntS.f
  have := key n 0 (by omega)
  simpa using this

theorem ev_l01In (x a b : Int) : spec_l01In.f x a b = some (decide (a ≤ x) && decide (x ≤ b)) := by
  unfold spec_l01In.f
  by_cases h : a ≤ x
  · rw [if_pos h, decide_eq_true h, Bool.true_and]
  · rw [if_neg h, decide_eq_false h, Bool.false_and]

theorem ev_Modulus (f : Int) : spec_Modulus.f f = some (md f) := by
  unfold spec_Modulus.f md
  by_cases h0 : f = 0
  · rw [if_pos h0, if_pos h0]
  rw [if_neg h0, if_neg h0]
  by_cases h1 : f = 1
  · rw [if_pos h1, if_pos h1]
  rw [if_neg h1, if_neg h1]
  by_cases h2 : f = 2
  · rw [if_pos h2, if_pos h2]
  rw [if_neg h2, if_neg h2]
  by_cases h3 : f = 3
  · rw [if_pos h3, if_pos h3]
  rw [if_neg h3, if_neg h3]
  by_cases h4 : f = 4
  · rw [if_pos h4, if_pos h4]
  rw [if_neg h4, if_neg h4]
  by_cases h5 : f = 5
  · rw [if_pos h5, if_pos h5]
  rw [if_neg h5, if_neg h5]
  by_cases h6 : f = 6
  · rw [if_pos h6, if_pos h6]
  rw [if_neg h6, if_neg h6]
  by_cases h7 : f = 7
  · rw [if_pos h7, if_pos h7]
  rw [if_neg h7, if_neg h7]
  by_cases h8 : f = 8
  · rw [if_pos h8, if_pos h8]
  rw [if_neg h8, if_neg h8]

theorem ev_l03Elements {f : Int} (h : 0 ≤ f ∧ f < 9) (l : List Int) (hl : l.length ≤ 35184372088832) : Ev (fun k => spec_l03Elements.f k f l) (elB (md f) l) := by
  have hp := pm_of h
  unfold Pm at hp
  have key : ∀ (d i : Nat), i + d = l.length → Ev (fun k => spec_l03Elements.l0 k l (md f) (i : Int)) (elB (md f) (l.drop i)) := by
    intro d
    induction d with
    | zero =>
      intro i hi
      refine ev_s ?_
      have h1 : ¬ ((i : Int) < (l.length : Int)) := by omega
      simp only [spec_l03Elements.l0, h1, if_false]
      rw [List.drop_of_length_le (by omega)]
      exact Ev.now _
    | succ d ih =>
      intro i hi
      refine ev_s ?_
      have h1 : (i : Int) < (l.length : Int) := by omega
      have h2 : (0 : Int) ≤ (i : Int) := by omega
      simp only [spec_l03Elements.l0, h1, h2, if_true, w_succ (n := i) (by omega), w64 (x := md f - 1) (by omega) (by omega), ev_l01In, Option.bind_some]
      rw [elB_drop (by omega)]
      rw [show decide (rd l (i : Int) < md f) = decide (rd l (i : Int) ≤ md f - 1) from decide_eq_decide.2 (by omega)]
      by_cases c : (decide (0 ≤ rd l (i : Int)) && decide (rd l (i : Int) ≤ md f - 1)) = true
      · simp only [c, if_true, Bool.true_and]
        exact ih (i + 1) (by omega)
      · simp only [Bool.not_eq_true] at c
        simp only [c, Bool.false_and, Bool.false_eq_true, if_false]
        exact Ev.now _
  unfold spec_l03Elements.f
  simp only [ev_Modulus, Option.bind_some]
  have h0 : ¬ (md f = 0) := by omega
  simp only [h0, if_false]
  exact key l.length 0 (by omega)
theorem ev_l03Elements_bad {f : Int} (h : ¬ (0 ≤ f ∧ f < 9)) (l : List Int) : Ev (fun k => spec_l03Elements.f k f l) false := by
  unfold spec_l03Elements.f
  simp only [ev_Modulus, Option.bind_some, md_bad h, if_true]
  exact Ev.now _

theorem ev_PolyOk {f : Int} {l : List Int} (h : PolyV f l) : Ev (fun k => spec_PolyOk.f k f l) true := by
  obtain ⟨hf, h1, h2, h3⟩ := h
  unfold spec_PolyOk.f
  have g1 : ¬ ((l.length : Int) > 400) := by omega
  simp only [g1, if_false]
  refine Ev.bind (ev_l03Elements hf l (by omega)) ?_
  simp only [elB_iff.2 h2, if_true]
  by_cases g2 : (l.length : Int) = 0
  · simp only [g2, if_true]; exact Ev.now _
  · have ew : wrap64 ((l.length : Int) - 1) = ((l.length - 1 : Nat) : Int) := by rw [w64 (by omega) (by omega)]; omega
    have g3 : (0 : Int) ≤ ((l.length - 1 : Nat) : Int) := by omega
    have g4 : ((l.length - 1 : Nat) : Int) < (l.length : Int) := by omega
    simp only [g2, ew, g3, g4, if_true, if_false]
    rw [show (rd l ((l.length - 1 : Nat) : Int) != 0) = true from bne_iff_ne.2 (h3 (by omega))]
    exact Ev.now _
theorem ev_PolyOk_bad {f : Int} {l : List Int} (h : ¬ PolyV f l) : Ev (fun k => spec_PolyOk.f k f l) false := by
  unfold spec_PolyOk.f
  by_cases g1 : (l.length : Int) > 400
  · simp only [g1, if_true]; exact Ev.now _
  simp only [g1, if_false]
  by_cases hf : 0 ≤ f ∧ f < 9
  · refine Ev.bind (ev_l03Elements hf l (by omega)) ?_
    cases he : elB (md f) l with
    | false => simp only [Bool.false_eq_true, if_false]; exact Ev.now _
    | true =>
      simp only [if_true]
      have h2 := elB_iff.1 he
      by_cases g2 : (l.length : Int) = 0
      · exact absurd ⟨hf, by omega, h2, fun c => by omega⟩ h
      · have ew : wrap64 ((l.length : Int) - 1) = ((l.length - 1 : Nat) : Int) := by rw [w64 (by omega) (by omega)]; omega
        have g3 : (0 : Int) ≤ ((l.length - 1 : Nat) : Int) := by omega
        have g4 : ((l.length - 1 : Nat) : Int) < (l.length : Int) := by omega
        simp only [g2, ew, g3, g4, if_true, if_false]
        have : (rd l ((l.length - 1 : Nat) : Int) != 0) = false := by
          rw [← Bool.not_eq_true, bne_iff_ne]
          intro c
          exact h ⟨hf, by omega, h2, fun _ => c⟩
        rw [this]; exact Ev.now _
  · refine Ev.bind (ev_l03Elements_bad hf l) ?_
    simp only [Bool.false_eq_true, if_false]; exact Ev.now _

theorem ev_l01Copy (l : List Int) (hl : l.length ≤ 17592186044416) : Ev (fun k => spec_l01Copy.f k l) l := by
  have key : ∀ (d i : Nat), i + d = l.length → Ev (fun k => spec_l01Copy.l0 k l (l.take i) (i : Int)) l := by
    intro d
    induction d with
    | zero =>
      intro i hi
      refine ev_s ?_
      have g1 : ¬ ((i : Int) < (l.length : Int)) := by omega
      simp only [spec_l01Copy.l0, g1, if_false]
      rw [List.take_of_length_le (by omega)]; exact Ev.now _
    | succ d ih =>
      intro i hi
      refine ev_s ?_
      have g1 : (i : Int) < (l.length : Int) := by omega
      have g2 : (0 : Int) ≤ (i : Int) := by omega
      have g3 : (l.take i).length < 17592186044416 := by rw [List.length_take]; omega
      simp only [spec_l01Copy.l0, g1, g2, g3, if_true, w_succ (n := i) (by omega)]
      rw [rd_at (show i < l.length by omega), List.take_append_getElem (show i < l.length by omega)]
      exact ih (i + 1) (by omega)
  exact key l.length 0 (by omega)

theorem ev_l03Cut (l : List Int) (hl : l.length ≤ 100000) : Ev (fun k => spec_l03Cut.f k l) (cutS l) := by
  have key : ∀ n, n ≤ l.length → Ev (fun k => spec_l03Cut.l0 k l (n : Int)) (cutN l n) := by
    intro n
    induction n with
    | zero =>
      intro hn
      refine ev_s ?_
      have g1 : ¬ (((0 : Nat) : Int) > 0) := by omega
      have g2 : (0 : Int) ≤ ((0 : Nat) : Int) := by omega
      have g3 : ((0 : Nat) : Int) ≤ (l.length : Int) := by omega
      simp only [spec_l03Cut.l0, g1, g2, g3, if_true, if_false, Int.toNat_natCast]
      refine Ev.bind (ev_l01Copy _ (by simp)) ?_
      exact Ev.now _
    | succ n ih =>
      intro hn
      refine ev_s ?_
      have g1 : ((n + 1 : Nat) : Int) > 0 := by omega
      have ew : wrap64 (((n + 1 : Nat) : Int) - 1) = (n : Int) := by rw [w64 (by omega) (by omega)]; omega
      have g2 : (0 : Int) ≤ (n : Int) := by omega
      have g3 : (n : Int) < (l.length : Int) := by omega
      unfold cutN
      by_cases c : rd l (n : Int) = 0
      · simp only [spec_l03Cut.l0, g1, ew, g2, g3, c, if_true]
        exact ih (by omega)
      · have g4 : (0 : Int) ≤ ((n + 1 : Nat) : Int) := by omega
        have g5 : ((n + 1 : Nat) : Int) ≤ (l.length : Int) := by omega
        simp only [spec_l03Cut.l0, g1, ew, g2, g3, g4, g5, c, if_true, if_false, Int.toNat_natCast]
        refine Ev.bind (ev_l01Copy _ (by simp; omega)) ?_
        exact Ev.now _
  exact key l.length (Nat.le_refl _)

theorem ev_trimmed (l : List Int) (hl : l.length ≤ 100000) : Ev (fun k => impl_trimmed.f k l) (cutS l) := by
  have key : ∀ n, n ≤ l.length → Ev (fun k => impl_trimmed.l0 k (l.take n)) (cutN l n) := by
    intro n
    induction n with
    | zero =>
      intro hn
      refine ev_s ?_
      have g1 : ¬ (((l.take 0).length : Int) > 0) := by simp
      simp only [impl_trimmed.l0, g1, if_false]; exact Ev.now _
    | succ n ih =>
      intro hn
      refine ev_s ?_
      have hlen : (l.take (n + 1)).length = n + 1 := by rw [List.length_take]; omega
      have g1 : ((l.take (n + 1)).length : Int) > 0 := by omega
      have ew : wrap64 (((l.take (n + 1)).length : Int) - 1) = (n : Int) := by rw [hlen, w64 (by omega) (by omega)]; omega
      have g2 : (0 : Int) ≤ (n : Int) := by omega
      have g3 : (n : Int) < ((l.take (n + 1)).length : Int) := by omega
      have g4 : (n : Int) ≤ ((l.take (n + 1)).length : Int) := by omega
      have er : rd (l.take (n + 1)) (n : Int) = rd l (n : Int) := rd_take (by omega)
      unfold cutN
      by_cases c : rd l (n : Int) = 0
      · simp only [impl_trimmed.l0, g1, ew, g2, g3, g4, er, c, if_true, Int.toNat_natCast]
        rw [List.take_take, show min n (n + 1) = n by omega]
        exact ih (by omega)
      · simp only [impl_trimmed.l0, g1, ew, g2, g3, er, c, if_true, if_false]; exact Ev.now _
  unfold impl_trimmed.f
  have := key l.length (Nat.le_refl _)
  rw [List.take_length] at this
  exact this

def rawS (p : Int) (a b : List Int) : List Int := (List.range (a.length + b.length - 1)).map (fun c => pc a b c % p)
theorem rawS_len (p : Int) (a b : List Int) : (rawS p a b).length = a.length + b.length - 1 := by simp [rawS]
def mpS (p : Int) (a b : List Int) : List Int := if a.length = 0 ∨ b.length = 0 then [] else cutS (rawS p a b)
theorem mpS_len (p : Int) (a b : List Int) : (mpS p a b).length ≤ a.length + b.length := by
  unfold mpS; split
  · simp
  · have h := cutN_len (rawS p a b) (rawS p a b).length
    rw [rawS_len] at h
    unfold cutS
    rw [rawS_len]; omega
theorem mpS_rd (p : Int) (a b : List Int) (c : Nat) : rd (mpS p a b) (c : Int) = pc a b c % p := by
  unfold mpS
  by_cases h : a.length = 0 ∨ b.length = 0
  · rw [if_pos h]
    have : pc a b c = 0 := by
      rcases h with h | h
      · unfold pc; exact sm_nil (fun i hi => tm_a (by omega))
      · unfold pc; exact sm_nil (fun i hi => tm_b (by omega))
    rw [this, Int.zero_emod]; exact rd_out (by simp)
  · rw [if_neg h, cutS_rd]
    by_cases h2 : c < a.length + b.length - 1
    · unfold rawS; rw [rd_map _ h2]
    · rw [rd_out (by rw [rawS_len]; omega), pc_out (by omega) (by omega), Int.zero_emod]
theorem ev_mulPoly {p : Int} (hp : Pm p) (g t : Int) {a b : List Int} (h1 : a.length ≤ 400) (h2 : b.length ≤ 400) (ha : El p a) (hb : El p b) : Ev (fun k => impl_field_mulPoly.f k p g t a b) (mpS p a b) := by
  have hpp := hp
  unfold Pm at hpp
  unfold impl_field_mulPoly.f
  by_cases ca : (a.length : Int) = 0
  · simp only [ca, if_true]
    refine ev_s ?_
    simp only [impl_field_mulPoly.j0, if_true]
    unfold mpS
    rw [if_pos (by omega)]; exact Ev.now _
  by_cases cb : (b.length : Int) = 0
  · simp only [ca, if_false, cb]
    refine ev_s ?_
    simp only [impl_field_mulPoly.j0, beq_self_eq_true, if_true]
    unfold mpS
    rw [if_pos (by omega)]; exact Ev.now _
  have cb' : ((b.length : Int) == 0) = false := by rw [← Bool.not_eq_true, beq_iff_eq]; exact cb
  simp only [ca, if_false, cb']
  obtain ⟨N, hN⟩ : ∃ N, N = a.length + b.length - 1 := ⟨_, rfl⟩
  have ew : wrap64 (wrap64 ((a.length : Int) + (b.length : Int)) - 1) = (N : Int) := by
    rw [w64 (x := (a.length : Int) + (b.length : Int)) (by omega) (by omega), w64 (by omega) (by omega)]; omega
  refine ev_s ?_
  have g1 : (0 : Int) ≤ (N : Int) := by omega
  simp only [impl_field_mulPoly.j0, Bool.false_eq_true, if_false, ew, g1, if_true, Int.toNat_natCast, show N ≤ 35184372088832 from by omega]
  clear ew
  have emp : mpS p a b = cutS (rawS p a b) := by unfold mpS; rw [if_neg (by omega)]
  rw [emp]
  have inner : ∀ (d j i : Nat) (out : List Int) (r : List Int), j + d = b.length → i < a.length → out.length = N → (∀ c : Nat, c < N → rd out (c : Int) = scat a b i j c % p) →
      (∀ out' : List Int, out'.length = N → (∀ c : Nat, c < N → rd out' (c : Int) = sm (i + 1) (tm a b c) % p) → Ev (fun k => impl_field_mulPoly.l0 k b out' a (a.length : Int) ((i + 1 : Nat) : Int) p g t) r) →
      Ev (fun k => impl_field_mulPoly.l1 k b out (i : Int) (rd a (i : Int)) a (a.length : Int) (i : Int) b (b.length : Int) (j : Int) p g t) r := by
    intro d
    induction d with
    | zero =>
      intro j i out r hj hi ho hx hr
      refine ev_s ?_
      have g1 : ¬ ((j : Int) < (b.length : Int)) := by omega
      simp only [impl_field_mulPoly.l1, g1, if_false, w_succ (n := i) (by omega)]
      exact hr out ho (fun c hc => by rw [hx c hc, scat_row (Or.inl (by omega))])
    | succ d ih =>
      intro j i out r hj hi ho hx hr
      refine ev_s ?_
      have g0 : (j : Int) < (b.length : Int) := by omega
      have g00 : (0 : Int) ≤ (j : Int) := by omega
      have g2 : (0 : Int) ≤ ((i + j : Nat) : Int) := by omega
      have g3 : ((i + j : Nat) : Int) < (out.length : Int) := by omega
      have g6 : ¬ (p = 0) := by omega
      have hj9 : j < 9223372036854775807 := by omega
      have hai := ha.rd hp.pos (i : Int)
      have hbj := hb.rd hp.pos (j : Int)
      have hm := mul_lt_big hai.1 hai.2 hbj.1 hbj.2 hpp.2
      have ho1 := hx (i + j) (by omega)
      have ho2 := em_lt (a := scat a b i j (i + j)) hp.pos
      have ei : wrap64 ((i : Int) + (j : Int)) = ((i + j : Nat) : Int) := by rw [w64 (by omega) (by omega)]; omega
      have ev : Int.tmod (wrap64 (rd out ((i + j : Nat) : Int) + wrap64 (rd a (i : Int) * rd b (j : Int)))) p = scat a b i (j + 1) (i + j) % p := by
        rw [w64 (x := rd a (i : Int) * rd b (j : Int)) (by omega) (by omega), ho1, w64 (by omega) (by omega), tmod_nn (by omega), eadd_l, scat_hit]
      simp only [impl_field_mulPoly.l1, g0, g00, ei, g2, g3, g6, if_true, if_false, ev, w_succ (n := j) hj9, Int.toNat_natCast]
      clear ev ei
      refine ih (j + 1) i _ r (by omega) hi (by rw [List.length_set]; exact ho) (fun c hc => ?_) hr
      by_cases e : i + j = c
      · subst e; rw [rd_set_eq (by omega)]
      · rw [rd_set_ne e, hx c hc, scat_miss (by omega)]
  have outer : ∀ (d i : Nat) (out : List Int), i + d = a.length → out.length = N → (∀ c : Nat, c < N → rd out (c : Int) = sm i (tm a b c) % p) → Ev (fun k => impl_field_mulPoly.l0 k b out a (a.length : Int) (i : Int) p g t) (cutS (rawS p a b)) := by
    intro d
    induction d with
    | zero =>
      intro i out hi ho hx
      refine ev_s ?_
      have g1 : ¬ ((i : Int) < (a.length : Int)) := by omega
      simp only [impl_field_mulPoly.l0, g1, if_false]
      have e : out = rawS p a b := by
        unfold rawS
        rw [← hN]
        exact set_map_rd ho (fun c hc => by rw [hx c hc, show i = a.length by omega, pc_of_len])
      rw [e]
      refine Ev.bind (ev_trimmed _ (by rw [rawS_len]; omega)) ?_
      exact Ev.now _
    | succ d ih =>
      intro i out hi ho hx
      refine ev_s ?_
      have g1 : (i : Int) < (a.length : Int) := by omega
      have g2 : (0 : Int) ≤ (i : Int) := by omega
      simp only [impl_field_mulPoly.l0, g1, g2, if_true]
      exact inner b.length 0 i out _ (by omega) (by omega) ho (fun c hc => by rw [hx c hc, scat_start]) (fun out' ho' hx' => ih (i + 1) out' (by omega) ho' hx')
  exact outer a.length 0 _ (by omega) (by simp) (fun c _ => by rw [rd_rep, sm_zero, Int.zero_emod])

theorem mpS_el {p : Int} (hp : 0 < p) (a b : List Int) : El p (mpS p a b) := by
  unfold mpS; split
  · exact El.nil
  · exact cutN_el (El.map (fun i _ => em_lt hp)) _
theorem ev_l03Mul {f : Int} (hf : 0 ≤ f ∧ f < 9) {a b : List Int} (h1 : a.length ≤ 400) (h2 : b.length ≤ 400) (ha : El (md f) a) (hb : El (md f) b) : Ev (fun k => spec_l03Mul.f k f a b) (mpS (md f) a b) := by
  have hp := pm_of hf
  have hpp := hp
  unfold Pm at hpp
  unfold spec_l03Mul.f
  simp only [ev_Modulus, Option.bind_some]
  generalize md f = p at *
  by_cases ca : (a.length : Int) = 0
  · simp only [ca, if_true]
    refine ev_s ?_
    simp only [spec_l03Mul.j0, if_true]
    unfold mpS
    rw [if_pos (by omega)]; exact Ev.now _
  by_cases cb : (b.length : Int) = 0
  · simp only [ca, if_false, cb]
    refine ev_s ?_
    simp only [spec_l03Mul.j0, beq_self_eq_true, if_true]
    unfold mpS
    rw [if_pos (by omega)]; exact Ev.now _
  have cb' : ((b.length : Int) == 0) = false := by rw [← Bool.not_eq_true, beq_iff_eq]; exact cb
  simp only [ca, if_false, cb']
  obtain ⟨N, hN⟩ : ∃ N, N = a.length + b.length - 1 := ⟨_, rfl⟩
  have ew : ∀ _ : Unit, wrap64 (wrap64 ((a.length : Int) + (b.length : Int)) - 1) = (N : Int) := fun _ => by
    rw [w64 (x := (a.length : Int) + (b.length : Int)) (by omega) (by omega), w64 (by omega) (by omega)]; omega
  refine ev_s ?_
  simp only [spec_l03Mul.j0, Bool.false_eq_true, if_false]
  have emp : mpS p a b = cutS (rawS p a b) := by unfold mpS; rw [if_neg (by omega)]
  rw [emp]
  have hend : ∀ c i : Nat, i = min (c + 1) a.length → sm i (tm a b c) = pc a b c := fun c i hi => by
    by_cases h : c + 1 ≤ a.length
    · rw [show i = c + 1 by omega]; rfl
    · rw [show i = a.length by omega, pc_of_len]
  have inner : ∀ (c : Nat), c < N → ∀ (d i : Nat) (out r : List Int), i + d = min (c + 1) a.length → out.length ≤ 1000 →
      Ev (fun k => spec_l03Mul.l0 k a b p (out ++ [pc a b c % p]) ((c + 1 : Nat) : Int)) r → Ev (fun k => spec_l03Mul.l1 k a b p out (c : Int) (sm i (tm a b c) % p) (i : Int)) r := by
    intro c hc d
    have ewc : ∀ _ : Unit, wrap64 ((c : Int) + 1) = ((c + 1 : Nat) : Int) := fun _ => w_succ (n := c) (by omega)
    induction d with
    | zero =>
      intro i out r hi ho hr
      have hfin : Ev (fun k => spec_l03Mul.j3 k a b p out (c : Int) (sm i (tm a b c) % p) (i : Int) false) r := by
        refine ev_s ?_
        have g3 : out.length < 17592186044416 := by omega
        simp only [spec_l03Mul.j3, Bool.false_eq_true, if_false, g3, if_true, ewc ()]
        rw [hend c i (by omega)]
        exact hr
      refine ev_s ?_
      by_cases g1 : (i : Int) ≤ (c : Int)
      · have g2 : ¬ ((i : Int) < (a.length : Int)) := by omega
        simp only [spec_l03Mul.l1, g1, if_true, decide_eq_false g2]; exact hfin
      · simp only [spec_l03Mul.l1, g1, if_false]; exact hfin
    | succ d ih =>
      intro i out r hi ho hr
      have hn := ih (i + 1) out r (by omega) ho hr
      have g1 : (i : Int) ≤ (c : Int) := by omega
      have g2 : (i : Int) < (a.length : Int) := by omega
      have g0 : (0 : Int) ≤ (i : Int) := by omega
      have ewi : ∀ _ : Unit, wrap64 ((i : Int) + 1) = ((i + 1 : Nat) : Int) := fun _ => w_succ (n := i) (by omega)
      have ewd : ∀ _ : Unit, wrap64 ((c : Int) - (i : Int)) = ((c - i : Nat) : Int) := fun _ => by rw [w64 (by omega) (by omega)]; omega
      refine ev_s ?_
      simp only [spec_l03Mul.l1, g1, if_true, decide_eq_true g2]
      refine ev_s ?_
      by_cases g4 : ((c - i : Nat) : Int) < (b.length : Int)
      · have g5 : (0 : Int) ≤ ((c - i : Nat) : Int) := by omega
        have g6 : ¬ (p = 0) := by omega
        have hai := ha.rd hp.pos (i : Int)
        have hbj := hb.rd hp.pos ((c - i : Nat) : Int)
        have hm := mul_lt_big hai.1 hai.2 hbj.1 hbj.2 hpp.2
        have hs := em_lt (a := sm i (tm a b c)) hp.pos
        have ev : Int.tmod (wrap64 (sm i (tm a b c) % p + wrap64 (rd a (i : Int) * rd b ((c - i : Nat) : Int)))) p = sm (i + 1) (tm a b c) % p := by
          rw [w64 (x := rd a (i : Int) * rd b ((c - i : Nat) : Int)) (by omega) (by omega), w64 (by omega) (by omega), tmod_nn (by omega), eadd_l, sm_succ, tm_in (by omega)]
        simp only [spec_l03Mul.j3, if_true, ewd (), g4, g0, g2, g5, g6, if_false, ev, ewi ()]
        exact hn
      · simp only [spec_l03Mul.j3, if_true, ewd (), g4, if_false, ewi ()]
        rw [sm_succ, tm_b (by omega), Int.add_zero] at hn
        exact hn
  have outer : ∀ (d c : Nat) (out : List Int), c + d = N → out = (List.range c).map (fun c => pc a b c % p) → Ev (fun k => spec_l03Mul.l0 k a b p out (c : Int)) (cutS (rawS p a b)) := by
    intro d
    induction d with
    | zero =>
      intro c out hc ho
      refine ev_s ?_
      have g1 : ¬ ((c : Int) < (N : Int)) := by omega
      simp only [spec_l03Mul.l0, ew (), g1, if_false]
      have e : out = rawS p a b := by unfold rawS; rw [← hN, ho, show c = N by omega]
      rw [e]
      refine Ev.bind (ev_l03Cut _ (by rw [rawS_len]; omega)) ?_
      exact Ev.now _
    | succ d ih =>
      intro c out hc ho
      refine ev_s ?_
      have g1 : (c : Int) < (N : Int) := by omega
      simp only [spec_l03Mul.l0, ew (), g1, if_true]
      have hol : out.length = c := by rw [ho]; simp
      have ho' : out ++ [pc a b c % p] = (List.range (c + 1)).map (fun c => pc a b c % p) := by rw [ho]; exact (map_snoc c _).symm
      have hc' : c + 1 + d = N := by omega
      have hnext := ih (c + 1) (out ++ [pc a b c % p]) hc' ho'
      have hc2 : c < N := by omega
      have ho2 : out.length ≤ 1000 := by omega
      have hm0 : 0 + min (c + 1) a.length = min (c + 1) a.length := Nat.zero_add _
      have hi := inner c hc2 (min (c + 1) a.length) 0 out (cutS (rawS p a b)) hm0 ho2 hnext
      rw [sm_zero, Int.zero_emod] at hi
      exact hi
  exact outer N 0 [] (by omega) rfl

theorem ev_sMulPoly {f : Int} {a b : List Int} (ha : PolyV f a) (hb : PolyV f b) : Ev (fun k => spec_MulPoly.f k f a b) (if 1 ≤ a.length ∧ 1 ≤ b.length ∧ 400 < a.length + b.length - 1 then ([], false) else (mpS (md f) a b, true)) := by
  have l1 := ha.2.1
  have l2 := hb.2.1
  have hm := ev_l03Mul ha.1 ha.2.1 hb.2.1 ha.2.2.1 hb.2.2.1
  unfold spec_MulPoly.f
  refine Ev.bind (ev_PolyOk ha) ?_
  simp only [if_true]
  refine Ev.bind (ev_PolyOk hb) ?_
  refine ev_s ?_
  simp only [spec_MulPoly.j0, Bool.not_true, Bool.false_eq_true, if_false]
  by_cases c1 : (a.length : Int) > 0
  · by_cases c2 : (b.length : Int) > 0
    · have ew : wrap64 (wrap64 ((a.length : Int) + (b.length : Int)) - 1) = ((a.length + b.length - 1 : Nat) : Int) := by
        rw [w64 (x := (a.length : Int) + (b.length : Int)) (by omega) (by omega), w64 (by omega) (by omega)]; omega
      by_cases c3 : ((a.length + b.length - 1 : Nat) : Int) > 400
      · rw [if_pos (by omega)]
        simp only [c1, c2, if_true, ew, c3]; exact Ev.now _
      · rw [if_neg (by omega)]
        simp only [c1, c2, if_true, ew, c3, if_false]
        refine Ev.bind hm ?_
        exact Ev.now _
    · rw [if_neg (by omega)]
      simp only [c1, c2, if_true, if_false]
      refine Ev.bind hm ?_
      exact Ev.now _
  · rw [if_neg (by omega)]
    simp only [c1, if_false]
    refine Ev.bind hm ?_
    exact Ev.now _
theorem ev_sMulPoly_bad {f : Int} {a b : List Int} (h : ¬ (PolyV f a ∧ PolyV f b)) : Ev (fun k => spec_MulPoly.f k f a b) ([], false) := by
  unfold spec_MulPoly.f
  by_cases ha : PolyV f a
  · refine Ev.bind (ev_PolyOk ha) ?_
    simp only [if_true]
    refine Ev.bind (ev_PolyOk_bad (fun c => h ⟨ha, c⟩)) ?_
    refine ev_s ?_
    simp only [spec_MulPoly.j0, Bool.not_false, if_true]; exact Ev.now _
  · refine Ev.bind (ev_PolyOk_bad ha) ?_
    simp only [Bool.false_eq_true, if_false]
    refine ev_s ?_
    simp only [spec_MulPoly.j0, if_true]; exact Ev.now _

/-- A series over a field. -/
def SerOk (f : Int) (a : List Int) : Prop := (0 ≤ f ∧ f < 9) ∧ 1 ≤ a.length ∧ a.length ≤ 64 ∧ El (md f) a
theorem SerOk.pm {f : Int} {a : List Int} (h : SerOk f a) : Pm (md f) := pm_of h.1
theorem SerOk.rd {f : Int} {a : List Int} (h : SerOk f a) (i : Int) : 0 ≤ rd a i ∧ rd a i < md f := h.2.2.2.rd (pm_of h.1).pos i

/-- The inverse of an element that is not 0. -/
theorem inv_mul {f : Int} (hf : 0 ≤ f ∧ f < 9) {x : Int} (hx : x % md f ≠ 0) : x * inv (md f) x % md f = 1 % md f := by
  have hb := (isF hf.1 hf.2).bounds
  have h := ferm hf hx
  unfold inv
  rw [emul_r, Int.mul_comm, ← Int.pow_succ, show (md f - 2).toNat.succ = (md f - 1).toNat by omega, h, em_id (by omega) (by omega)]
theorem nat_inv {f : Int} (hf : 0 ≤ f ∧ f < 9) (i : Nat) (h1 : 1 ≤ i) (h2 : (i : Int) < md f) : (i : Int) * inv (md f) ((i : Int) % md f) % md f = 1 % md f := by
  have e : (i : Int) % md f = i := em_id (by omega) h2
  rw [e]
  exact inv_mul hf (by rw [e]; omega)

theorem mul_ne {f : Int} (hf : 0 ≤ f ∧ f < 9) {x y : Int} (hx : 0 ≤ x ∧ x < md f) (hy : 0 ≤ y ∧ y < md f) (h0 : x ≠ 0) (h1 : y ≠ 0) : x * y % md f ≠ 0 := by
  intro c
  have hi := inv_mul hf (x := y) (by rw [em_id hy.1 hy.2]; exact h1)
  have hb := (isF hf.1 hf.2).bounds
  have e1 : x * (y * inv (md f) y) % md f = x % md f := by rw [emul rfl hi, Int.mul_one]
  have e2 : x * y * inv (md f) y % md f = 0 := by
    have := emul (p := md f) (a := x * y) (a' := 0) (b := inv (md f) y) (b' := inv (md f) y) (by rw [c, Int.zero_emod]) rfl
    rw [this, Int.zero_mul, Int.zero_emod]
  rw [Int.mul_assoc, e1, em_id hx.1 hx.2] at e2
  exact h0 e2
theorem mpS_full {f : Int} {a b : List Int} (ha : PolyV f a) (hb : PolyV f b) (h1 : 1 ≤ a.length) (h2 : 1 ≤ b.length) : (mpS (md f) a b).length = a.length + b.length - 1 := by
  have hp := ha.pm.pos
  have e0 : mpS (md f) a b = cutS (rawS (md f) a b) := by unfold mpS; rw [if_neg (by omega)]
  rw [e0]
  unfold cutS
  rw [rawS_len]
  obtain ⟨N, hN⟩ : ∃ N, a.length + b.length - 1 = N + 1 := ⟨a.length + b.length - 2, by omega⟩
  rw [hN]
  have hl : rd (rawS (md f) a b) (N : Int) ≠ 0 := by
    unfold rawS
    rw [rd_map _ (by omega)]
    have e1 : pc a b N = rd a ((a.length - 1 : Nat) : Int) * rd b ((b.length - 1 : Nat) : Int) := by
      unfold pc
      rw [sm_one (k := a.length - 1) (by omega) (fun j hj hne => by
        by_cases c : j < a.length
        · exact tm_b (by omega)
        · exact tm_a (by omega))]
      rw [tm_in (by omega), show N - (a.length - 1) = b.length - 1 by omega]
    rw [e1]
    exact mul_ne ha.1 (ha.2.2.1.rd hp _) (hb.2.2.1.rd hp _) (ha.2.2.2 h1) (hb.2.2.2 h2)
  show (cutN (rawS (md f) a b) (N + 1)).length = N + 1
  unfold cutN
  rw [if_neg hl, List.length_take, rawS_len]
  omega

theorem ev_fieldOf {f : Int} (h : 0 ≤ f ∧ f < 9) : impl_fieldOf.f f = some (md f, gn f, tp f, true) := by
  rcases fcases h.1 h.2 with e | e | e | e | e | e | e | e | e <;> subst e <;> rfl
theorem ev_fieldOf_bad {f : Int} (h : ¬ (0 ≤ f ∧ f < 9)) : impl_fieldOf.f f = some (0, 0, 0, false) := by
  unfold impl_fieldOf.f
  by_cases c : f < 0
  · rw [if_pos c]
  · rw [if_neg c, if_pos (by omega)]

theorem ev_areElements (p g t : Int) (l : List Int) (hl : l.length ≤ 35184372088832) : Ev (fun k => impl_field_areElements.f k p g t l) (elB p l) := by
  have key : ∀ (d i : Nat), i + d = l.length → Ev (fun k => impl_field_areElements.l0 k l (l.length : Int) (i : Int) p g t) (elB p (l.drop i)) := by
    intro d
    induction d with
    | zero =>
      intro i hi
      refine ev_s ?_
      have h1 : ¬ ((i : Int) < (l.length : Int)) := by omega
      simp only [impl_field_areElements.l0, h1, if_false]
      rw [List.drop_of_length_le (by omega)]
      exact Ev.now _
    | succ d ih =>
      intro i hi
      refine ev_s ?_
      have h1 : (i : Int) < (l.length : Int) := by omega
      have h2 : (0 : Int) ≤ (i : Int) := by omega
      simp only [impl_field_areElements.l0, h1, h2, if_true, w_succ (n := i) (by omega)]
      rw [elB_drop (by omega)]
      by_cases c1 : rd l (i : Int) < 0
      · simp only [c1, if_true, show decide (0 ≤ rd l (i : Int)) = false from decide_eq_false (by omega), Bool.false_and]
        exact Ev.now _
      · by_cases c2 : rd l (i : Int) ≥ p
        · simp only [c1, c2, if_true, if_false, show decide (rd l (i : Int) < p) = false from decide_eq_false (by omega), Bool.false_and, Bool.and_false]
          exact Ev.now _
        · simp only [c1, c2, if_false, show decide (0 ≤ rd l (i : Int)) = true from decide_eq_true (by omega), show decide (rd l (i : Int) < p) = true from decide_eq_true (by omega), Bool.true_and]
          exact ih (i + 1) (by omega)
  exact key l.length 0 (by omega)

theorem ev_polyField2 {f : Int} {a b : List Int} (h : PolyV f a) (k : PolyV f b) : Ev (fun k => impl_polyField.f k f [a, b]) (md f, gn f, tp f, true) := by
  obtain ⟨hf, hn, he, hz⟩ := h
  obtain ⟨_, kn, ke, kz⟩ := k
  have hb := (isF hf.1 hf.2).bounds
  unfold impl_polyField.f
  have hl : (([a, b] : List (List Int)).length : Int) = 2 := rfl
  simp only [ev_fieldOf hf, Option.bind_some, if_true, hl]
  have step : ∀ (ls : List (List Int)) (n i : Int) (l : List Int) (r : Int × Int × Int × Bool), 0 ≤ i → i < n → i < (ls.length : Int) → rd_L1 ls i = l → l.length ≤ 400 → El (md f) l → (1 ≤ l.length → rd l ((l.length - 1 : Nat) : Int) ≠ 0) →
      Ev (fun k => impl_polyField.l0 k ls n (wrap64 (i + 1)) (md f) (gn f) (tp f)) r → Ev (fun k => impl_polyField.l0 k ls n i (md f) (gn f) (tp f)) r := by
    intro ls n i l r h0 h1 h2 hl hn he hz hr
    refine ev_s ?_
    have g1 : ¬ ((l.length : Int) > 400) := by omega
    simp only [impl_polyField.l0, h0, h1, h2, hl, if_true, g1, if_false]
    refine Ev.bind (ev_areElements _ _ _ l (by omega)) ?_
    simp only [elB_iff.2 he, if_true]
    by_cases c : (l.length : Int) > 0
    · have ew : wrap64 ((l.length : Int) - 1) = ((l.length - 1 : Nat) : Int) := by rw [w64 (by omega) (by omega)]; omega
      have c2 : (0 : Int) ≤ ((l.length - 1 : Nat) : Int) := by omega
      have c3 : ((l.length - 1 : Nat) : Int) < (l.length : Int) := by omega
      simp only [c, ew, c2, c3, hz (by omega), if_true, if_false]
      exact hr
    · simp only [c, if_false]; exact hr
  refine step _ _ 0 a _ (by decide) (by decide) (by rw [hl]; decide) rfl hn he hz ?_
  rw [w64 (x := 0 + 1) (by decide) (by decide)]
  refine step _ _ (0 + 1) b _ (by decide) (by decide) (by rw [hl]; decide) rfl kn ke kz ?_
  rw [w64 (x := 0 + 1 + 1) (by decide) (by decide)]
  refine ev_s ?_
  simp only [impl_polyField.l0, show ¬ ((0 : Int) + 1 + 1 < 2) from by decide, if_false]
  exact Ev.now _

theorem ev_polyField2_bad {f : Int} {a b : List Int} (h : ¬ (PolyV f a ∧ PolyV f b)) : Ev (fun k => impl_polyField.f k f [a, b]) (0, 0, 0, false) := by
  unfold impl_polyField.f
  by_cases hf : 0 ≤ f ∧ f < 9
  · have hl : (([a, b] : List (List Int)).length : Int) = 2 := rfl
    simp only [ev_fieldOf hf, Option.bind_some, if_true, hl]
    have step : ∀ (ls : List (List Int)) (n i : Int) (l : List Int), 0 ≤ i → i < n → i < (ls.length : Int) → rd_L1 ls i = l →
        (PolyV f l → Ev (fun k => impl_polyField.l0 k ls n (wrap64 (i + 1)) (md f) (gn f) (tp f)) (0, 0, 0, false)) → Ev (fun k => impl_polyField.l0 k ls n i (md f) (gn f) (tp f)) (0, 0, 0, false) := by
      intro ls n i l h0 h1 h2 hl hr
      refine ev_s ?_
      by_cases g1 : (l.length : Int) > 400
      · simp only [impl_polyField.l0, h0, h1, h2, hl, if_true, g1]; exact Ev.now _
      simp only [impl_polyField.l0, h0, h1, h2, hl, if_true, g1, if_false]
      refine Ev.bind (ev_areElements _ _ _ l (by omega)) ?_
      by_cases he : El (md f) l
      · simp only [elB_iff.2 he, if_true]
        by_cases c : (l.length : Int) > 0
        · have ew : wrap64 ((l.length : Int) - 1) = ((l.length - 1 : Nat) : Int) := by rw [w64 (by omega) (by omega)]; omega
          have c2 : (0 : Int) ≤ ((l.length - 1 : Nat) : Int) := by omega
          have c3 : ((l.length - 1 : Nat) : Int) < (l.length : Int) := by omega
          by_cases c4 : rd l ((l.length - 1 : Nat) : Int) = 0
          · simp only [c, ew, c2, c3, c4, if_true]; exact Ev.now _
          · simp only [c, ew, c2, c3, c4, if_true, if_false]
            exact hr ⟨hf, by omega, he, fun _ => c4⟩
        · simp only [c, if_false]; exact hr ⟨hf, by omega, he, fun c5 => by omega⟩
      · simp only [Bool.eq_false_iff.2 (fun c => he (elB_iff.1 c)), Bool.false_eq_true, if_false]
        exact Ev.now _
    refine step _ _ 0 a (by decide) (by decide) (by rw [hl]; decide) rfl (fun ha => ?_)
    rw [w64 (x := 0 + 1) (by decide) (by decide)]
    exact step _ _ (0 + 1) b (by decide) (by decide) (by rw [hl]; decide) rfl (fun hb => absurd ⟨ha, hb⟩ h)
  · simp only [ev_fieldOf_bad hf, Option.bind_some, Bool.false_eq_true, if_false]
    exact Ev.now _

theorem ev_TwoPower (f : Int) : Ev (fun k => spec_TwoPower.f k f) (tp f) := by
  unfold spec_TwoPower.f
  simp only [ev_Modulus, Option.bind_some]
  by_cases h : 0 ≤ f ∧ f < 9
  · have hp := pm_of h
    unfold Pm at hp
    obtain ⟨e1, e2, e3, e4, e5⟩ := oddP_spec h
    simp only [show ¬ (md f = 0) from by omega, if_false, w64 (x := md f - 1) (by omega) (by omega)]
    have key : ∀ (t : Nat) (c : Int), 0 ≤ c → c + t ≤ 100 → oddP f * ((2 ^ t : Nat) : Int) ≤ md f - 1 → Ev (fun k => spec_TwoPower.l0 k c (oddP f * ((2 ^ t : Nat) : Int))) (c + t) := by
      intro t
      induction t with
      | zero =>
        intro c hc hct hb
        refine ev_s ?_
        rw [Nat.pow_zero, Int.natCast_one, Int.mul_one] at *
        have h1 : ¬ (Int.tmod (oddP f) 2 = 0) := by rw [tmod_nn (by omega)]; omega
        simp only [spec_TwoPower.l0, h1, if_false, Int.natCast_zero, Int.add_zero]; exact Ev.now _
      | succ t ih =>
        intro c hc hct hb
        have e : oddP f * ((2 ^ (t + 1) : Nat) : Int) = 2 * (oddP f * ((2 ^ t : Nat) : Int)) := by
          rw [Nat.pow_succ, Int.natCast_mul, ← Int.mul_assoc, Int.mul_comm]; rfl
        have hq : 0 ≤ oddP f * ((2 ^ t : Nat) : Int) := Int.mul_nonneg (by omega) (Int.natCast_nonneg _)
        rw [e] at hb ⊢
        have hs := ih (c + 1) (by omega) (by omega) (by omega)
        generalize oddP f * ((2 ^ t : Nat) : Int) = q at *
        refine ev_s ?_
        have h1 : Int.tmod (2 * q) 2 = 0 := by rw [tmod_nn (by omega)]; omega
        have h2 : wrap64 (Int.tdiv (2 * q) 2) = q := by
          rw [Int.tdiv_eq_ediv_of_nonneg (by omega), w64 (by omega) (by omega)]; omega
        simp only [spec_TwoPower.l0, h1, h2, if_true, w64 (x := c + 1) (by omega) (by omega)]
        exact ev_to hs (by omega)
    have := key (tp f).toNat 0 (by omega) (by omega) (by omega)
    rw [← e1] at this
    exact ev_to this (by omega)
  · simp only [md_bad h, if_true]
    rw [tp_bad h]; exact Ev.now _

theorem w_pow {n : Nat} (h : n ≤ 9) : wrap64 ((2 : Int) ^ n) = ((2 ^ n : Nat) : Int) := by
  have e : ((2 ^ n : Nat) : Int) = (2 : Int) ^ n := by rw [Int.natCast_pow]; rfl
  have h2 := (two_pow_le h).2
  rw [← e]
  generalize 2 ^ n = q at h2 ⊢
  exact w64 (by omega) (by omega)
theorem conv_both {f : Int} {a b : List Int} (ha : PolyV f a) (hb : PolyV f b) : ∃ (R1 : List Int) (R2 : Bool), Ev (fun k => spec_ConvPoly.f k f a b) (R1, R2) ∧ Ev (fun k => impl_ConvPoly.f k f a b) (R1, R2) ∧ R1.length ≤ 1048576 := by
  have hf := ha.1
  have hml := mpS_len (md f) a b
  have l1 := ha.2.1
  have l2 := hb.2.1
  obtain ⟨T, hT, hT4, hT26⟩ : ∃ T : Nat, tp f = (T : Int) ∧ 4 ≤ T ∧ T ≤ 26 := ⟨(tp f).toNat, by have := (isF hf.1 hf.2).bounds; omega, by have := (isF hf.1 hf.2).bounds; omega, by have := (isF hf.1 hf.2).bounds; omega⟩
  have hs := ev_sMulPoly ha hb
  have hfull : 1 ≤ a.length → 1 ≤ b.length → (mpS (md f) a b).length = a.length + b.length - 1 := mpS_full ha hb
  have hempty : ¬ (1 ≤ a.length ∧ 1 ≤ b.length) → (mpS (md f) a b).length = 0 := fun h => by
    unfold mpS; rw [if_pos (by omega)]; rfl
  have him := ev_mulPoly ha.pm (gn f) (tp f) ha.2.1 hb.2.1 ha.2.2.1 hb.2.2.1
  have himpl : ∀ lim : Nat, wrap64 (2 ^ (mn 9 (T : Int)).toNat) = (lim : Int) → Ev (fun k => impl_ConvPoly.f k f a b) (if (mpS (md f) a b).length > min 400 lim then ([], false) else (mpS (md f) a b, true)) := by
    intro lim hlim
    unfold impl_ConvPoly.f
    refine Ev.bind (ev_polyField2 ha hb) ?_
    simp only [if_true]
    refine Ev.bind him ?_
    have g0 : 0 ≤ mn 9 (T : Int) := by unfold mn; split <;> omega
    have e4 : mn 400 (lim : Int) = ((min 400 lim : Nat) : Int) := by unfold mn; split <;> omega
    simp only [hT, g0, if_true, hlim, e4]
    by_cases c : (mpS (md f) a b).length > min 400 lim
    · have c' : ((mpS (md f) a b).length : Int) > ((min 400 lim : Nat) : Int) := by omega
      rw [if_pos c]
      simp only [c', if_true]; exact Ev.now _
    · have c' : ¬ (((mpS (md f) a b).length : Int) > ((min 400 lim : Nat) : Int)) := by omega
      rw [if_neg c]
      simp only [c', if_false]; exact Ev.now _
  by_cases c0 : 1 ≤ a.length ∧ 1 ≤ b.length ∧ 400 < a.length + b.length - 1
  · rw [if_pos c0] at hs
    have hlen := hfull c0.1 c0.2.1
    refine ⟨[], false, ?_, ?_, by simp⟩
    · unfold spec_ConvPoly.f
      refine Ev.bind hs ?_
      simp only [Bool.false_eq_true, if_false]; exact Ev.now _
    · obtain ⟨lim, hlim⟩ : ∃ lim : Nat, wrap64 (2 ^ (mn 9 (T : Int)).toNat) = (lim : Int) := by
        refine ⟨2 ^ (mn 9 (T : Int)).toNat, ?_⟩
        have g9 : (mn 9 (T : Int)).toNat ≤ 9 := by unfold mn; split <;> omega
        exact w_pow g9
      have h := himpl lim hlim
      rw [if_pos (by omega)] at h
      exact h
  · rw [if_neg c0] at hs
    have hlen : (mpS (md f) a b).length ≤ 400 := by
      by_cases c1 : 1 ≤ a.length ∧ 1 ≤ b.length
      · rw [hfull c1.1 c1.2]; omega
      · rw [hempty c1]; omega
    have hspec : Ev (fun k => spec_ConvPoly.f k f a b) (if T ≤ 9 ∧ (mpS (md f) a b).length > 2 ^ T then ([], false) else (mpS (md f) a b, true)) := by
      unfold spec_ConvPoly.f
      refine Ev.bind hs ?_
      simp only [if_true]
      refine Ev.bind (ev_TwoPower f) ?_
      by_cases c9 : tp f > 9
      · have g1 : ¬ (((mpS (md f) a b).length : Int) > (1 * 512)) := by omega
        have n9 : ¬ (T ≤ 9) := by omega
        rw [if_neg (show ¬ (T ≤ 9 ∧ (mpS (md f) a b).length > 2 ^ T) from fun h => n9 h.1)]
        simp only [c9, if_true, g1, if_false]; exact Ev.now _
      · have eu : Go.IntKind.u64.wrap (tp f) = (T : Int) := by rw [u64_id (by omega) (by omega), hT]
        have g0 : (0 : Int) ≤ (T : Int) := by omega
        simp only [c9, if_false, eu, g0, if_true, shl1 (c := T) (by omega)]
        by_cases c : (mpS (md f) a b).length > 2 ^ T
        · have c' : ((mpS (md f) a b).length : Int) > ((2 ^ T : Nat) : Int) := Int.ofNat_lt.2 c
          have p9 : T ≤ 9 := by omega
          rw [if_pos (show T ≤ 9 ∧ (mpS (md f) a b).length > 2 ^ T from ⟨p9, c⟩)]
          simp only [c', if_true]; exact Ev.now _
        · have c' : ¬ (((mpS (md f) a b).length : Int) > ((2 ^ T : Nat) : Int)) := fun h => c (Int.ofNat_lt.1 h)
          rw [if_neg (show ¬ (T ≤ 9 ∧ (mpS (md f) a b).length > 2 ^ T) from fun h => c h.2)]
          simp only [c', if_false]; exact Ev.now _
    by_cases c9 : T ≤ 9
    · have hp2 : 2 ^ T ≤ 512 := (two_pow_le c9).2
      have hlim : wrap64 (2 ^ (mn 9 (T : Int)).toNat) = ((2 ^ T : Nat) : Int) := by
        have e1 : (mn 9 (T : Int)).toNat = T := by unfold mn; split <;> omega
        rw [e1]; exact w_pow c9
      have h := himpl (2 ^ T) hlim
      by_cases c : (mpS (md f) a b).length > 2 ^ T
      · rw [if_pos ⟨c9, c⟩] at hspec
        rw [if_pos (by omega)] at h
        exact ⟨_, _, hspec, h, by simp⟩
      · rw [if_neg (fun h => c h.2)] at hspec
        rw [if_neg (by omega)] at h
        exact ⟨_, _, hspec, h, by omega⟩
    · have hlim : wrap64 (2 ^ (mn 9 (T : Int)).toNat) = ((512 : Nat) : Int) := by
        have e1 : (mn 9 (T : Int)).toNat = 9 := by unfold mn; split <;> omega
        rw [e1]; decide +kernel
      have h := himpl 512 hlim
      rw [if_neg (fun h => c9 h.1)] at hspec
      rw [if_neg (by omega)] at h
      exact ⟨_, _, hspec, h, by omega⟩
theorem FnExactConvPoly : laws_FnExactConvPoly.Pure := by
  intro f l m hf hl hl8 hwl hm hm8 hwm
  refine Ev.rounds ?_
  unfold laws_FnExactConvPoly.f
  by_cases hbig : (l.length : Int) > 1048576
  · simp only [hbig, if_true]; exact Ev.now _
  by_cases hbig2 : (m.length : Int) > 1048576
  · simp only [hbig, hbig2, if_true, if_false]; exact Ev.now _
  simp only [hbig, hbig2, if_false]
  have hll : l.length ≤ 35184372088832 := by omega
  have hlm : m.length ≤ 35184372088832 := by omega
  obtain ⟨R1, R2, hR1, hR2, hRl⟩ : ∃ (R1 : List Int) (R2 : Bool), Ev (fun k => spec_ConvPoly.f k f l m) (R1, R2) ∧ Ev (fun k => impl_ConvPoly.f k f l m) (R1, R2) ∧ R1.length ≤ 1048576 := by
    by_cases h : PolyV f l ∧ PolyV f m
    · exact conv_both h.1 h.2
    · refine ⟨[], false, ?_, ?_, by simp⟩
      · unfold spec_ConvPoly.f
        refine Ev.bind (ev_sMulPoly_bad h) ?_
        simp only [Bool.false_eq_true, if_false]; exact Ev.now _
      · unfold impl_ConvPoly.f
        refine Ev.bind (ev_polyField2_bad h) ?_
        simp only [Bool.false_eq_true, if_false]; exact Ev.now _
  have nR : ¬ ((1 : Int) + (R1.length : Int) < 0) := by omega
  have nL : ¬ ((1 : Int) + (l.length : Int) + (m.length : Int) < 0) := by omega
  repeat first
    | exact Ev.now _
    | refine Ev.bind hR1 ?_
    | refine Ev.bind hR2 ?_
    | refine Ev.bind (ev_toIntS l hll) ?_
    | refine Ev.bind (ev_toIntS m hlm) ?_
    | refine Ev.bind (ev_eqIntS l (by omega)) ?_
    | refine Ev.bind (ev_eqIntS m (by omega)) ?_
    | refine Ev.bind (ev_eqIntS R1 (by omega)) ?_
    | refine Ev.bind (ev_mark l (1) (by omega) (by omega) (by omega)) ?_
    | refine Ev.bind (ev_mark m (1 + (l.length : Int)) (by omega) (by omega) (by omega)) ?_
    | refine Ev.bind (ev_mark R1 1 (by omega) (by omega) (by omega)) ?_
    | refine Ev.bind (ev_held R1.length 1 (by omega) (by omega) (by omega)) ?_
    | simp only [if_true, nR, nL, if_false, bne_self_eq_false, Bool.false_eq_true, Bool.not_true]
    | (refine ev_s ?_; simp only [laws_FnExactConvPoly.j0])
    | (refine ev_s ?_; simp only [laws_FnExactConvPoly.j1])
    | (refine ev_s ?_; simp only [laws_FnExactConvPoly.j2])

end Go.Proofs.Ytgjogfohknjpmaa.Pure
