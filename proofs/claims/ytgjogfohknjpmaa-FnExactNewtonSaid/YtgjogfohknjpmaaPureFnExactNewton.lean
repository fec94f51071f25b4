/- FnExactNewton returns true for every field number and list: both lists of power sums are the same. -/
import Derived.Test.YtgjogfohknjpmaaPFnExactNewtonx5
import Derived.Test.YtgjogfohknjpmaaGB
import Derived.Test.YtgjogfohknjpmaaGE
set_option linter.unusedVariables false
set_option linter.unusedSimpArgs false
namespace Go.Proofs.Ytgjogfohknjpmaa.Pure
open Go.RowKit Go.Proofs.Ytgjogfohknjpmaa.PFnExactNewton Go.Proofs.YtgjogfohknjpmaaW.PrintWords Go.Proofs.YtgjogfohknjpmaaW.PrintLast Go.Proofs.YtgjogfohknjpmaaW.PrintMore G7
theorem ev_toIntS (l : List Int) (hl : l.length ≤ 35184372088832) : Ev (fun k => laws_toIntS.f k l) l := by
  have key : ∀ (d i : Nat) (out : List Int), i + d = l.length → out.length = l.length → (∀ j : Nat, j < i → rd out (j : Int) = rd l (j : Int)) → Ev (fun k => laws_toIntS.l0 k l out (i : Int)) l := by
    intro d
    induction d with
    | zero =>
      intro i out hi ho hx
      refine ev_s ?_
      have h1 : ¬ ((i : Int) < (l.length : Int)) := by omega
      simp only [laws_toIntS.l0, h1, if_false]
      rw [ext_rd ho (fun j hj => hx j (by omega))]
      exact Ev.now _
    | succ d ih =>
      intro i out hi ho hx
      refine ev_s ?_
      have h1 : (i : Int) < (l.length : Int) := by omega
      have h2 : (0 : Int) ≤ (i : Int) := by omega
      have h3 : (i : Int) < (out.length : Int) := by omega
      simp only [laws_toIntS.l0, h1, h2, h3, if_true, w_succ (n := i) (by omega), Int.toNat_natCast]
      refine ih (i + 1) _ (by omega) (by rw [List.length_set]; exact ho) (fun j hj => ?_)
      by_cases c : i = j
      · subst c; rw [rd_set_eq (by omega)]
      · rw [rd_set_ne c]; exact hx j (by omega)
  unfold laws_toIntS.f
  have h1 : (0 : Int) ≤ (l.length : Int) := by omega
  simp only [h1, if_true, Int.toNat_natCast, hl]
  exact key l.length 0 _ (by omega) (by simp) (fun j hj => by omega)

theorem ev_eqIntS (l : List Int) (hl : l.length ≤ 35184372088832) : Ev (fun k => laws_eqIntS.f k l l) true := by
  have key : ∀ (d i : Nat), i + d = l.length → Ev (fun k => laws_eqIntS.l0 k l l (i : Int)) true := by
    intro d
    induction d with
    | zero =>
      intro i hi
      refine ev_s ?_
      have h1 : ¬ ((i : Int) < (l.length : Int)) := by omega
      simp only [laws_eqIntS.l0, h1, if_false]
      exact Ev.now _
    | succ d ih =>
      intro i hi
      refine ev_s ?_
      have h1 : (i : Int) < (l.length : Int) := by omega
      have h2 : (0 : Int) ≤ (i : Int) := by omega
      simp only [laws_eqIntS.l0, h1, h2, if_true, w_succ (n := i) (by omega)]
      exact ih (i + 1) (by omega)
  unfold laws_eqIntS.f
  simp only [if_true]
  exact key l.length 0 (by omega)

/-- What markIntS leaves. -/
def marks (n : Nat) (m : Int) : List Int := (List.range n).map (fun i => m + (i : Nat))
theorem marks_len (n : Nat) (m : Int) : (marks n m).length = n := by simp [marks]
theorem marks_rd {n i : Nat} (m : Int) (h : i < n) : rd (marks n m) (i : Int) = m + i := by unfold marks; rw [rd_map _ h]
theorem ev_mark (l : List Int) (m : Int) (hl : l.length ≤ 35184372088832) (h0 : 0 ≤ m) (h1 : m ≤ 4611686018427387904) : Ev (fun k => laws_markIntS.f k l m) (m + l.length, marks l.length m) := by
  have key : ∀ (d i : Nat) (out : List Int), i + d = l.length → out.length = l.length → (∀ j : Nat, j < i → rd out (j : Int) = m + j) → Ev (fun k => laws_markIntS.l0 k out (m + i) (i : Int)) (m + l.length, marks l.length m) := by
    intro d
    induction d with
    | zero =>
      intro i out hi ho hx
      refine ev_s ?_
      have g1 : ¬ ((i : Int) < (out.length : Int)) := by omega
      simp only [laws_markIntS.l0, g1, if_false]
      have e : out = marks l.length m := ext_rd (by rw [marks_len, ho]) (fun j hj => by rw [marks_rd m (by omega)]; exact hx j (by omega))
      rw [e, show i = l.length by omega]
      exact Ev.now _
    | succ d ih =>
      intro i out hi ho hx
      refine ev_s ?_
      have g1 : (i : Int) < (out.length : Int) := by omega
      have g2 : (0 : Int) ≤ (i : Int) := by omega
      simp only [laws_markIntS.l0, g1, g2, if_true, w_succ (n := i) (by omega), Int.toNat_natCast, w64 (x := m + (i : Int) + 1) (by omega) (by omega)]
      rw [show m + (i : Int) + 1 = m + ((i + 1 : Nat) : Int) by omega]
      refine ih (i + 1) _ (by omega) (by rw [List.length_set]; exact ho) (fun j hj => ?_)
      by_cases c : i = j
      · subst c; rw [rd_set_eq (by omega)]
      · rw [rd_set_ne c]; exact hx j (by omega)
  unfold laws_markIntS.f
  have := key l.length 0 l (by omega) rfl (fun j hj => by omega)
  simpa using this
theorem ev_held (n : Nat) (m : Int) (hl : n ≤ 35184372088832) (h0 : 0 ≤ m) (h1 : m ≤ 4611686018427387904) : Ev (fun k => laws_heldIntS.f k (marks n m) m) (m + n) := by
  have key : ∀ (d i : Nat), i + d = n → Ev (fun k => laws_heldIntS.l0 k (marks n m) (m + i) (i : Int)) (m + n) := by
    intro d
    induction d with
    | zero =>
      intro i hi
      refine ev_s ?_
      have g1 : ¬ ((i : Int) < ((marks n m).length : Int)) := by rw [marks_len]; omega
      simp only [laws_heldIntS.l0, g1, if_false]
      rw [show i = n by omega]
      exact Ev.now _
    | succ d ih =>
      intro i hi
      refine ev_s ?_
      have g1 : (i : Int) < ((marks n m).length : Int) := by rw [marks_len]; omega
      have g2 : (0 : Int) ≤ (i : Int) := by omega
      simp only [laws_heldIntS.l0, g1, g2, if_true, marks_rd m (show i < n by omega), w_succ (n := i) (by omega), w64 (x := m + (i : Int) + 1) (by omega) (by omega)]
      rw [show m + (i : Int) + 1 = m + ((i + 1 : Nat) : Int) by omega]
      exact ih (i + 1) (by omega)
  unfold laws_heldIntS.f
  have := key n 0 (by omega)
  simpa using this

/-- A series over a field. -/
def SerOk (f : Int) (a : List Int) : Prop := (0 ≤ f ∧ f < 9) ∧ 1 ≤ a.length ∧ a.length ≤ 64 ∧ El (md f) a
theorem SerOk.pm {f : Int} {a : List Int} (h : SerOk f a) : Pm (md f) := pm_of h.1
theorem SerOk.rd {f : Int} {a : List Int} (h : SerOk f a) (i : Int) : 0 ≤ rd a i ∧ rd a i < md f := h.2.2.2.rd (pm_of h.1).pos i

theorem ev_l01In (x a b : Int) : spec_l01In.f x a b = some (decide (a ≤ x) && decide (x ≤ b)) := by
  unfold spec_l01In.f
  by_cases h : a ≤ x
  · rw [if_pos h, decide_eq_true h, Bool.true_and]
  · rw [if_neg h, decide_eq_false h, Bool.false_and]

theorem ev_Modulus (f : Int) : spec_Modulus.f f = some (md f) := by
  unfold spec_Modulus.f md
  by_cases h0 : f = 0
  · rw [if_pos h0, if_pos h0]
  rw [if_neg h0, if_neg h0]
  by_cases h1 : f = 1
  · rw [if_pos h1, if_pos h1]
  rw [if_neg h1, if_neg h1]
  by_cases h2 : f = 2
  · rw [if_pos h2, if_pos h2]
  rw [if_neg h2, if_neg h2]
  by_cases h3 : f = 3
  · rw [if_pos h3, if_pos h3]
  rw [if_neg h3, if_neg h3]
  by_cases h4 : f = 4
  · rw [if_pos h4, if_pos h4]
  rw [if_neg h4, if_neg h4]
  by_cases h5 : f = 5
  · rw [if_pos h5, if_pos h5]
  rw [if_neg h5, if_neg h5]
  by_cases h6 : f = 6
  · rw [if_pos h6, if_pos h6]
  rw [if_neg h6, if_neg h6]
  by_cases h7 : f = 7
  · rw [if_pos h7, if_pos h7]
  rw [if_neg h7, if_neg h7]
  by_cases h8 : f = 8
  · rw [if_pos h8, if_pos h8]
  rw [if_neg h8, if_neg h8]

theorem ev_l03Elements {f : Int} (h : 0 ≤ f ∧ f < 9) (l : List Int) (hl : l.length ≤ 35184372088832) : Ev (fun k => spec_l03Elements.f k f l) (elB (md f) l) := by
  have hp := pm_of h
  unfold Pm at hp
  have key : ∀ (d i : Nat), i + d = l.length → Ev (fun k => spec_l03Elements.l0 k l (md f) (i : Int)) (elB (md f) (l.drop i)) := by
    intro d
    induction d with
    | zero =>
      intro i hi
      refine ev_s ?_
      have h1 : ¬ ((i : Int) < (l.length : Int)) := by omega
      simp only [spec_l03Elements.l0, h1, if_false]
      rw [List.drop_of_length_le (by omega)]
      exact Ev.now _
    | succ d ih =>
      intro i hi
      refine ev_s ?_
      have h1 : (i : Int) < (l.length : Int) := by omega
      have h2 : (0 : Int) ≤ (i : Int) := by omega
      simp only [spec_l03Elements.l0, h1, h2, if_true, w_succ (n := i) (by omega), w64 (x := md f - 1) (by omega) (by omega), ev_l01In, Option.bind_some]
      rw [elB_drop (by omega)]
      rw [show decide (rd l (i : Int) < md f) = decide (rd l (i : Int) ≤ md f - 1) from decide_eq_decide.2 (by omega)]
      by_cases c : (decide (0 ≤ rd l (i : Int)) && decide (rd l (i : Int) ≤ md f - 1)) = true
      · simp only [c, if_true, Bool.true_and]
        exact ih (i + 1) (by omega)
      · simp only [Bool.not_eq_true] at c
        simp only [c, Bool.false_and, Bool.false_eq_true, if_false]
        exact Ev.now _
  unfold spec_l03Elements.f
  simp only [ev_Modulus, Option.bind_some]
  have h0 : ¬ (md f = 0) := by omega
  simp only [h0, if_false]
  exact key l.length 0 (by omega)
theorem ev_l03Elements_bad {f : Int} (h : ¬ (0 ≤ f ∧ f < 9)) (l : List Int) : Ev (fun k => spec_l03Elements.f k f l) false := by
  unfold spec_l03Elements.f
  simp only [ev_Modulus, Option.bind_some, md_bad h, if_true]
  exact Ev.now _

theorem ev_SeriesOk {f : Int} {a : List Int} (h : SerOk f a) : Ev (fun k => spec_SeriesOk.f k f a) true := by
  obtain ⟨hf, h1, h2, he⟩ := h
  unfold spec_SeriesOk.f
  simp only [ev_l01In, Option.bind_some, show decide ((1 : Int) ≤ (a.length : Int)) = true from decide_eq_true (by omega), show decide ((a.length : Int) ≤ 64) = true from decide_eq_true (by omega), Bool.and_self, if_true]
  refine Ev.bind (ev_l03Elements hf a (by omega)) ?_
  rw [elB_iff.2 he]
  exact Ev.now _
theorem ev_SeriesOk_bad {f : Int} {a : List Int} (h : ¬ SerOk f a) : Ev (fun k => spec_SeriesOk.f k f a) false := by
  unfold spec_SeriesOk.f
  simp only [ev_l01In, Option.bind_some]
  by_cases c : (1 : Int) ≤ (a.length : Int) ∧ (a.length : Int) ≤ 64
  · simp only [decide_eq_true c.1, decide_eq_true c.2, Bool.and_self, if_true]
    by_cases hf : 0 ≤ f ∧ f < 9
    · refine Ev.bind (ev_l03Elements hf a (by omega)) ?_
      have he : elB (md f) a = false := by
        rw [← Bool.not_eq_true, elB_iff]
        intro he
        exact h ⟨hf, by omega, by omega, he⟩
      rw [he]
      exact Ev.now _
    · refine Ev.bind (ev_l03Elements_bad hf a) ?_
      exact Ev.now _
  · have e : (decide ((1 : Int) ≤ (a.length : Int)) && decide ((a.length : Int) ≤ 64)) = false := by
      rw [← Bool.not_eq_true, Bool.and_eq_true, decide_eq_true_eq, decide_eq_true_eq]; exact c
    simp only [e, Bool.false_eq_true, if_false]
    exact Ev.now _

theorem ev_Reduce {f : Int} (h : 0 ≤ f ∧ f < 9) (x : Int) : spec_Reduce.f f x = some (x % md f) := by
  have hp := pm_of h
  unfold Pm at hp
  unfold spec_Reduce.f
  rw [ev_Modulus]
  simp only [Option.bind_some]
  rw [if_neg (by omega)]
  have hb := tmod_bounds (a := x) (p := md f) (by omega)
  rw [w64 (by omega) (by omega), ← tmod_fix (a := x) (p := md f) (by omega)]
  by_cases c : Int.tmod x (md f) < 0
  · rw [if_pos c, if_pos c]
  · rw [if_neg c, if_neg c]
theorem ev_Reduce_bad {f : Int} (h : ¬ (0 ≤ f ∧ f < 9)) (x : Int) : spec_Reduce.f f x = some (-1) := by
  unfold spec_Reduce.f
  rw [ev_Modulus]
  simp only [Option.bind_some]
  rw [if_pos (md_bad h)]

theorem ev_Mul {f : Int} (h : 0 ≤ f ∧ f < 9) (x y : Int) : spec_Mul.f f x y = some ((x * y) % md f) := by
  have hp := pm_of h
  have hb := hp
  unfold Pm at hp
  have hx := em_lt (a := x) (p := md f) (by omega)
  have hy := em_lt (a := y) (p := md f) (by omega)
  have hxy := mul_lt_big hx.1 hx.2 hy.1 hy.2 hp.2
  unfold spec_Mul.f
  rw [ev_Modulus]
  simp only [Option.bind_some, ev_Reduce h]
  rw [if_neg (by omega), w64 (by omega) (by omega), emul_l, emul_r]

theorem ev_Sub {f : Int} (h : 0 ≤ f ∧ f < 9) (x y : Int) : spec_Sub.f f x y = some ((x - y) % md f) := by
  have hp := pm_of h
  unfold Pm at hp
  have hx := em_lt (a := x) (p := md f) (by omega)
  have hy := em_lt (a := y) (p := md f) (by omega)
  unfold spec_Sub.f
  rw [ev_Modulus]
  simp only [Option.bind_some, ev_Reduce h]
  rw [if_neg (by omega), w64 (by omega) (by omega), esub_l, esub_r]

theorem ev_Add {f : Int} (h : 0 ≤ f ∧ f < 9) (x y : Int) : spec_Add.f f x y = some ((x + y) % md f) := by
  have hp := pm_of h
  unfold Pm at hp
  have hx := em_lt (a := x) (p := md f) (by omega)
  have hy := em_lt (a := y) (p := md f) (by omega)
  unfold spec_Add.f
  rw [ev_Modulus]
  simp only [Option.bind_some, ev_Reduce h]
  rw [if_neg (by omega), w64 (by omega) (by omega), eadd_l, eadd_r]

/-- The element m with the sign that the program gives to it. -/
def sE (e : List Int) (m : Nat) : Int := if (m + 1) % 2 = 0 then -(rd e (m : Int)) else rd e (m : Int)
def nwA (e out : List Int) (m : Nat) : Int := ((out.length + 1 : Nat) : Int) * sE e out.length + sm m (fun q => sE e q * rd out ((out.length - 1 - q : Nat) : Int))
def nwF (p : Int) (e out : List Int) : Int := nwA e out out.length % p
def nwS (p : Int) (e : List Int) : List Int := bld (nwF p e) e.length
theorem nwS_len (p : Int) (e : List Int) : (nwS p e).length = e.length := bld_len _ _
theorem nwA_succ (e out : List Int) (m : Nat) : nwA e out (m + 1) = nwA e out m + sE e m * rd out ((out.length - 1 - m : Nat) : Int) := by
  unfold nwA; rw [sm_succ, Int.add_assoc]
theorem nwA_zero (e out : List Int) : nwA e out 0 = ((out.length + 1 : Nat) : Int) * sE e out.length := by
  unfold nwA; rw [sm_zero, Int.add_zero]
theorem sE_even {e : List Int} {m : Nat} (h : (m + 1) % 2 = 0) : sE e m = -(rd e (m : Int)) := if_pos h
theorem sE_odd {e : List Int} {m : Nat} (h : ¬ ((m + 1) % 2 = 0)) : sE e m = rd e (m : Int) := if_neg h
theorem neg_step {p A x y : Int} : (A % p + (0 - x * y % p) % p) % p = (A + -x * y) % p := by
  rw [eadd_l, eadd_r]
  exact eadd rfl (by rw [esub_r, Int.zero_sub, Int.neg_mul])
theorem pos_step {p A x y : Int} : (A % p + x * y % p) % p = (A + x * y) % p := by rw [eadd_l, eadd_r]
theorem neg_step2 {p A x y : Int} : (A % p + (0 - x) % p * y % p) % p = (A + -x * y) % p := by
  rw [eadd_l, eadd_r]
  exact eadd rfl (by rw [emul_l, Int.zero_sub])
theorem par_t (m : Nat) : (Int.tmod ((m + 1 : Nat) : Int) 2 = 0) ↔ ((m + 1) % 2 = 0) := by
  rw [tmod_nn (Int.natCast_nonneg _)]
  omega

theorem ev_sNewton {f : Int} {e : List Int} (h : SerOk f e) : Ev (fun k => spec_Newton.f k f e) (nwS (md f) e, true) := by
  have hn := h.2.2.1
  have hf := h.1
  have inner : ∀ (out : List Int) (r : List Int × Bool), out.length < e.length → Ev (fun k => spec_Newton.l0 k f e (out ++ [nwF (md f) e out]) ((out.length + 1 + 1 : Nat) : Int)) r →
      ∀ (d m : Nat), m + d = out.length → Ev (fun k => spec_Newton.l1 k f e out ((out.length + 1 : Nat) : Int) (nwA e out m % md f) ((m + 1 : Nat) : Int)) r := by
    intro out r ho hr d
    induction d with
    | zero =>
      intro m hm
      refine ev_s ?_
      have g1 : ¬ (((m + 1 : Nat) : Int) < ((out.length + 1 : Nat) : Int)) := by omega
      have g2 : out.length < 17592186044416 := by omega
      simp only [spec_Newton.l1, g1, g2, if_true, if_false, w_succ (n := out.length + 1) (by omega)]
      rw [show m = out.length by omega]
      exact hr
    | succ d ih =>
      intro m hm
      have hs := ih (m + 1) (by omega)
      refine ev_s ?_
      have g1 : ((m + 1 : Nat) : Int) < ((out.length + 1 : Nat) : Int) := by omega
      have g2 : (0 : Int) ≤ (m : Int) := Int.natCast_nonneg _
      have g3 : (m : Int) < (e.length : Int) := by omega
      have g4 : (0 : Int) ≤ ((out.length - 1 - m : Nat) : Int) := Int.natCast_nonneg _
      have g5 : ((out.length - 1 - m : Nat) : Int) < (out.length : Int) := by omega
      have e1 : wrap64 (((m + 1 : Nat) : Int) - 1) = (m : Int) := by rw [w64 (by omega) (by omega)]; omega
      have e2 : wrap64 (wrap64 (((out.length + 1 : Nat) : Int) - ((m + 1 : Nat) : Int)) - 1) = ((out.length - 1 - m : Nat) : Int) := by
        rw [w64 (x := ((out.length + 1 : Nat) : Int) - ((m + 1 : Nat) : Int)) (by omega) (by omega), w64 (by omega) (by omega)]; omega
      have e3 : wrap64 (((m + 1 : Nat) : Int) + 1) = ((m + 1 + 1 : Nat) : Int) := w_succ (n := m + 1) (by omega)
      rw [nwA_succ] at hs
      by_cases c : (m + 1) % 2 = 0
      · rw [sE_even c] at hs
        have c' := (par_t m).2 c
        simp only [spec_Newton.l1, g1, g2, g3, g4, g5, e1, e2, e3, c', if_true, ev_Mul hf, ev_Sub hf, ev_Add hf, Option.bind_some, neg_step]
        exact hs
      · rw [sE_odd c] at hs
        have c' : ¬ (Int.tmod ((m + 1 : Nat) : Int) 2 = 0) := fun h => c ((par_t m).1 h)
        simp only [spec_Newton.l1, g1, g2, g3, g4, g5, e1, e2, e3, c', if_true, if_false, ev_Mul hf, ev_Add hf, Option.bind_some, pos_step]
        exact hs
  have outer : ∀ (d n : Nat), n + d = e.length → Ev (fun k => spec_Newton.l0 k f e (bld (nwF (md f) e) n) ((n + 1 : Nat) : Int)) (nwS (md f) e, true) := by
    intro d
    induction d with
    | zero =>
      intro n hd
      refine ev_s ?_
      have g1 : ¬ (((n + 1 : Nat) : Int) ≤ (e.length : Int)) := by omega
      simp only [spec_Newton.l0, g1, if_false]
      rw [show n = e.length by omega]; exact Ev.now _
    | succ d ih =>
      intro n hd
      have hl : (bld (nwF (md f) e) n).length = n := bld_len _ _
      have hnext := ih (n + 1) (by omega)
      have hi := inner (bld (nwF (md f) e) n) (nwS (md f) e, true) (by omega) (by rw [hl]; exact hnext) n 0 (by omega)
      rw [nwA_zero, hl] at hi
      refine ev_s ?_
      have g1 : ((n + 1 : Nat) : Int) ≤ (e.length : Int) := by omega
      have g2 : (0 : Int) ≤ (n : Int) := Int.natCast_nonneg _
      have g3 : (n : Int) < (e.length : Int) := by omega
      have e1 : wrap64 (((n + 1 : Nat) : Int) - 1) = (n : Int) := by rw [w64 (by omega) (by omega)]; omega
      by_cases c : (n + 1) % 2 = 0
      · have c' := (par_t n).2 c
        rw [sE_even c] at hi
        simp only [spec_Newton.l0, g1, g2, g3, e1, c', if_true, ev_Mul hf, ev_Sub hf, Option.bind_some]
        refine ev_s ?_
        simp only [spec_Newton.j1]
        have q : (0 - ((n + 1 : Nat) : Int) * rd e (n : Int) % md f) % md f = ((n + 1 : Nat) : Int) * -(rd e (n : Int)) % md f := by rw [esub_r, Int.zero_sub, Int.mul_neg]
        rw [q]
        exact hi
      · have c' : ¬ (Int.tmod ((n + 1 : Nat) : Int) 2 = 0) := fun h => c ((par_t n).1 h)
        rw [sE_odd c] at hi
        simp only [spec_Newton.l0, g1, g2, g3, e1, c', if_true, if_false, ev_Mul hf, Option.bind_some]
        refine ev_s ?_
        simp only [spec_Newton.j1]
        exact hi
  unfold spec_Newton.f
  refine Ev.bind (ev_SeriesOk h) ?_
  simp only [if_true]
  exact outer e.length 0 (by omega)
theorem ev_sNewton_bad {f : Int} {e : List Int} (h : ¬ SerOk f e) : Ev (fun k => spec_Newton.f k f e) ([], false) := by
  unfold spec_Newton.f
  refine Ev.bind (ev_SeriesOk_bad h) ?_
  simp only [Bool.false_eq_true, if_false]; exact Ev.now _

theorem ev_fieldOf {f : Int} (h : 0 ≤ f ∧ f < 9) : impl_fieldOf.f f = some (md f, gn f, tp f, true) := by
  rcases fcases h.1 h.2 with e | e | e | e | e | e | e | e | e <;> subst e <;> rfl
theorem ev_fieldOf_bad {f : Int} (h : ¬ (0 ≤ f ∧ f < 9)) : impl_fieldOf.f f = some (0, 0, 0, false) := by
  unfold impl_fieldOf.f
  by_cases c : f < 0
  · rw [if_pos c]
  · rw [if_neg c, if_pos (by omega)]

theorem ev_areElements (p g t : Int) (l : List Int) (hl : l.length ≤ 35184372088832) : Ev (fun k => impl_field_areElements.f k p g t l) (elB p l) := by
  have key : ∀ (d i : Nat), i + d = l.length → Ev (fun k => impl_field_areElements.l0 k l (l.length : Int) (i : Int) p g t) (elB p (l.drop i)) := by
    intro d
    induction d with
    | zero =>
      intro i hi
      refine ev_s ?_
      have h1 : ¬ ((i : Int) < (l.length : Int)) := by omega
      simp only [impl_field_areElements.l0, h1, if_false]
      rw [List.drop_of_length_le (by omega)]
      exact Ev.now _
    | succ d ih =>
      intro i hi
      refine ev_s ?_
      have h1 : (i : Int) < (l.length : Int) := by omega
      have h2 : (0 : Int) ≤ (i : Int) := by omega
      simp only [impl_field_areElements.l0, h1, h2, if_true, w_succ (n := i) (by omega)]
      rw [elB_drop (by omega)]
      by_cases c1 : rd l (i : Int) < 0
      · simp only [c1, if_true, show decide (0 ≤ rd l (i : Int)) = false from decide_eq_false (by omega), Bool.false_and]
        exact Ev.now _
      · by_cases c2 : rd l (i : Int) ≥ p
        · simp only [c1, c2, if_true, if_false, show decide (rd l (i : Int) < p) = false from decide_eq_false (by omega), Bool.false_and, Bool.and_false]
          exact Ev.now _
        · simp only [c1, c2, if_false, show decide (0 ≤ rd l (i : Int)) = true from decide_eq_true (by omega), show decide (rd l (i : Int) < p) = true from decide_eq_true (by omega), Bool.true_and]
          exact ih (i + 1) (by omega)
  exact key l.length 0 (by omega)

theorem ev_seriesField1 {f : Int} {a : List Int} (h : SerOk f a) : Ev (fun k => impl_seriesField.f k f [a]) (md f, gn f, tp f, true) := by
  obtain ⟨hf, h1, h2, he⟩ := h
  unfold impl_seriesField.f
  have hl : (([a] : List (List Int)).length : Int) = 1 := rfl
  have hr : rd_L1 [a] 0 = a := rfl
  have n1 : ¬ ((a.length : Int) < 1) := by omega
  have n2 : ¬ ((a.length : Int) > 64) := by omega
  simp only [ev_fieldOf hf, Option.bind_some, if_true, hl]
  refine ev_s ?_
  simp only [impl_seriesField.l0, hl, hr, n1, n2, if_false, show (0 : Int) < 1 from by decide, show (0 : Int) ≤ 0 from by decide, if_true]
  refine Ev.bind (ev_areElements _ _ _ a (by omega)) ?_
  simp only [elB_iff.2 he, if_true, w64 (x := 0 + 1) (by decide) (by decide)]
  refine ev_s ?_
  simp only [impl_seriesField.l0, hl, show ¬ ((0 : Int) + 1 < 1) from by decide, if_false]
  exact Ev.now _
theorem ev_seriesField1_bad {f : Int} {a : List Int} (h : ¬ SerOk f a) : Ev (fun k => impl_seriesField.f k f [a]) (0, 0, 0, false) := by
  unfold impl_seriesField.f
  by_cases hf : 0 ≤ f ∧ f < 9
  · have hl : (([a] : List (List Int)).length : Int) = 1 := rfl
    have hr : rd_L1 [a] 0 = a := rfl
    simp only [ev_fieldOf hf, Option.bind_some, if_true, hl]
    refine ev_s ?_
    simp only [impl_seriesField.l0, hl, hr, show (0 : Int) < 1 from by decide, show (0 : Int) ≤ 0 from by decide, if_true]
    by_cases n1 : (a.length : Int) < 1
    · simp only [n1, if_true]; exact Ev.now _
    · by_cases n2 : (a.length : Int) > 64
      · simp only [n1, n2, if_true, if_false]; exact Ev.now _
      · simp only [n1, n2, if_false]
        refine Ev.bind (ev_areElements _ _ _ a (by omega)) ?_
        have he : elB (md f) a = false := by
          rw [← Bool.not_eq_true, elB_iff]
          intro he
          exact h ⟨hf, by omega, by omega, he⟩
        simp only [he, Bool.false_eq_true, if_false]
        exact Ev.now _
  · simp only [ev_fieldOf_bad hf, Option.bind_some, Bool.false_eq_true, if_false]
    exact Ev.now _

theorem ev_mul {p : Int} (hp : Pm p) (g t : Int) {a b : Int} (ha : 0 ≤ a ∧ a < p) (hb : 0 ≤ b ∧ b < p) : impl_field_mul.f p g t a b = some (a * b % p) := by
  unfold Pm at hp
  have h := mul_lt_big ha.1 ha.2 hb.1 hb.2 hp.2
  unfold impl_field_mul.f
  rw [if_neg (by omega), w64 (by omega) (by omega), tmod_nn (by omega)]

theorem ev_add {p : Int} (hp : Pm p) (g t : Int) {a b : Int} (ha : 0 ≤ a ∧ a < p) (hb : 0 ≤ b ∧ b < p) : impl_field_add.f p g t a b = some ((a + b) % p) := by
  unfold Pm at hp
  unfold impl_field_add.f
  rw [if_neg (by omega), w64 (by omega) (by omega), tmod_nn (by omega)]

theorem ev_sub {p : Int} (hp : Pm p) (g t : Int) {a b : Int} (ha : 0 ≤ a ∧ a < p) (hb : 0 ≤ b ∧ b < p) : impl_field_sub.f p g t a b = some ((a - b) % p) := by
  unfold Pm at hp
  unfold impl_field_sub.f
  rw [if_neg (by omega), w64 (x := a - b) (by omega) (by omega), w64 (by omega) (by omega), tmod_nn (by omega), Int.add_emod_right]

theorem ev_signed {p : Int} (hp : Pm p) (g t : Int) {e : List Int} (he : El p e) (hl : e.length ≤ 64) {m : Nat} (hm : m < e.length) : impl_NewtonSigned.f ((m + 1 : Nat) : Int) p g t e = some (sE e m % p) := by
  have g2 : (0 : Int) ≤ (m : Int) := Int.natCast_nonneg _
  have g3 : (m : Int) < (e.length : Int) := by omega
  have e1 : wrap64 (((m + 1 : Nat) : Int) - 1) = (m : Int) := by rw [w64 (by omega) (by omega)]; omega
  have hx := he.rd hp.pos (m : Int)
  unfold impl_NewtonSigned.f
  by_cases c : (m + 1) % 2 = 0
  · have c' := (par_t m).2 c
    simp only [c', e1, g2, g3, if_true, ev_sub hp g t (a := 0) ⟨Int.le_refl 0, hp.pos⟩ hx, Option.bind_some]
    rw [sE_even c, Int.zero_sub]
  · have c' : ¬ (Int.tmod ((m + 1 : Nat) : Int) 2 = 0) := fun h => c ((par_t m).1 h)
    simp only [c', e1, g2, g3, if_true, if_false]
    rw [sE_odd c, em_id hx.1 hx.2]
theorem ev_iNewton {f : Int} {e : List Int} (h : SerOk f e) : Ev (fun k => impl_Newton.f k f e) (nwS (md f) e, true) := by
  have hn := h.2.2.1
  have hp := h.pm
  have he := h.2.2.2
  have hF : ∀ out, 0 ≤ nwF (md f) e out ∧ nwF (md f) e out < md f := fun out => em_lt hp.pos
  have inner : ∀ (out : List Int) (r : List Int × Bool), out.length < e.length → El (md f) out → Ev (fun k => impl_Newton.l0 k e (out ++ [nwF (md f) e out]) ((out.length + 1 + 1 : Nat) : Int) (md f) (gn f) (tp f)) r →
      ∀ (d m : Nat), m + d = out.length → Ev (fun k => impl_Newton.l1 k e out ((out.length + 1 : Nat) : Int) (nwA e out m % md f) ((m + 1 : Nat) : Int) (md f) (gn f) (tp f)) r := by
    intro out r ho hel hr d
    induction d with
    | zero =>
      intro m hm
      refine ev_s ?_
      have g1 : ¬ (((m + 1 : Nat) : Int) < ((out.length + 1 : Nat) : Int)) := by omega
      have g2 : out.length < 17592186044416 := by omega
      simp only [impl_Newton.l1, g1, g2, if_true, if_false, w_succ (n := out.length + 1) (by omega)]
      rw [show m = out.length by omega]
      exact hr
    | succ d ih =>
      intro m hm
      have hs := ih (m + 1) (by omega)
      refine ev_s ?_
      have g1 : ((m + 1 : Nat) : Int) < ((out.length + 1 : Nat) : Int) := by omega
      have g3 : m < e.length := by omega
      have g4 : (0 : Int) ≤ ((out.length - 1 - m : Nat) : Int) := Int.natCast_nonneg _
      have g5 : ((out.length - 1 - m : Nat) : Int) < (out.length : Int) := by omega
      have e2 : wrap64 (wrap64 (((out.length + 1 : Nat) : Int) - ((m + 1 : Nat) : Int)) - 1) = ((out.length - 1 - m : Nat) : Int) := by
        rw [w64 (x := ((out.length + 1 : Nat) : Int) - ((m + 1 : Nat) : Int)) (by omega) (by omega), w64 (by omega) (by omega)]; omega
      have e3 : wrap64 (((m + 1 : Nat) : Int) + 1) = ((m + 1 + 1 : Nat) : Int) := w_succ (n := m + 1) (by omega)
      rw [nwA_succ] at hs
      have hy := hel.rd hp.pos ((out.length - 1 - m : Nat) : Int)
      simp only [impl_Newton.l1, g1, g4, g5, e2, e3, if_true, ev_signed hp _ _ he hn g3, ev_mul hp _ _ (em_lt hp.pos) hy, ev_add hp _ _ (em_lt hp.pos) (em_lt hp.pos), Option.bind_some, emul_l, eadd_l, eadd_r]
      exact hs
  have outer : ∀ (d n : Nat), n + d = e.length → Ev (fun k => impl_Newton.l0 k e (bld (nwF (md f) e) n) ((n + 1 : Nat) : Int) (md f) (gn f) (tp f)) (nwS (md f) e, true) := by
    intro d
    induction d with
    | zero =>
      intro n hd
      refine ev_s ?_
      have g1 : ¬ (((n + 1 : Nat) : Int) ≤ (e.length : Int)) := by omega
      simp only [impl_Newton.l0, g1, if_false]
      rw [show n = e.length by omega]; exact Ev.now _
    | succ d ih =>
      intro n hd
      have hl : (bld (nwF (md f) e) n).length = n := bld_len _ _
      have hnext := ih (n + 1) (by omega)
      have hi := inner (bld (nwF (md f) e) n) (nwS (md f) e, true) (by omega) (bld_el hF n) (by rw [hl]; exact hnext) n 0 (by omega)
      rw [nwA_zero, hl] at hi
      refine ev_s ?_
      have g1 : ((n + 1 : Nat) : Int) ≤ (e.length : Int) := by omega
      have g2 : ¬ (md f = 0) := fun c => by have := hp.pos; rw [c] at this; exact absurd this (by decide)
      have g3 : n < e.length := by omega
      have ei : Int.tmod ((n + 1 : Nat) : Int) (md f) = ((n + 1 : Nat) : Int) % md f := tmod_nn (Int.natCast_nonneg _)
      simp only [impl_Newton.l0, g1, g2, if_true, if_false, ei, ev_signed hp _ _ he hn g3, ev_mul hp _ _ (em_lt (a := ((n + 1 : Nat) : Int)) hp.pos) (em_lt hp.pos), Option.bind_some, emul_l, emul_r]
      exact hi
  unfold impl_Newton.f
  refine Ev.bind (ev_seriesField1 h) ?_
  simp only [if_true]
  exact outer e.length 0 (by omega)
theorem ev_iNewton_bad {f : Int} {e : List Int} (h : ¬ SerOk f e) : Ev (fun k => impl_Newton.f k f e) ([], false) := by
  unfold impl_Newton.f
  refine Ev.bind (ev_seriesField1_bad h) ?_
  simp only [Bool.false_eq_true, if_false]; exact Ev.now _

theorem FnExactNewton : laws_FnExactNewton.Pure := by
  intro f l hf hl hl8 hw
  refine Ev.rounds ?_
  unfold laws_FnExactNewton.f
  by_cases hbig : (l.length : Int) > 1048576
  · simp only [hbig, if_true]; exact Ev.now _
  simp only [hbig, if_false]
  have hll : l.length ≤ 35184372088832 := by omega
  obtain ⟨R1, R2, hR1, hR2, hRl⟩ : ∃ (R1 : List Int) (R2 : Bool), Ev (fun k => spec_Newton.f k f l) (R1, R2) ∧ Ev (fun k => impl_Newton.f k f l) (R1, R2) ∧ R1.length ≤ 1048576 := by
    by_cases h : SerOk f l
    · exact ⟨_, _, ev_sNewton h, ev_iNewton h, by rw [nwS_len]; have := h.2.2.1; omega⟩
    · exact ⟨_, _, ev_sNewton_bad h, ev_iNewton_bad h, by simp⟩
  have nR : ¬ ((1 : Int) + (R1.length : Int) < 0) := by omega
  have nL : ¬ ((1 : Int) + (l.length : Int) < 0) := by omega
  repeat first
    | exact Ev.now _
    | refine Ev.bind hR1 ?_
    | refine Ev.bind hR2 ?_
    | refine Ev.bind (ev_toIntS l hll) ?_
    | refine Ev.bind (ev_eqIntS l (by omega)) ?_
    | refine Ev.bind (ev_eqIntS R1 (by omega)) ?_
    | refine Ev.bind (ev_mark l (1) (by omega) (by omega) (by omega)) ?_
    | refine Ev.bind (ev_mark R1 1 (by omega) (by omega) (by omega)) ?_
    | refine Ev.bind (ev_held R1.length 1 (by omega) (by omega) (by omega)) ?_
    | simp only [if_true, nR, nL, if_false, bne_self_eq_false, Bool.false_eq_true, Bool.not_true]
    | (refine ev_s ?_; simp only [laws_FnExactNewton.j0])
    | (refine ev_s ?_; simp only [laws_FnExactNewton.j1])
    | (refine ev_s ?_; simp only [laws_FnExactNewton.j2])

end Go.Proofs.Ytgjogfohknjpmaa.Pure
