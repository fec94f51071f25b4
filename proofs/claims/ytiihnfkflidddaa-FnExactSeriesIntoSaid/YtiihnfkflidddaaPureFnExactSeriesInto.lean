/- FnExactSeriesInto returns true for every field number and two lists: both substitutions are the same. -/
import Derived.Test.YtiihnfkflidddaaPFnExactSeriesIntox6
import Derived.Test.YtiihnfkflidddaaGB
import Derived.Test.YtiihnfkflidddaaGE
set_option linter.unusedVariables false
set_option linter.unusedSimpArgs false
namespace Go.Proofs.Ytiihnfkflidddaa.Pure
open Go.RowKit Go.Proofs.Ytiihnfkflidddaa.PFnExactSeriesInto Go.Proofs.YtiihnfkflidddaaW.PrintWords Go.Proofs.YtiihnfkflidddaaW.PrintLast Go.Proofs.YtiihnfkflidddaaW.PrintMore G7
theorem ev_toIntS (l : List Int) (hl : l.length ≤ 35184372088832) : Ev (fun k => laws_toIntS.f k l) l := by
  have key : ∀ (d i : Nat) (out : List Int), i + d = l.length → out.length = l.length → (∀ j : Nat, j < i → rd out (j : Int) = rd l (j : Int)) → Ev (fun k => laws_toIntS.l0 k l out (i : Int)) l := by
    intro d
    induction d with
    | zero =>
      intro i out hi ho hx
      refine ev_s ?_
      have h1 : ¬ ((i : Int) < (l.length : Int)) := by omega
      simp only [laws_toIntS.l0, h1, if_false]
      rw [ext_rd ho (fun j hj => hx j (by omega))]
      exact Ev.now _
    | succ d ih =>
      intro i out hi ho hx
      refine ev_s ?_
      have h1 : (i : Int) < (l.length : Int) := by omega
      have h2 : (0 : Int) ≤ (i : Int) := by omega
      have h3 : (i : Int) < (out.length : Int) := by omega
      simp only [laws_toIntS.l0, h1, h2, h3, if_true, w_succ (n := i) (by omega), Int.toNat_natCast]
      refine ih (i + 1) _ (by omega) (by rw [List.length_set]; exact ho) (fun j hj => ?_)
      by_cases c : i = j
      · subst c; rw [rd_set_eq (by omega)]
      · rw [rd_set_ne c]; exact hx j (by omega)
  unfold laws_toIntS.f
  have h1 : (0 : Int) ≤ (l.length : Int) := by omega
  simp only [h1, if_true, Int.toNat_natCast, hl]
  exact key l.length 0 _ (by omega) (by simp) (fun j hj => by omega)

theorem ev_eqIntS (l : List Int) (hl : l.length ≤ 35184372088832) : Ev (fun k => laws_eqIntS.f k l l) true := by
  have key : ∀ (d i : Nat), i + d = l.length → Ev (fun k => laws_eqIntS.l0 k l l (i : Int)) true := by
    intro d
    induction d with
    | zero =>
      intro i hi
      refine ev_s ?_
      have h1 : ¬ ((i : Int) < (l.length : Int)) := by omega
      simp only [laws_eqIntS.l0, h1, if_false]
      exact Ev.now _
    | succ d ih =>
      intro i hi
      refine ev_s ?_
      have h1 : (i : Int) < (l.length : Int) := by omega
      have h2 : (0 : Int) ≤ (i : Int) := by omega
      simp only [laws_eqIntS.l0, h1, h2, if_true, w_succ (n := i) (by omega)]
      exact ih (i + 1) (by omega)
  unfold laws_eqIntS.f
  simp only [if_true]
  exact key l.length 0 (by omega)

/-- What markIntS leaves. -/
def marks (n : Nat) (m : Int) : List Int := (List.range n).map (fun i => m + (i : Nat))
theorem marks_len (n : Nat) (m : Int) : (marks n m).length = n := by simp [marks]
theorem marks_rd {n i : Nat} (m : Int) (h : i < n) : rd (marks n m) (i : Int) = m + i := by unfold marks; rw [rd_map _ h]
theorem ev_mark (l : List Int) (m : Int) (hl : l.length ≤ 35184372088832) (h0 : 0 ≤ m) (h1 : m ≤ 4611686018427387904) : Ev (fun k => laws_markIntS.f k l m) (m + l.length, marks l.length m) := by
  have key : ∀ (d i : Nat) (out : List Int), i + d = l.length → out.length = l.length → (∀ j : Nat, j < i → rd out (j : Int) = m + j) → Ev (fun k => laws_markIntS.l0 k out (m + i) (i : Int)) (m + l.length, marks l.length m) := by
    intro d
    induction d with
    | zero =>
      intro i out hi ho hx
      refine ev_s ?_
      have g1 : ¬ ((i : Int) < (out.length : Int)) := by omega
      simp only [laws_markIntS.l0, g1, if_false]
      have e : out = marks l.length m := ext_rd (by rw [marks_len, ho]) (fun j hj => by rw [marks_rd m (by omega)]; exact hx j (by omega))
      rw [e, show i = l.length by omega]
      exact Ev.now _
    | succ d ih =>
      intro i out hi ho hx
      refine ev_s ?_
      have g1 : (i : Int) < (out.length : Int) := by omega
      have g2 : (0 : Int) ≤ (i : Int) := by omega
      simp only [laws_markIntS.l0, g1, g2, if_true, w_succ (n := i) (by omega), Int.toNat_natCast, w64 (x := m + (i : Int) + 1) (by omega) (by omega)]
      rw [show m + (i : Int) + 1 = m + ((i + 1 : Nat) : Int) by omega]
      refine ih (i + 1) _ (by omega) (by rw [List.length_set]; exact ho) (fun j hj => ?_)
      by_cases c : i = j
      · subst c; rw [rd_set_eq (by omega)]
      · rw [rd_set_ne c]; exact hx j (by omega)
  unfold laws_markIntS.f
  have := key l.length 0 l (by omega) rfl (fun j hj => by omega)
  simpa using this
theorem ev_held (n : Nat) (m : Int) (hl : n ≤ 35184372088832) (h0 : 0 ≤ m) (h1 : m ≤ 4611686018427387904) : Ev (fun k => laws_heldIntS.f k (marks n m) m) (m + n) := by
  have key : ∀ (d i : Nat), i + d = n → Ev (fun k => laws_heldIntS.l0 k (marks n m) (m + i) (i : Int)) (m + n) := by
    intro d
    induction d with
    | zero =>
      intro i hi
      refine ev_s ?_
      have g1 : ¬ ((i : Int) < ((marks n m).length : Int)) := by rw [marks_len]; omega
      simp only [laws_heldIntS.l0, g1, if_false]
      rw [show i = n by omega]
      exact Ev.now _
    | succ d ih =>
      intro i hi
      refine ev_s ?_
      have g1 : (i : Int) < ((marks n m).length : Int) := by rw [marks_len]; omega
      have g2 : (0 : Int) ≤ (i : Int) := by omega
      simp only [laws_heldIntS.l0, g1, g2, if_true, marks_rd m (show i < n by omega), w_succ (n := i) (by omega), w64 (x := m + (i : Int) + 1) (by omega) (by omega)]
      rw [show m + (i : Int) + 1 = m + ((i + 1 : Nat) : Int) by omega]
      exact ih (i + 1) (by omega)
  unfold laws_heldIntS.f
  have := key n 0 (by omega)
  simpa using this

/-- A series over a field. -/
def SerOk (f : Int) (a : List Int) : Prop := (0 ≤ f ∧ f < 9) ∧ 1 ≤ a.length ∧ a.length ≤ 64 ∧ El (md f) a
theorem SerOk.pm {f : Int} {a : List Int} (h : SerOk f a) : Pm (md f) := pm_of h.1
theorem SerOk.rd {f : Int} {a : List Int} (h : SerOk f a) (i : Int) : 0 ≤ rd a i ∧ rd a i < md f := h.2.2.2.rd (pm_of h.1).pos i

theorem ev_l01In (x a b : Int) : spec_l01In.f x a b = some (decide (a ≤ x) && decide (x ≤ b)) := by
  unfold spec_l01In.f
  by_cases h : a ≤ x
  · rw [if_pos h, decide_eq_true h, Bool.true_and]
  · rw [if_neg h, decide_eq_false h, Bool.false_and]

theorem ev_Modulus (f : Int) : spec_Modulus.f f = some (md f) := by
  unfold spec_Modulus.f md
  by_cases h0 : f = 0
  · rw [if_pos h0, if_pos h0]
  rw [if_neg h0, if_neg h0]
  by_cases h1 : f = 1
  · rw [if_pos h1, if_pos h1]
  rw [if_neg h1, if_neg h1]
  by_cases h2 : f = 2
  · rw [if_pos h2, if_pos h2]
  rw [if_neg h2, if_neg h2]
  by_cases h3 : f = 3
  · rw [if_pos h3, if_pos h3]
  rw [if_neg h3, if_neg h3]
  by_cases h4 : f = 4
  · rw [if_pos h4, if_pos h4]
  rw [if_neg h4, if_neg h4]
  by_cases h5 : f = 5
  · rw [if_pos h5, if_pos h5]
  rw [if_neg h5, if_neg h5]
  by_cases h6 : f = 6
  · rw [if_pos h6, if_pos h6]
  rw [if_neg h6, if_neg h6]
  by_cases h7 : f = 7
  · rw [if_pos h7, if_pos h7]
  rw [if_neg h7, if_neg h7]
  by_cases h8 : f = 8
  · rw [if_pos h8, if_pos h8]
  rw [if_neg h8, if_neg h8]

theorem ev_l03Elements {f : Int} (h : 0 ≤ f ∧ f < 9) (l : List Int) (hl : l.length ≤ 35184372088832) : Ev (fun k => spec_l03Elements.f k f l) (elB (md f) l) := by
  have hp := pm_of h
  unfold Pm at hp
  have key : ∀ (d i : Nat), i + d = l.length → Ev (fun k => spec_l03Elements.l0 k l (md f) (i : Int)) (elB (md f) (l.drop i)) := by
    intro d
    induction d with
    | zero =>
      intro i hi
      refine ev_s ?_
      have h1 : ¬ ((i : Int) < (l.length : Int)) := by omega
      simp only [spec_l03Elements.l0, h1, if_false]
      rw [List.drop_of_length_le (by omega)]
      exact Ev.now _
    | succ d ih =>
      intro i hi
      refine ev_s ?_
      have h1 : (i : Int) < (l.length : Int) := by omega
      have h2 : (0 : Int) ≤ (i : Int) := by omega
      simp only [spec_l03Elements.l0, h1, h2, if_true, w_succ (n := i) (by omega), w64 (x := md f - 1) (by omega) (by omega), ev_l01In, Option.bind_some]
      rw [elB_drop (by omega)]
      rw [show decide (rd l (i : Int) < md f) = decide (rd l (i : Int) ≤ md f - 1) from decide_eq_decide.2 (by omega)]
      by_cases c : (decide (0 ≤ rd l (i : Int)) && decide (rd l (i : Int) ≤ md f - 1)) = true
      · simp only [c, if_true, Bool.true_and]
        exact ih (i + 1) (by omega)
      · simp only [Bool.not_eq_true] at c
        simp only [c, Bool.false_and, Bool.false_eq_true, if_false]
        exact Ev.now _
  unfold spec_l03Elements.f
  simp only [ev_Modulus, Option.bind_some]
  have h0 : ¬ (md f = 0) := by omega
  simp only [h0, if_false]
  exact key l.length 0 (by omega)
theorem ev_l03Elements_bad {f : Int} (h : ¬ (0 ≤ f ∧ f < 9)) (l : List Int) : Ev (fun k => spec_l03Elements.f k f l) false := by
  unfold spec_l03Elements.f
  simp only [ev_Modulus, Option.bind_some, md_bad h, if_true]
  exact Ev.now _

theorem ev_SeriesOk {f : Int} {a : List Int} (h : SerOk f a) : Ev (fun k => spec_SeriesOk.f k f a) true := by
  obtain ⟨hf, h1, h2, he⟩ := h
  unfold spec_SeriesOk.f
  simp only [ev_l01In, Option.bind_some, show decide ((1 : Int) ≤ (a.length : Int)) = true from decide_eq_true (by omega), show decide ((a.length : Int) ≤ 64) = true from decide_eq_true (by omega), Bool.and_self, if_true]
  refine Ev.bind (ev_l03Elements hf a (by omega)) ?_
  rw [elB_iff.2 he]
  exact Ev.now _
theorem ev_SeriesOk_bad {f : Int} {a : List Int} (h : ¬ SerOk f a) : Ev (fun k => spec_SeriesOk.f k f a) false := by
  unfold spec_SeriesOk.f
  simp only [ev_l01In, Option.bind_some]
  by_cases c : (1 : Int) ≤ (a.length : Int) ∧ (a.length : Int) ≤ 64
  · simp only [decide_eq_true c.1, decide_eq_true c.2, Bool.and_self, if_true]
    by_cases hf : 0 ≤ f ∧ f < 9
    · refine Ev.bind (ev_l03Elements hf a (by omega)) ?_
      have he : elB (md f) a = false := by
        rw [← Bool.not_eq_true, elB_iff]
        intro he
        exact h ⟨hf, by omega, by omega, he⟩
      rw [he]
      exact Ev.now _
    · refine Ev.bind (ev_l03Elements_bad hf a) ?_
      exact Ev.now _
  · have e : (decide ((1 : Int) ≤ (a.length : Int)) && decide ((a.length : Int) ≤ 64)) = false := by
      rw [← Bool.not_eq_true, Bool.and_eq_true, decide_eq_true_eq, decide_eq_true_eq]; exact c
    simp only [e, Bool.false_eq_true, if_false]
    exact Ev.now _

theorem ev_l06Fit {f : Int} {a b : List Int} (h : SerOk f a) (k : SerOk f b) (e : a.length = b.length) : Ev (fun k => spec_l06Fit.f k f a b) true := by
  unfold spec_l06Fit.f
  have g : (a.length : Int) = (b.length : Int) := by omega
  simp only [g, if_true]
  refine Ev.bind (ev_SeriesOk h) ?_
  simp only [if_true]
  refine Ev.bind (ev_SeriesOk k) ?_
  exact Ev.now _
theorem ev_l06Fit_bad {f : Int} {a b : List Int} (h : ¬ (SerOk f a ∧ SerOk f b ∧ a.length = b.length)) : Ev (fun k => spec_l06Fit.f k f a b) false := by
  unfold spec_l06Fit.f
  by_cases g : (a.length : Int) = (b.length : Int)
  · simp only [g, if_true]
    by_cases ha : SerOk f a
    · refine Ev.bind (ev_SeriesOk ha) ?_
      simp only [if_true]
      refine Ev.bind (ev_SeriesOk_bad (fun hb => h ⟨ha, hb, by omega⟩)) ?_
      exact Ev.now _
    · refine Ev.bind (ev_SeriesOk_bad ha) ?_
      simp only [Bool.false_eq_true, if_false]; exact Ev.now _
  · simp only [g, if_false]; exact Ev.now _

theorem ev_Reduce {f : Int} (h : 0 ≤ f ∧ f < 9) (x : Int) : spec_Reduce.f f x = some (x % md f) := by
  have hp := pm_of h
  unfold Pm at hp
  unfold spec_Reduce.f
  rw [ev_Modulus]
  simp only [Option.bind_some]
  rw [if_neg (by omega)]
  have hb := tmod_bounds (a := x) (p := md f) (by omega)
  rw [w64 (by omega) (by omega), ← tmod_fix (a := x) (p := md f) (by omega)]
  by_cases c : Int.tmod x (md f) < 0
  · rw [if_pos c, if_pos c]
  · rw [if_neg c, if_neg c]
theorem ev_Reduce_bad {f : Int} (h : ¬ (0 ≤ f ∧ f < 9)) (x : Int) : spec_Reduce.f f x = some (-1) := by
  unfold spec_Reduce.f
  rw [ev_Modulus]
  simp only [Option.bind_some]
  rw [if_pos (md_bad h)]

theorem ev_Mul {f : Int} (h : 0 ≤ f ∧ f < 9) (x y : Int) : spec_Mul.f f x y = some ((x * y) % md f) := by
  have hp := pm_of h
  have hb := hp
  unfold Pm at hp
  have hx := em_lt (a := x) (p := md f) (by omega)
  have hy := em_lt (a := y) (p := md f) (by omega)
  have hxy := mul_lt_big hx.1 hx.2 hy.1 hy.2 hp.2
  unfold spec_Mul.f
  rw [ev_Modulus]
  simp only [Option.bind_some, ev_Reduce h]
  rw [if_neg (by omega), w64 (by omega) (by omega), emul_l, emul_r]

theorem ev_Add {f : Int} (h : 0 ≤ f ∧ f < 9) (x y : Int) : spec_Add.f f x y = some ((x + y) % md f) := by
  have hp := pm_of h
  unfold Pm at hp
  have hx := em_lt (a := x) (p := md f) (by omega)
  have hy := em_lt (a := y) (p := md f) (by omega)
  unfold spec_Add.f
  rw [ev_Modulus]
  simp only [Option.bind_some, ev_Reduce h]
  rw [if_neg (by omega), w64 (by omega) (by omega), eadd_l, eadd_r]

theorem ev_SeriesMul {f : Int} {a b : List Int} (h : SerOk f a) (k : SerOk f b) (e : a.length = b.length) : Ev (fun k => spec_SeriesMul.f k f a b) (mulS (md f) a b) := by
  have hf := h.1
  have h1 := h.2.1
  have h2 := h.2.2.1
  have inner : ∀ (d j c : Nat) (out : List Int) (r : List Int), j + d = c + 1 → c < a.length → out.length ≤ 64 → Ev (fun k => spec_SeriesMul.l0 k f a b (out ++ [pc a b c % md f]) ((c + 1 : Nat) : Int)) r → Ev (fun k => spec_SeriesMul.l1 k f a b out (c : Int) (sm j (tm a b c) % md f) (j : Int)) r := by
    intro d
    induction d with
    | zero =>
      intro j c out r hj hc ho hr
      refine ev_s ?_
      have g1 : ¬ ((j : Int) ≤ (c : Int)) := by omega
      have g2 : out.length < 17592186044416 := by omega
      simp only [spec_SeriesMul.l1, g1, g2, if_false, if_true, w_succ (n := c) (by omega)]
      rw [show j = c + 1 by omega]; exact hr
    | succ d ih =>
      intro j c out r hj hc ho hr
      refine ev_s ?_
      have g1 : (j : Int) ≤ (c : Int) := by omega
      have g2 : (0 : Int) ≤ (j : Int) := by omega
      have g3 : (j : Int) < (a.length : Int) := by omega
      have ew : wrap64 ((c : Int) - (j : Int)) = ((c - j : Nat) : Int) := by rw [w64 (by omega) (by omega)]; omega
      have g4 : (0 : Int) ≤ ((c - j : Nat) : Int) := by omega
      have g5 : ((c - j : Nat) : Int) < (b.length : Int) := by omega
      simp only [spec_SeriesMul.l1, g1, g2, g3, ew, g4, g5, if_true, ev_Mul hf, ev_Add hf, Option.bind_some, w_succ (n := j) (by omega), eadd_l, eadd_r]
      have hs := ih (j + 1) c out r (by omega) hc ho hr
      rw [sm_succ, tm_in (by omega)] at hs
      exact hs
  have outer : ∀ (d c : Nat) (out : List Int), c + d = a.length → out = (List.range c).map (fun c => pc a b c % md f) → Ev (fun k => spec_SeriesMul.l0 k f a b out (c : Int)) (mulS (md f) a b) := by
    intro d
    induction d with
    | zero =>
      intro c out hc ho
      refine ev_s ?_
      have g1 : ¬ ((c : Int) < (a.length : Int)) := by omega
      simp only [spec_SeriesMul.l0, g1, if_false]
      rw [ho, show c = a.length by omega]; exact Ev.now _
    | succ d ih =>
      intro c out hc ho
      refine ev_s ?_
      have g1 : (c : Int) < (a.length : Int) := by omega
      simp only [spec_SeriesMul.l0, g1, if_true]
      have hi := inner (c + 1) 0 c out (mulS (md f) a b) (by omega) (by omega) (by subst ho; simp; omega) (ih (c + 1) _ (by omega) (by rw [map_snoc, ho]))
      rw [sm_zero, Int.zero_emod] at hi
      exact hi
  unfold spec_SeriesMul.f
  refine Ev.bind (ev_l06Fit h k e) ?_
  simp only [if_true]
  exact outer a.length 0 [] (by omega) rfl
theorem ev_SeriesMul_bad {f : Int} {a b : List Int} (h : ¬ (SerOk f a ∧ SerOk f b ∧ a.length = b.length)) : Ev (fun k => spec_SeriesMul.f k f a b) [] := by
  unfold spec_SeriesMul.f
  refine Ev.bind (ev_l06Fit_bad h) ?_
  simp only [Bool.false_eq_true, if_false]; exact Ev.now _

theorem intoR_len (p : Int) (a b : List Int) : ∀ (d : Nat) (out : List Int), (intoR p a b d out).length = out.length := by
  intro d
  induction d with
  | zero => intro out; rfl
  | succ d ih => intro out; unfold intoR; rw [ih, List.length_set, mulS_len]
theorem intoS_len (p : Int) (a b : List Int) : (intoS p a b).length = a.length := by unfold intoS; rw [intoR_len]; simp
def IntoOk (f : Int) (a b : List Int) : Prop := (SerOk f a ∧ SerOk f b ∧ a.length = b.length) ∧ rd b 0 = 0

theorem ev_SeriesInto {f : Int} {a b : List Int} (h : IntoOk f a b) : Ev (fun k => spec_SeriesInto.f k f a b) (intoS (md f) a b, true) := by
  obtain ⟨⟨ha, hb, e⟩, h0⟩ := h
  have hf := ha.1
  have h1 := ha.2.1
  have h2 := ha.2.2.1
  have hp := ha.pm
  have fill : ∀ (d i : Nat) (r : List Int × Bool), i + d = a.length → Ev (fun k => spec_SeriesInto.l1 k f a b (List.replicate a.length 0) (wrap64 ((a.length : Int) - 1))) r → Ev (fun k => spec_SeriesInto.l0 k f a b (List.replicate i 0) (i : Int)) r := by
    intro d
    induction d with
    | zero =>
      intro i r hi hr
      refine ev_s ?_
      have g1 : ¬ ((i : Int) < (a.length : Int)) := by omega
      simp only [spec_SeriesInto.l0, g1, if_false]
      rw [show i = a.length by omega]; exact hr
    | succ d ih =>
      intro i r hi hr
      refine ev_s ?_
      have g1 : (i : Int) < (a.length : Int) := by omega
      have g2 : (List.replicate i (0 : Int)).length < 17592186044416 := by simp; omega
      simp only [spec_SeriesInto.l0, g1, g2, if_true, w_succ (n := i) (by omega)]
      have := ih (i + 1) r (by omega) hr
      rw [List.replicate_succ'] at this
      exact this
  have run : ∀ (d : Nat) (out : List Int), d ≤ a.length → out.length = a.length → El (md f) out → Ev (fun k => spec_SeriesInto.l1 k f a b out ((d : Int) - 1)) (intoR (md f) a b d out, true) := by
    intro d
    induction d with
    | zero =>
      intro out hd ho he
      refine ev_s ?_
      have g1 : ¬ (((0 : Nat) : Int) - 1 ≥ 0) := by decide
      simp only [spec_SeriesInto.l1, g1, if_false]; exact Ev.now _
    | succ d ih =>
      intro out hd ho he
      refine ev_s ?_
      have ed : ((d + 1 : Nat) : Int) - 1 = (d : Int) := by omega
      rw [ed]
      have g1 : (d : Int) ≥ 0 := by omega
      have g2 : (0 : Int) ≤ (d : Int) := by omega
      have g3 : (d : Int) < (a.length : Int) := by omega
      have hso : SerOk f out := ⟨hf, by omega, by omega, he⟩
      simp only [spec_SeriesInto.l1, g1, g2, g3, if_true]
      refine Ev.bind (ev_SeriesMul hso hb (by omega)) ?_
      have g4 : (0 : Int) < ((mulS (md f) out b).length : Int) := by rw [mulS_len]; omega
      simp only [g4, if_true, ev_Add hf, Option.bind_some, w64 (x := (d : Int) - 1) (by omega) (by omega)]
      exact ih _ (by omega) (by rw [List.length_set, mulS_len]; exact ho) ((mulS_el hp.pos out b).set (em_lt hp.pos).1 (em_lt hp.pos).2)
  unfold spec_SeriesInto.f
  refine Ev.bind (ev_l06Fit ha hb e) ?_
  have g0 : (0 : Int) < (b.length : Int) := by omega
  simp only [if_true, g0, h0, bne_self_eq_false]
  refine ev_s ?_
  simp only [spec_SeriesInto.j0, Bool.false_eq_true, if_false]
  refine fill a.length 0 _ (by omega) ?_
  rw [w64 (by omega) (by omega)]
  exact run a.length _ (Nat.le_refl _) (by simp) (El.rep hp.pos _)
theorem ev_SeriesInto_bad {f : Int} {a b : List Int} (h : ¬ IntoOk f a b) : Ev (fun k => spec_SeriesInto.f k f a b) ([], false) := by
  have bad : Ev (fun k => spec_SeriesInto.j0 k f a b true) ([], false) := by
    refine ev_s ?_
    simp only [spec_SeriesInto.j0, if_true]; exact Ev.now _
  unfold spec_SeriesInto.f
  by_cases hs : SerOk f a ∧ SerOk f b ∧ a.length = b.length
  · refine Ev.bind (ev_l06Fit hs.1 hs.2.1 hs.2.2) ?_
    have g0 : (0 : Int) < (b.length : Int) := by have := hs.2.1.2.1; omega
    have g1 : (rd b 0 != 0) = true := by
      rw [bne_iff_ne]
      intro c
      exact h ⟨hs, c⟩
    simp only [if_true, g0, g1]; exact bad
  · refine Ev.bind (ev_l06Fit_bad hs) ?_
    simp only [Bool.false_eq_true, if_false]; exact bad

theorem ev_fieldOf {f : Int} (h : 0 ≤ f ∧ f < 9) : impl_fieldOf.f f = some (md f, gn f, tp f, true) := by
  rcases fcases h.1 h.2 with e | e | e | e | e | e | e | e | e <;> subst e <;> rfl
theorem ev_fieldOf_bad {f : Int} (h : ¬ (0 ≤ f ∧ f < 9)) : impl_fieldOf.f f = some (0, 0, 0, false) := by
  unfold impl_fieldOf.f
  by_cases c : f < 0
  · rw [if_pos c]
  · rw [if_neg c, if_pos (by omega)]

theorem ev_areElements (p g t : Int) (l : List Int) (hl : l.length ≤ 35184372088832) : Ev (fun k => impl_field_areElements.f k p g t l) (elB p l) := by
  have key : ∀ (d i : Nat), i + d = l.length → Ev (fun k => impl_field_areElements.l0 k l (l.length : Int) (i : Int) p g t) (elB p (l.drop i)) := by
    intro d
    induction d with
    | zero =>
      intro i hi
      refine ev_s ?_
      have h1 : ¬ ((i : Int) < (l.length : Int)) := by omega
      simp only [impl_field_areElements.l0, h1, if_false]
      rw [List.drop_of_length_le (by omega)]
      exact Ev.now _
    | succ d ih =>
      intro i hi
      refine ev_s ?_
      have h1 : (i : Int) < (l.length : Int) := by omega
      have h2 : (0 : Int) ≤ (i : Int) := by omega
      simp only [impl_field_areElements.l0, h1, h2, if_true, w_succ (n := i) (by omega)]
      rw [elB_drop (by omega)]
      by_cases c1 : rd l (i : Int) < 0
      · simp only [c1, if_true, show decide (0 ≤ rd l (i : Int)) = false from decide_eq_false (by omega), Bool.false_and]
        exact Ev.now _
      · by_cases c2 : rd l (i : Int) ≥ p
        · simp only [c1, c2, if_true, if_false, show decide (rd l (i : Int) < p) = false from decide_eq_false (by omega), Bool.false_and, Bool.and_false]
          exact Ev.now _
        · simp only [c1, c2, if_false, show decide (0 ≤ rd l (i : Int)) = true from decide_eq_true (by omega), show decide (rd l (i : Int) < p) = true from decide_eq_true (by omega), Bool.true_and]
          exact ih (i + 1) (by omega)
  exact key l.length 0 (by omega)

theorem ev_seriesField2 {f : Int} {a b : List Int} (h : SerOk f a) (k : SerOk f b) (e : a.length = b.length) : Ev (fun k => impl_seriesField.f k f [a, b]) (md f, gn f, tp f, true) := by
  obtain ⟨hf, h1, h2, he⟩ := h
  obtain ⟨_, k1, k2, ke⟩ := k
  unfold impl_seriesField.f
  have hl : (([a, b] : List (List Int)).length : Int) = 2 := rfl
  have hr : rd_L1 [a, b] 0 = a := rfl
  have hr1 : rd_L1 [a, b] (0 + 1) = b := rfl
  have n1 : ¬ ((a.length : Int) < 1) := by omega
  have n2 : ¬ ((a.length : Int) > 64) := by omega
  have m1 : ¬ ((b.length : Int) < 1) := by omega
  have m2 : ¬ ((b.length : Int) > 64) := by omega
  have me : ((b.length : Int) = (a.length : Int)) := by omega
  simp only [ev_fieldOf hf, Option.bind_some, if_true, hl]
  refine ev_s ?_
  simp only [impl_seriesField.l0, hl, hr, n1, n2, if_false, show (0 : Int) < 2 from by decide, show (0 : Int) ≤ 0 from by decide, if_true]
  refine Ev.bind (ev_areElements _ _ _ a (by omega)) ?_
  simp only [elB_iff.2 he, if_true, w64 (x := 0 + 1) (by decide) (by decide)]
  refine ev_s ?_
  simp only [impl_seriesField.l0, hl, hr, hr1, m1, m2, if_false, show (0 : Int) + 1 < 2 from by decide, show (0 : Int) ≤ 0 + 1 from by decide, show (0 : Int) < 2 from by decide, if_true]
  refine Ev.bind (ev_areElements _ _ _ b (by omega)) ?_
  simp only [elB_iff.2 ke, if_true, me, w64 (x := 0 + 1 + 1) (by decide) (by decide)]
  refine ev_s ?_
  simp only [impl_seriesField.l0, hl, show ¬ ((0 : Int) + 1 + 1 < 2) from by decide, if_false]
  exact Ev.now _
theorem ev_seriesField2_bad {f : Int} {a b : List Int} (h : ¬ (SerOk f a ∧ SerOk f b ∧ a.length = b.length)) : Ev (fun k => impl_seriesField.f k f [a, b]) (0, 0, 0, false) := by
  unfold impl_seriesField.f
  by_cases hf : 0 ≤ f ∧ f < 9
  · have hl : (([a, b] : List (List Int)).length : Int) = 2 := rfl
    have hr : rd_L1 [a, b] 0 = a := rfl
    have hr1 : rd_L1 [a, b] (0 + 1) = b := rfl
    simp only [ev_fieldOf hf, Option.bind_some, if_true, hl]
    refine ev_s ?_
    simp only [impl_seriesField.l0, hl, hr, show (0 : Int) < 2 from by decide, show (0 : Int) ≤ 0 from by decide, if_true]
    by_cases n1 : (a.length : Int) < 1
    · simp only [n1, if_true]; exact Ev.now _
    by_cases n2 : (a.length : Int) > 64
    · simp only [n1, n2, if_true, if_false]; exact Ev.now _
    simp only [n1, n2, if_false]
    refine Ev.bind (ev_areElements _ _ _ a (by omega)) ?_
    by_cases he : El (md f) a
    · simp only [elB_iff.2 he, if_true, w64 (x := 0 + 1) (by decide) (by decide)]
      refine ev_s ?_
      simp only [impl_seriesField.l0, hl, hr, hr1, show (0 : Int) + 1 < 2 from by decide, show (0 : Int) ≤ 0 + 1 from by decide, show (0 : Int) < 2 from by decide, if_true]
      by_cases m1 : (b.length : Int) < 1
      · simp only [m1, if_true]; exact Ev.now _
      by_cases m2 : (b.length : Int) > 64
      · simp only [m1, m2, if_true, if_false]; exact Ev.now _
      simp only [m1, m2, if_false]
      refine Ev.bind (ev_areElements _ _ _ b (by omega)) ?_
      by_cases ke : El (md f) b
      · have me : ¬ ((b.length : Int) = (a.length : Int)) := fun c => h ⟨⟨hf, by omega, by omega, he⟩, ⟨hf, by omega, by omega, ke⟩, by omega⟩
        simp only [elB_iff.2 ke, if_true, me, if_false]
        exact Ev.now _
      · simp only [Bool.eq_false_iff.2 (fun c => ke (elB_iff.1 c)), Bool.false_eq_true, if_false]
        exact Ev.now _
    · simp only [Bool.eq_false_iff.2 (fun c => he (elB_iff.1 c)), Bool.false_eq_true, if_false]
      exact Ev.now _
  · simp only [ev_fieldOf_bad hf, Option.bind_some, Bool.false_eq_true, if_false]
    exact Ev.now _

theorem ev_seriesMul {p : Int} (hp : Pm p) (g t : Int) {a b : List Int} (h2 : a.length ≤ 64) (e : a.length = b.length) (ha : El p a) (hb : El p b) : Ev (fun k => impl_field_seriesMul.f k p g t a b) (mulS p a b) := by
  have hpp := hp
  unfold Pm at hpp
  have inner : ∀ (d j i : Nat) (out : List Int) (r : List Int), i + j + d = a.length → i < a.length → out.length = a.length → (∀ c : Nat, c < a.length → rd out (c : Int) = scat a b i j c % p) →
      (∀ out' : List Int, out'.length = a.length → (∀ c : Nat, c < a.length → rd out' (c : Int) = sm (i + 1) (tm a b c) % p) → Ev (fun k => impl_field_seriesMul.l0 k a b out' a (a.length : Int) ((i + 1 : Nat) : Int) p g t) r) →
      Ev (fun k => impl_field_seriesMul.l1 k a b out (i : Int) (rd a (i : Int)) (j : Int) a (a.length : Int) (i : Int) p g t) r := by
    intro d
    induction d with
    | zero =>
      intro j i out r hj hi ho hx hr
      refine ev_s ?_
      have ei : wrap64 ((i : Int) + (j : Int)) = ((i + j : Nat) : Int) := by rw [w64 (by omega) (by omega)]; omega
      have g1 : ¬ (((i + j : Nat) : Int) < (a.length : Int)) := by omega
      simp only [impl_field_seriesMul.l1, ei, g1, if_false, w_succ (n := i) (by omega)]
      exact hr out ho (fun c hc => by rw [hx c hc, scat_row (Or.inr (by omega))])
    | succ d ih =>
      intro j i out r hj hi ho hx hr
      refine ev_s ?_
      have ei : wrap64 ((i : Int) + (j : Int)) = ((i + j : Nat) : Int) := by rw [w64 (by omega) (by omega)]; omega
      have g1 : ((i + j : Nat) : Int) < (a.length : Int) := by omega
      have g2 : (0 : Int) ≤ ((i + j : Nat) : Int) := by omega
      have g3 : ((i + j : Nat) : Int) < (out.length : Int) := by omega
      have g4 : (0 : Int) ≤ (j : Int) := by omega
      have g5 : (j : Int) < (b.length : Int) := by omega
      have g6 : ¬ (p = 0) := by omega
      have hai := ha.rd hp.pos (i : Int)
      have hbj := hb.rd hp.pos (j : Int)
      have hm := mul_lt_big hai.1 hai.2 hbj.1 hbj.2 hpp.2
      have ho1 := hx (i + j) (by omega)
      have ho2 := em_lt (a := scat a b i j (i + j)) hp.pos
      have ev : Int.tmod (wrap64 (rd out ((i + j : Nat) : Int) + wrap64 (rd a (i : Int) * rd b (j : Int)))) p = scat a b i (j + 1) (i + j) % p := by
        rw [w64 (x := rd a (i : Int) * rd b (j : Int)) (by omega) (by omega), ho1, w64 (by omega) (by omega), tmod_nn (by omega), eadd_l, scat_hit]
      simp only [impl_field_seriesMul.l1, ei, g1, g2, g3, g4, g5, g6, if_true, if_false, ev, w_succ (n := j) (by omega), Int.toNat_natCast]
      refine ih (j + 1) i _ r (by omega) hi (by rw [List.length_set]; exact ho) (fun c hc => ?_) hr
      by_cases e : i + j = c
      · subst e; rw [rd_set_eq (by omega)]
      · rw [rd_set_ne e, hx c hc, scat_miss (by omega)]
  have outer : ∀ (d i : Nat) (out : List Int), i + d = a.length → out.length = a.length → (∀ c : Nat, c < a.length → rd out (c : Int) = sm i (tm a b c) % p) → Ev (fun k => impl_field_seriesMul.l0 k a b out a (a.length : Int) (i : Int) p g t) (mulS p a b) := by
    intro d
    induction d with
    | zero =>
      intro i out hi ho hx
      refine ev_s ?_
      have g1 : ¬ ((i : Int) < (a.length : Int)) := by omega
      simp only [impl_field_seriesMul.l0, g1, if_false]
      have e : out = mulS p a b := set_map_rd ho (fun c hc => by rw [hx c hc, show i = a.length by omega, pc_of_len])
      rw [e]; exact Ev.now _
    | succ d ih =>
      intro i out hi ho hx
      refine ev_s ?_
      have g1 : (i : Int) < (a.length : Int) := by omega
      have g2 : (0 : Int) ≤ (i : Int) := by omega
      simp only [impl_field_seriesMul.l0, g1, g2, if_true]
      exact inner (a.length - i) 0 i out _ (by omega) (by omega) ho (fun c hc => by rw [hx c hc, scat_start]) (fun out' ho' hx' => ih (i + 1) out' (by omega) ho' hx')
  unfold impl_field_seriesMul.f
  have g1 : (0 : Int) ≤ (a.length : Int) := by omega
  simp only [g1, if_true, Int.toNat_natCast, show a.length ≤ 35184372088832 from by omega]
  exact outer a.length 0 _ (by omega) (by simp) (fun c _ => by rw [rd_rep, sm_zero, Int.zero_emod])

theorem ev_add {p : Int} (hp : Pm p) (g t : Int) {a b : Int} (ha : 0 ≤ a ∧ a < p) (hb : 0 ≤ b ∧ b < p) : impl_field_add.f p g t a b = some ((a + b) % p) := by
  unfold Pm at hp
  unfold impl_field_add.f
  rw [if_neg (by omega), w64 (by omega) (by omega), tmod_nn (by omega)]

theorem ev_iSeriesInto {f : Int} {a b : List Int} (h : IntoOk f a b) : Ev (fun k => impl_SeriesInto.f k f a b) (intoS (md f) a b, true) := by
  obtain ⟨⟨ha, hb, e⟩, h0⟩ := h
  have h1 := ha.2.1
  have h2 := ha.2.2.1
  have hp := ha.pm
  have run : ∀ (d : Nat) (out : List Int), d ≤ a.length → out.length = a.length → El (md f) out → Ev (fun k => impl_SeriesInto.l0 k a b out ((d : Int) - 1) (md f) (gn f) (tp f)) (intoR (md f) a b d out, true) := by
    intro d
    induction d with
    | zero =>
      intro out hd ho he
      refine ev_s ?_
      have g1 : ¬ (((0 : Nat) : Int) - 1 ≥ 0) := by decide
      simp only [impl_SeriesInto.l0, g1, if_false]; exact Ev.now _
    | succ d ih =>
      intro out hd ho he
      refine ev_s ?_
      have ed : ((d + 1 : Nat) : Int) - 1 = (d : Int) := by omega
      rw [ed]
      have g1 : (d : Int) ≥ 0 := by omega
      have g2 : (0 : Int) ≤ (d : Int) := by omega
      have g3 : (d : Int) < (a.length : Int) := by omega
      simp only [impl_SeriesInto.l0, g1, g2, g3, if_true]
      refine Ev.bind (ev_seriesMul hp _ _ (by omega) (by omega) he hb.2.2.2) ?_
      have g4 : (0 : Int) < ((mulS (md f) out b).length : Int) := by rw [mulS_len]; omega
      simp only [g4, if_true, ev_add hp _ _ ((mulS_el hp.pos out b).rd hp.pos 0) (ha.rd (d : Int)), Option.bind_some, w64 (x := (d : Int) - 1) (by omega) (by omega)]
      exact ih _ (by omega) (by rw [List.length_set, mulS_len]; exact ho) ((mulS_el hp.pos out b).set (em_lt hp.pos).1 (em_lt hp.pos).2)
  unfold impl_SeriesInto.f
  refine Ev.bind (ev_seriesField2 ha hb e) ?_
  have g0 : (0 : Int) < (b.length : Int) := by omega
  have g1 : (0 : Int) ≤ (a.length : Int) := by omega
  simp only [if_true, g0, h0, bne_self_eq_false]
  refine ev_s ?_
  simp only [impl_SeriesInto.j0, Bool.false_eq_true, if_false, g1, if_true, Int.toNat_natCast, show a.length ≤ 35184372088832 from by omega]
  rw [w64 (by omega) (by omega)]
  exact run a.length _ (Nat.le_refl _) (by simp) (El.rep hp.pos _)
theorem ev_iSeriesInto_bad {f : Int} {a b : List Int} (h : ¬ IntoOk f a b) : Ev (fun k => impl_SeriesInto.f k f a b) ([], false) := by
  have bad : ∀ p g t : Int, Ev (fun k => impl_SeriesInto.j0 k a b true p g t) ([], false) := fun p g t => by
    refine ev_s ?_
    simp only [impl_SeriesInto.j0, if_true]; exact Ev.now _
  unfold impl_SeriesInto.f
  by_cases hs : SerOk f a ∧ SerOk f b ∧ a.length = b.length
  · refine Ev.bind (ev_seriesField2 hs.1 hs.2.1 hs.2.2) ?_
    have g0 : (0 : Int) < (b.length : Int) := by have := hs.2.1.2.1; omega
    have g1 : (rd b 0 != 0) = true := by
      rw [bne_iff_ne]
      intro c
      exact h ⟨hs, c⟩
    simp only [if_true, g0, g1]; exact bad _ _ _
  · refine Ev.bind (ev_seriesField2_bad hs) ?_
    simp only [Bool.false_eq_true, if_false]; exact bad _ _ _

theorem FnExactSeriesInto : laws_FnExactSeriesInto.Pure := by
  intro f l m hf hl hl8 hwl hm hm8 hwm
  refine Ev.rounds ?_
  unfold laws_FnExactSeriesInto.f
  by_cases hbig : (l.length : Int) > 1048576
  · simp only [hbig, if_true]; exact Ev.now _
  by_cases hbig2 : (m.length : Int) > 1048576
  · simp only [hbig, hbig2, if_true, if_false]; exact Ev.now _
  simp only [hbig, hbig2, if_false]
  have hll : l.length ≤ 35184372088832 := by omega
  have hlm : m.length ≤ 35184372088832 := by omega
  obtain ⟨R1, R2, hR1, hR2, hRl⟩ : ∃ R1 R2, Ev (fun k => spec_SeriesInto.f k f l m) (R1, R2) ∧ Ev (fun k => impl_SeriesInto.f k f l m) (R1, R2) ∧ R1.length ≤ 1048576 := by
    by_cases h : IntoOk f l m
    · exact ⟨_, _, ev_SeriesInto h, ev_iSeriesInto h, by rw [intoS_len]; omega⟩
    · exact ⟨_, _, ev_SeriesInto_bad h, ev_iSeriesInto_bad h, by simp⟩
  have nR : ¬ ((1 : Int) + (R1.length : Int) < 0) := by omega
  have nL : ¬ ((1 : Int) + (l.length : Int) + (m.length : Int) < 0) := by omega
  repeat first
    | exact Ev.now _
    | refine Ev.bind hR1 ?_
    | refine Ev.bind hR2 ?_
    | refine Ev.bind (ev_toIntS l hll) ?_
    | refine Ev.bind (ev_toIntS m hlm) ?_
    | refine Ev.bind (ev_eqIntS l (by omega)) ?_
    | refine Ev.bind (ev_eqIntS m (by omega)) ?_
    | refine Ev.bind (ev_eqIntS R1 (by omega)) ?_
    | refine Ev.bind (ev_mark l (1) (by omega) (by omega) (by omega)) ?_
    | refine Ev.bind (ev_mark m (1 + (l.length : Int)) (by omega) (by omega) (by omega)) ?_
    | refine Ev.bind (ev_mark R1 1 (by omega) (by omega) (by omega)) ?_
    | refine Ev.bind (ev_held R1.length 1 (by omega) (by omega) (by omega)) ?_
    | simp only [if_true, nR, nL, if_false, bne_self_eq_false, Bool.false_eq_true, Bool.not_true]
    | (refine ev_s ?_; simp only [laws_FnExactSeriesInto.j0])
    | (refine ev_s ?_; simp only [laws_FnExactSeriesInto.j1])
    | (refine ev_s ?_; simp only [laws_FnExactSeriesInto.j2])

end Go.Proofs.Ytiihnfkflidddaa.Pure
