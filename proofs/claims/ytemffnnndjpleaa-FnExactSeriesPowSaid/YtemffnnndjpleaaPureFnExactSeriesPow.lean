/- FnExactSeriesPow returns true for every field number, list and number: both powers are the same list. -/
import Derived.Test.YtemffnnndjpleaaPFnExactSeriesPowx8
import Derived.Test.YtemffnnndjpleaaGB
import Derived.Test.YtemffnnndjpleaaGE
set_option linter.unusedVariables false
set_option linter.unusedSimpArgs false
namespace Go.Proofs.Ytemffnnndjpleaa.Pure
open Go.RowKit Go.Proofs.Ytemffnnndjpleaa.PFnExactSeriesPow Go.Proofs.YtemffnnndjpleaaW.PrintWords Go.Proofs.YtemffnnndjpleaaW.PrintLast Go.Proofs.YtemffnnndjpleaaW.PrintMore G7
theorem ev_toIntS (l : List Int) (hl : l.length ≤ 35184372088832) : Ev (fun k => laws_toIntS.f k l) l := by
  have key : ∀ (d i : Nat) (out : List Int), i + d = l.length → out.length = l.length → (∀ j : Nat, j < i → rd out (j : Int) = rd l (j : Int)) → Ev (fun k => laws_toIntS.l0 k l out (i : Int)) l := by
    intro d
    induction d with
    | zero =>
      intro i out hi ho hx
      refine ev_s ?_
      have h1 : ¬ ((i : Int) < (l.length : Int)) := by omega
      simp only [laws_toIntS.l0, h1, if_false]
      rw [ext_rd ho (fun j hj => hx j (by omega))]
      exact Ev.now _
    | succ d ih =>
      intro i out hi ho hx
      refine ev_s ?_
      have h1 : (i : Int) < (l.length : Int) := by omega
      have h2 : (0 : Int) ≤ (i : Int) := by omega
      have h3 : (i : Int) < (out.length : Int) := by omega
      simp only [laws_toIntS.l0, h1, h2, h3, if_true, w_succ (n := i) (by omega), Int.toNat_natCast]
      refine ih (i + 1) _ (by omega) (by rw [List.length_set]; exact ho) (fun j hj => ?_)
      by_cases c : i = j
      · subst c; rw [rd_set_eq (by omega)]
      · rw [rd_set_ne c]; exact hx j (by omega)
  unfold laws_toIntS.f
  have h1 : (0 : Int) ≤ (l.length : Int) := by omega
  simp only [h1, if_true, Int.toNat_natCast, hl]
  exact key l.length 0 _ (by omega) (by simp) (fun j hj => by omega)

theorem ev_eqIntS (l : List Int) (hl : l.length ≤ 35184372088832) : Ev (fun k => laws_eqIntS.f k l l) true := by
  have key : ∀ (d i : Nat), i + d = l.length → Ev (fun k => laws_eqIntS.l0 k l l (i : Int)) true := by
    intro d
    induction d with
    | zero =>
      intro i hi
      refine ev_s ?_
      have h1 : ¬ ((i : Int) < (l.length : Int)) := by omega
      simp only [laws_eqIntS.l0, h1, if_false]
      exact Ev.now _
    | succ d ih =>
      intro i hi
      refine ev_s ?_
      have h1 : (i : Int) < (l.length : Int) := by omega
      have h2 : (0 : Int) ≤ (i : Int) := by omega
      simp only [laws_eqIntS.l0, h1, h2, if_true, w_succ (n := i) (by omega)]
      exact ih (i + 1) (by omega)
  unfold laws_eqIntS.f
  simp only [if_true]
  exact key l.length 0 (by omega)

/-- What markIntS leaves. -/
def marks (n : Nat) (m : Int) : List Int := (List.range n).map (fun i => m + (i : Nat))
theorem marks_len (n : Nat) (m : Int) : (marks n m).length = n := by simp [marks]
theorem marks_rd {n i : Nat} (m : Int) (h : i < n) : rd (marks n m) (i : Int) = m + i := by unfold marks; rw [rd_map _ h]
theorem ev_mark (l : List Int) (m : Int) (hl : l.length ≤ 35184372088832) (h0 : 0 ≤ m) (h1 : m ≤ 4611686018427387904) : Ev (fun k => laws_markIntS.f k l m) (m + l.length, marks l.length m) := by
  have key : ∀ (d i : Nat) (out : List Int), i + d = l.length → out.length = l.length → (∀ j : Nat, j < i → rd out (j : Int) = m + j) → Ev (fun k => laws_markIntS.l0 k out (m + i) (i : Int)) (m + l.length, marks l.length m) := by
    intro d
    induction d with
    | zero =>
      intro i out hi ho hx
      refine ev_s ?_
      have g1 : ¬ ((i : Int) < (out.length : Int)) := by omega
      simp only [laws_markIntS.l0, g1, if_false]
      have e : out = marks l.length m := ext_rd (by rw [marks_len, ho]) (fun j hj => by rw [marks_rd m (by omega)]; exact hx j (by omega))
      rw [e, show i = l.length by omega]
      exact Ev.now _
    | succ d ih =>
      intro i out hi ho hx
      refine ev_s ?_
      have g1 : (i : Int) < (out.length : Int) := by omega
      have g2 : (0 : Int) ≤ (i : Int) := by omega
      simp only [laws_markIntS.l0, g1, g2, if_true, w_succ (n := i) (by omega), Int.toNat_natCast, w64 (x := m + (i : Int) + 1) (by omega) (by omega)]
      rw [show m + (i : Int) + 1 = m + ((i + 1 : Nat) : Int) by omega]
      refine ih (i + 1) _ (by omega) (by rw [List.length_set]; exact ho) (fun j hj => ?_)
      by_cases c : i = j
      · subst c; rw [rd_set_eq (by omega)]
      · rw [rd_set_ne c]; exact hx j (by omega)
  unfold laws_markIntS.f
  have := key l.length 0 l (by omega) rfl (fun j hj => by omega)
  simpa using this
theorem ev_held (n : Nat) (m : Int) (hl : n ≤ 35184372088832) (h0 : 0 ≤ m) (h1 : m ≤ 4611686018427387904) : Ev (fun k => laws_heldIntS.f k (marks n m) m) (m + n) := by
  have key : ∀ (d i : Nat), i + d = n → Ev (fun k => laws_heldIntS.l0 k (marks n m) (m + i) (i : Int)) (m + n) := by
    intro d
    induction d with
    | zero =>
      intro i hi
      refine ev_s ?_
      have g1 : ¬ ((i : Int) < ((marks n m).length : Int)) := by rw [marks_len]; omega
      simp only [laws_heldIntS.l0, g1, if_false]
      rw [show i = n by omega]
      exact Ev.now _
    | succ d ih =>
      intro i hi
      refine ev_s ?_
      have g1 : (i : Int) < ((marks n m).length : Int) := by rw [marks_len]; omega
      have g2 : (0 : Int) ≤ (i : Int) := by omega
      simp only [laws_heldIntS.l0, g1, g2, if_true, marks_rd m (show i < n by omega), w_succ (n := i) (by omega), w64 (x := m + (i : Int) + 1) (by omega) (by omega)]
      rw [show m + (i : Int) + 1 = m + ((i + 1 : Nat) : Int) by omega]
      exact ih (i + 1) (by omega)
  unfold laws_heldIntS.f
  have := key n 0 (by omega)
  simpa using this

/-- A series over a field. -/
def SerOk (f : Int) (a : List Int) : Prop := (0 ≤ f ∧ f < 9) ∧ 1 ≤ a.length ∧ a.length ≤ 64 ∧ El (md f) a
theorem SerOk.pm {f : Int} {a : List Int} (h : SerOk f a) : Pm (md f) := pm_of h.1
theorem SerOk.rd {f : Int} {a : List Int} (h : SerOk f a) (i : Int) : 0 ≤ rd a i ∧ rd a i < md f := h.2.2.2.rd (pm_of h.1).pos i

/-- The exponents of SeriesPow. -/
def PowOk (f : Int) (a : List Int) (e : Int) : Prop := SerOk f a ∧ (-1000000 ≤ e ∧ e ≤ 1000000) ∧ (e < 0 → rd a 0 ≠ 0)
def powS (f : Int) (a : List Int) (e : Int) : List Int := powR (mulS (md f)) 20 e.natAbs (if e < 0 then invS (md f) a else a) (oneS a.length)
theorem inv_ok {f : Int} {a : List Int} (h : SerOk f a) : SerOk f (invS (md f) a) := ⟨h.1, by unfold invS; rw [bld_len]; exact h.2.1, by unfold invS; rw [bld_len]; exact h.2.2.1, bld_el (fun out => invF_lt h.pm.pos a out) _⟩
theorem mul_ok {f : Int} {a : List Int} (h : SerOk f a) (b : List Int) : SerOk f (mulS (md f) a b) := ⟨h.1, by rw [mulS_len]; exact h.2.1, by rw [mulS_len]; exact h.2.2.1, mulS_el h.pm.pos a b⟩
theorem one_ok {f : Int} {a : List Int} (h : SerOk f a) : SerOk f (oneS a.length) := by
  have hp := h.pm
  unfold Pm at hp
  exact ⟨h.1, by rw [oneS_len h.2.1]; exact h.2.1, by rw [oneS_len h.2.1]; exact h.2.2.1, oneS_el (by omega) _⟩
theorem powR_len {p : Int} : ∀ (n e : Nat) (x out : List Int), (powR (mulS p) n e x out).length = out.length := by
  intro n
  induction n with
  | zero => intro e x out; rfl
  | succ n ih =>
    intro e x out
    unfold powR
    by_cases c : e = 0
    · rw [if_pos c]
    · rw [if_neg c, ih]
      by_cases q : e % 2 = 1
      · rw [if_pos q, mulS_len]
      · rw [if_neg q]
theorem powS_len {f : Int} {a : List Int} {e : Int} (h : SerOk f a) : (powS f a e).length = a.length := by unfold powS; rw [powR_len, oneS_len h.2.1]

theorem ev_l01In (x a b : Int) : spec_l01In.f x a b = some (decide (a ≤ x) && decide (x ≤ b)) := by
  unfold spec_l01In.f
  by_cases h : a ≤ x
  · rw [if_pos h, decide_eq_true h, Bool.true_and]
  · rw [if_neg h, decide_eq_false h, Bool.false_and]

theorem ev_Modulus (f : Int) : spec_Modulus.f f = some (md f) := by
  unfold spec_Modulus.f md
  by_cases h0 : f = 0
  · rw [if_pos h0, if_pos h0]
  rw [if_neg h0, if_neg h0]
  by_cases h1 : f = 1
  · rw [if_pos h1, if_pos h1]
  rw [if_neg h1, if_neg h1]
  by_cases h2 : f = 2
  · rw [if_pos h2, if_pos h2]
  rw [if_neg h2, if_neg h2]
  by_cases h3 : f = 3
  · rw [if_pos h3, if_pos h3]
  rw [if_neg h3, if_neg h3]
  by_cases h4 : f = 4
  · rw [if_pos h4, if_pos h4]
  rw [if_neg h4, if_neg h4]
  by_cases h5 : f = 5
  · rw [if_pos h5, if_pos h5]
  rw [if_neg h5, if_neg h5]
  by_cases h6 : f = 6
  · rw [if_pos h6, if_pos h6]
  rw [if_neg h6, if_neg h6]
  by_cases h7 : f = 7
  · rw [if_pos h7, if_pos h7]
  rw [if_neg h7, if_neg h7]
  by_cases h8 : f = 8
  · rw [if_pos h8, if_pos h8]
  rw [if_neg h8, if_neg h8]

theorem ev_l03Elements {f : Int} (h : 0 ≤ f ∧ f < 9) (l : List Int) (hl : l.length ≤ 35184372088832) : Ev (fun k => spec_l03Elements.f k f l) (elB (md f) l) := by
  have hp := pm_of h
  unfold Pm at hp
  have key : ∀ (d i : Nat), i + d = l.length → Ev (fun k => spec_l03Elements.l0 k l (md f) (i : Int)) (elB (md f) (l.drop i)) := by
    intro d
    induction d with
    | zero =>
      intro i hi
      refine ev_s ?_
      have h1 : ¬ ((i : Int) < (l.length : Int)) := by omega
      simp only [spec_l03Elements.l0, h1, if_false]
      rw [List.drop_of_length_le (by omega)]
      exact Ev.now _
    | succ d ih =>
      intro i hi
      refine ev_s ?_
      have h1 : (i : Int) < (l.length : Int) := by omega
      have h2 : (0 : Int) ≤ (i : Int) := by omega
      simp only [spec_l03Elements.l0, h1, h2, if_true, w_succ (n := i) (by omega), w64 (x := md f - 1) (by omega) (by omega), ev_l01In, Option.bind_some]
      rw [elB_drop (by omega)]
      rw [show decide (rd l (i : Int) < md f) = decide (rd l (i : Int) ≤ md f - 1) from decide_eq_decide.2 (by omega)]
      by_cases c : (decide (0 ≤ rd l (i : Int)) && decide (rd l (i : Int) ≤ md f - 1)) = true
      · simp only [c, if_true, Bool.true_and]
        exact ih (i + 1) (by omega)
      · simp only [Bool.not_eq_true] at c
        simp only [c, Bool.false_and, Bool.false_eq_true, if_false]
        exact Ev.now _
  unfold spec_l03Elements.f
  simp only [ev_Modulus, Option.bind_some]
  have h0 : ¬ (md f = 0) := by omega
  simp only [h0, if_false]
  exact key l.length 0 (by omega)
theorem ev_l03Elements_bad {f : Int} (h : ¬ (0 ≤ f ∧ f < 9)) (l : List Int) : Ev (fun k => spec_l03Elements.f k f l) false := by
  unfold spec_l03Elements.f
  simp only [ev_Modulus, Option.bind_some, md_bad h, if_true]
  exact Ev.now _

theorem ev_SeriesOk {f : Int} {a : List Int} (h : SerOk f a) : Ev (fun k => spec_SeriesOk.f k f a) true := by
  obtain ⟨hf, h1, h2, he⟩ := h
  unfold spec_SeriesOk.f
  simp only [ev_l01In, Option.bind_some, show decide ((1 : Int) ≤ (a.length : Int)) = true from decide_eq_true (by omega), show decide ((a.length : Int) ≤ 64) = true from decide_eq_true (by omega), Bool.and_self, if_true]
  refine Ev.bind (ev_l03Elements hf a (by omega)) ?_
  rw [elB_iff.2 he]
  exact Ev.now _
theorem ev_SeriesOk_bad {f : Int} {a : List Int} (h : ¬ SerOk f a) : Ev (fun k => spec_SeriesOk.f k f a) false := by
  unfold spec_SeriesOk.f
  simp only [ev_l01In, Option.bind_some]
  by_cases c : (1 : Int) ≤ (a.length : Int) ∧ (a.length : Int) ≤ 64
  · simp only [decide_eq_true c.1, decide_eq_true c.2, Bool.and_self, if_true]
    by_cases hf : 0 ≤ f ∧ f < 9
    · refine Ev.bind (ev_l03Elements hf a (by omega)) ?_
      have he : elB (md f) a = false := by
        rw [← Bool.not_eq_true, elB_iff]
        intro he
        exact h ⟨hf, by omega, by omega, he⟩
      rw [he]
      exact Ev.now _
    · refine Ev.bind (ev_l03Elements_bad hf a) ?_
      exact Ev.now _
  · have e : (decide ((1 : Int) ≤ (a.length : Int)) && decide ((a.length : Int) ≤ 64)) = false := by
      rw [← Bool.not_eq_true, Bool.and_eq_true, decide_eq_true_eq, decide_eq_true_eq]; exact c
    simp only [e, Bool.false_eq_true, if_false]
    exact Ev.now _

theorem ev_l01Copy (l : List Int) (hl : l.length ≤ 17592186044416) : Ev (fun k => spec_l01Copy.f k l) l := by
  have key : ∀ (d i : Nat), i + d = l.length → Ev (fun k => spec_l01Copy.l0 k l (l.take i) (i : Int)) l := by
    intro d
    induction d with
    | zero =>
      intro i hi
      refine ev_s ?_
      have g1 : ¬ ((i : Int) < (l.length : Int)) := by omega
      simp only [spec_l01Copy.l0, g1, if_false]
      rw [List.take_of_length_le (by omega)]; exact Ev.now _
    | succ d ih =>
      intro i hi
      refine ev_s ?_
      have g1 : (i : Int) < (l.length : Int) := by omega
      have g2 : (0 : Int) ≤ (i : Int) := by omega
      have g3 : (l.take i).length < 17592186044416 := by rw [List.length_take]; omega
      simp only [spec_l01Copy.l0, g1, g2, g3, if_true, w_succ (n := i) (by omega)]
      rw [rd_at (show i < l.length by omega), List.take_append_getElem (show i < l.length by omega)]
      exact ih (i + 1) (by omega)
  exact key l.length 0 (by omega)

theorem ev_Reduce {f : Int} (h : 0 ≤ f ∧ f < 9) (x : Int) : spec_Reduce.f f x = some (x % md f) := by
  have hp := pm_of h
  unfold Pm at hp
  unfold spec_Reduce.f
  rw [ev_Modulus]
  simp only [Option.bind_some]
  rw [if_neg (by omega)]
  have hb := tmod_bounds (a := x) (p := md f) (by omega)
  rw [w64 (by omega) (by omega), ← tmod_fix (a := x) (p := md f) (by omega)]
  by_cases c : Int.tmod x (md f) < 0
  · rw [if_pos c, if_pos c]
  · rw [if_neg c, if_neg c]
theorem ev_Reduce_bad {f : Int} (h : ¬ (0 ≤ f ∧ f < 9)) (x : Int) : spec_Reduce.f f x = some (-1) := by
  unfold spec_Reduce.f
  rw [ev_Modulus]
  simp only [Option.bind_some]
  rw [if_pos (md_bad h)]

theorem ev_Mul {f : Int} (h : 0 ≤ f ∧ f < 9) (x y : Int) : spec_Mul.f f x y = some ((x * y) % md f) := by
  have hp := pm_of h
  have hb := hp
  unfold Pm at hp
  have hx := em_lt (a := x) (p := md f) (by omega)
  have hy := em_lt (a := y) (p := md f) (by omega)
  have hxy := mul_lt_big hx.1 hx.2 hy.1 hy.2 hp.2
  unfold spec_Mul.f
  rw [ev_Modulus]
  simp only [Option.bind_some, ev_Reduce h]
  rw [if_neg (by omega), w64 (by omega) (by omega), emul_l, emul_r]

theorem ev_Sub {f : Int} (h : 0 ≤ f ∧ f < 9) (x y : Int) : spec_Sub.f f x y = some ((x - y) % md f) := by
  have hp := pm_of h
  unfold Pm at hp
  have hx := em_lt (a := x) (p := md f) (by omega)
  have hy := em_lt (a := y) (p := md f) (by omega)
  unfold spec_Sub.f
  rw [ev_Modulus]
  simp only [Option.bind_some, ev_Reduce h]
  rw [if_neg (by omega), w64 (by omega) (by omega), esub_l, esub_r]

theorem ev_PowerL {p : Int} (hp : Pm p) : ∀ (e : Nat) {a : Int}, (0 ≤ a ∧ a < p) → e < 4611686018427387904 → Ev (fun k => spec_Power.j0 k p a (e : Int)) (a ^ e % p) := by
  have hpp := hp
  unfold Pm at hpp
  have key : ∀ (n e : Nat), e ≤ n → e < 4611686018427387904 → ∀ a out : Int, (0 ≤ a ∧ a < p) → (0 ≤ out ∧ out < p) → Ev (fun k => spec_Power.l0 k p a (e : Int) out) (out * a ^ e % p) := by
    intro n
    induction n with
    | zero =>
      intro e he _ a out ha ho
      obtain rfl : e = 0 := by omega
      refine ev_s ?_
      have h1 : ¬ (((0 : Nat) : Int) > 0) := by omega
      simp only [spec_Power.l0, h1, if_false]
      rw [Int.pow_zero, Int.mul_one, em_id ho.1 ho.2]
      exact Ev.now _
    | succ n ih =>
      intro e he hb a out ha ho
      by_cases h0 : e = 0
      · subst h0
        exact ih 0 (by omega) hb a out ha ho
      · refine ev_s ?_
        have h1 : (e : Int) > 0 := by omega
        have h2 : Int.tmod (e : Int) 2 = ((e % 2 : Nat) : Int) := by rw [tmod_nn (by omega)]; omega
        have h3 : wrap64 (Int.tdiv (e : Int) 2) = ((e / 2 : Nat) : Int) := by
          rw [Int.tdiv_eq_ediv_of_nonneg (by omega), w64 (by omega) (by omega)]; omega
        have haa := em_lt (a := a * a) hp.pos
        have hp0 : ¬ (p = 0) := by omega
        have b1 := mul_lt_big ha.1 ha.2 ha.1 ha.2 hpp.2
        have b2 := mul_lt_big ho.1 ho.2 ha.1 ha.2 hpp.2
        simp only [spec_Power.l0, h1, if_true, h2, h3, hp0, if_false, w64 (x := a * a) (by omega) (by omega), w64 (x := out * a) (by omega) (by omega), tmod_nn b1.1, tmod_nn b2.1]
        by_cases c : e % 2 = 1
        · have hoa := em_lt (a := out * a) hp.pos
          simp only [c, Int.natCast_one, if_true]
          refine ev_to (ih (e / 2) (by omega) (by omega) (a * a % p) (out * a % p) haa hoa) ?_
          have e1 : (out * a % p) * (a * a % p) ^ (e / 2) % p = (out * a) * (a * a) ^ (e / 2) % p := emul (Int.emod_emod _ _) (epow_l _)
          rw [e1, ipow2, Int.mul_assoc, ← Int.pow_succ']
          congr 3; omega
        · have c0 : e % 2 = 0 := by omega
          simp only [c0, show ¬ (((0 : Nat) : Int) = 1) from by omega, if_false]
          refine ev_to (ih (e / 2) (by omega) (by omega) (a * a % p) out haa ho) ?_
          have e1 : out * (a * a % p) ^ (e / 2) % p = out * (a * a) ^ (e / 2) % p := emul rfl (epow_l _)
          rw [e1, ipow2]
          congr 3; omega
  intro e a ha he
  refine ev_s ?_
  simp only [spec_Power.j0]
  refine ev_to (key e e (Nat.le_refl _) he a 1 ha (by omega)) ?_
  rw [Int.one_mul]
theorem ev_Power {f : Int} (h : 0 ≤ f ∧ f < 9) {x : Int} (hx : x % md f ≠ 0) (e : Int) : Ev (fun k => spec_Power.f k f x e) ((x % md f) ^ (e % (md f - 1)).toNat % md f) := by
  have hp := pm_of h
  have hpp := hp
  unfold Pm at hpp
  have hxe := em_lt (a := x) hp.pos
  have hb := tmod_bounds (a := e) (p := md f - 1) (by omega)
  have hm := em_lt (a := e) (p := md f - 1) (by omega)
  have hfix := tmod_fix (a := e) (p := md f - 1) (by omega)
  unfold spec_Power.f
  simp only [ev_Modulus, Option.bind_some, ev_Reduce h, hx, if_false, w64 (x := md f - 1) (by omega) (by omega), show ¬ (md f = 0) from by omega, show ¬ (md f - 1 = 0) from by omega]
  have hcast : e % (md f - 1) = (((e % (md f - 1)).toNat : Nat) : Int) := by omega
  by_cases c : Int.tmod e (md f - 1) < 0
  · rw [if_pos c] at hfix
    simp only [c, if_true, w64 (x := Int.tmod e (md f - 1) + md f) (by omega) (by omega), w64 (x := Int.tmod e (md f - 1) + md f - 1) (by omega) (by omega)]
    rw [show Int.tmod e (md f - 1) + md f - 1 = (((e % (md f - 1)).toNat : Nat) : Int) by omega]
    exact ev_PowerL hp _ hxe (by omega)
  · rw [if_neg c] at hfix
    simp only [c, if_false]
    rw [show Int.tmod e (md f - 1) = (((e % (md f - 1)).toNat : Nat) : Int) by omega]
    exact ev_PowerL hp _ hxe (by omega)
theorem ev_Power0 {f : Int} (h : 0 ≤ f ∧ f < 9) {x : Int} (hx : x % md f = 0) (e : Int) : Ev (fun k => spec_Power.f k f x e) (if e = 0 then 1 else if e < 0 then -1 else 0) := by
  have hp := pm_of h
  unfold Pm at hp
  unfold spec_Power.f
  simp only [ev_Modulus, Option.bind_some, ev_Reduce h, hx, if_true, show ¬ (md f = 0) from by omega, if_false]
  by_cases c : e = 0
  · simp only [c, if_true]; exact Ev.now _
  · by_cases c2 : e < 0
    · simp only [c, c2, if_true, if_false]; exact Ev.now _
    · simp only [c, c2, if_false]; exact Ev.now _

theorem ev_Inverse {f : Int} (h : 0 ≤ f ∧ f < 9) {x : Int} (hx : x % md f ≠ 0) : Ev (fun k => spec_Inverse.f k f x) (inv (md f) (x % md f)) := by
  have hp := pm_of h
  unfold Pm at hp
  unfold spec_Inverse.f
  refine Ev.bind (ev_Power h hx (-1)) ?_
  rw [show (-1 : Int) % (md f - 1) = md f - 2 from by
    rw [← Int.add_mul_emod_self_left (-1) (md f - 1) 1, Int.mul_one, em_id (by omega) (by omega)]; omega]
  exact Ev.now _

theorem ev_SeriesInv {f : Int} {a : List Int} (h : SerOk f a) (h0 : rd a 0 ≠ 0) : Ev (fun k => spec_SeriesInv.f k f a) (invS (md f) a, true) := by
  have hf := h.1
  have h1 := h.2.1
  have h2 := h.2.2.1
  have hp := h.pm
  have ha0 := h.rd 0
  have e0 : rd a 0 % md f = rd a 0 := em_id ha0.1 ha0.2
  have hbl := inv_lt hp.pos (rd a 0)
  have inner : ∀ (d j i : Nat) (out : List Int) (r : List Int × Bool), j + d = i → i = out.length → i < a.length → 1 ≤ i →
      Ev (fun k => spec_SeriesInv.l0 k f a (out ++ [invF (md f) a out]) (inv (md f) (rd a 0)) ((i + 1 : Nat) : Int)) r →
      Ev (fun k => spec_SeriesInv.l1 k f a out (inv (md f) (rd a 0)) (i : Int) ((0 - sm j (invT a out)) % md f) ((j + 1 : Nat) : Int)) r := by
    intro d
    induction d with
    | zero =>
      intro j i out r hj hi hia h1i hr
      refine ev_s ?_
      have g1 : ¬ (((j + 1 : Nat) : Int) ≤ (i : Int)) := by omega
      have g2 : out.length < 17592186044416 := by omega
      simp only [spec_SeriesInv.l1, g1, g2, if_false, if_true, ev_Mul hf, Option.bind_some, w_succ (n := i) (by omega), emul_l]
      have e : (0 - sm j (invT a out)) * inv (md f) (rd a 0) % md f = invF (md f) a out := by
        unfold invF
        rw [if_neg (by omega), show j = out.length by omega, Int.zero_sub]
      rw [e]; exact hr
    | succ d ih =>
      intro j i out r hj hi hia h1i hr
      refine ev_s ?_
      have g1 : ((j + 1 : Nat) : Int) ≤ (i : Int) := by omega
      have g2 : (0 : Int) ≤ ((j + 1 : Nat) : Int) := by omega
      have g3 : ((j + 1 : Nat) : Int) < (a.length : Int) := by omega
      have ew : wrap64 ((i : Int) - ((j + 1 : Nat) : Int)) = ((out.length - 1 - j : Nat) : Int) := by rw [w64 (by omega) (by omega)]; omega
      have g4 : (0 : Int) ≤ ((out.length - 1 - j : Nat) : Int) := by omega
      have g5 : ((out.length - 1 - j : Nat) : Int) < (out.length : Int) := by omega
      simp only [spec_SeriesInv.l1, g1, g2, g3, ew, g4, g5, if_true, ev_Mul hf, ev_Sub hf, Option.bind_some, w_succ (n := j + 1) (by omega), esub_l, esub_r]
      have hs := ih (j + 1) i out r (by omega) hi hia h1i hr
      rw [sm_succ, show (0 : Int) - (sm j (invT a out) + invT a out j) = 0 - sm j (invT a out) - invT a out j by omega] at hs
      exact hs
  have outer : ∀ (d i : Nat), i + d = a.length → Ev (fun k => spec_SeriesInv.l0 k f a (bld (invF (md f) a) i) (inv (md f) (rd a 0)) (i : Int)) (invS (md f) a, true) := by
    intro d
    induction d with
    | zero =>
      intro i hi
      refine ev_s ?_
      have g1 : ¬ ((i : Int) < (a.length : Int)) := by omega
      simp only [spec_SeriesInv.l0, g1, if_false]
      rw [show i = a.length by omega]; exact Ev.now _
    | succ d ih =>
      intro i hi
      refine ev_s ?_
      have g1 : (i : Int) < (a.length : Int) := by omega
      have hn := ih (i + 1) (by omega)
      by_cases c : i = 0
      · subst c
        have g1' : (0 : Int) < (a.length : Int) := by omega
        simp only [spec_SeriesInv.l0, Int.natCast_zero, g1', if_true]
        refine ev_s ?_
        simp only [spec_SeriesInv.j2]
        refine ev_s ?_
        have g2 : ¬ ((1 : Int) ≤ 0) := by decide
        have g3 : (bld (invF (md f) a) 0).length < 17592186044416 := by rw [bld_len]; decide
        simp only [spec_SeriesInv.l1, g2, g3, if_false, if_true, ev_Mul hf, Option.bind_some, Int.one_mul, em_id hbl.1 hbl.2, w64 (x := 0 + 1) (by decide) (by decide)]
        exact hn
      · have c' : ¬ ((i : Int) = 0) := by omega
        simp only [spec_SeriesInv.l0, g1, c', if_true, if_false]
        refine ev_s ?_
        simp only [spec_SeriesInv.j2]
        have hi2 := inner i 0 i (bld (invF (md f) a) i) _ (by omega) (by rw [bld_len]) (by omega) (by omega) hn
        rw [sm_zero, Int.sub_zero, Int.zero_emod] at hi2
        exact hi2
  unfold spec_SeriesInv.f
  simp only [Option.bind_some]
  refine Ev.bind (ev_SeriesOk h) ?_
  have g0 : (0 : Int) < (a.length : Int) := by omega
  have g1 : (rd a 0 == 0) = false := by rw [beq_eq_false_iff_ne]; exact h0
  simp only [g0, g1, if_true]
  refine ev_s ?_
  simp only [spec_SeriesInv.j0, Bool.false_eq_true, if_false, g0, if_true]
  refine Ev.bind (ev_Inverse hf (x := rd a 0) (by rw [e0]; exact h0)) ?_
  rw [e0]
  exact outer a.length 0 (by omega)
theorem ev_SeriesInv_bad {f : Int} {a : List Int} (h : ¬ (SerOk f a ∧ rd a 0 ≠ 0)) : Ev (fun k => spec_SeriesInv.f k f a) ([], false) := by
  unfold spec_SeriesInv.f
  simp only [Option.bind_some]
  have bad : Ev (fun k => spec_SeriesInv.j0 k f a [] true) ([], false) := by
    refine ev_s ?_
    simp only [spec_SeriesInv.j0, if_true]; exact Ev.now _
  by_cases hs : SerOk f a
  · refine Ev.bind (ev_SeriesOk hs) ?_
    have g0 : (0 : Int) < (a.length : Int) := by have := hs.2.1; omega
    have g1 : (rd a 0 == 0) = true := by
      rw [beq_iff_eq]
      exact Decidable.byContradiction (fun c => h ⟨hs, c⟩)
    simp only [g0, g1, if_true]; exact bad
  · refine Ev.bind (ev_SeriesOk_bad hs) ?_
    simp only [Bool.false_eq_true, if_false]; exact bad

theorem ev_l06Fit {f : Int} {a b : List Int} (h : SerOk f a) (k : SerOk f b) (e : a.length = b.length) : Ev (fun k => spec_l06Fit.f k f a b) true := by
  unfold spec_l06Fit.f
  have g : (a.length : Int) = (b.length : Int) := by omega
  simp only [g, if_true]
  refine Ev.bind (ev_SeriesOk h) ?_
  simp only [if_true]
  refine Ev.bind (ev_SeriesOk k) ?_
  exact Ev.now _
theorem ev_l06Fit_bad {f : Int} {a b : List Int} (h : ¬ (SerOk f a ∧ SerOk f b ∧ a.length = b.length)) : Ev (fun k => spec_l06Fit.f k f a b) false := by
  unfold spec_l06Fit.f
  by_cases g : (a.length : Int) = (b.length : Int)
  · simp only [g, if_true]
    by_cases ha : SerOk f a
    · refine Ev.bind (ev_SeriesOk ha) ?_
      simp only [if_true]
      refine Ev.bind (ev_SeriesOk_bad (fun hb => h ⟨ha, hb, by omega⟩)) ?_
      exact Ev.now _
    · refine Ev.bind (ev_SeriesOk_bad ha) ?_
      simp only [Bool.false_eq_true, if_false]; exact Ev.now _
  · simp only [g, if_false]; exact Ev.now _

theorem ev_Add {f : Int} (h : 0 ≤ f ∧ f < 9) (x y : Int) : spec_Add.f f x y = some ((x + y) % md f) := by
  have hp := pm_of h
  unfold Pm at hp
  have hx := em_lt (a := x) (p := md f) (by omega)
  have hy := em_lt (a := y) (p := md f) (by omega)
  unfold spec_Add.f
  rw [ev_Modulus]
  simp only [Option.bind_some, ev_Reduce h]
  rw [if_neg (by omega), w64 (by omega) (by omega), eadd_l, eadd_r]

theorem ev_SeriesMul {f : Int} {a b : List Int} (h : SerOk f a) (k : SerOk f b) (e : a.length = b.length) : Ev (fun k => spec_SeriesMul.f k f a b) (mulS (md f) a b) := by
  have hf := h.1
  have h1 := h.2.1
  have h2 := h.2.2.1
  have inner : ∀ (d j c : Nat) (out : List Int) (r : List Int), j + d = c + 1 → c < a.length → out.length ≤ 64 → Ev (fun k => spec_SeriesMul.l0 k f a b (out ++ [pc a b c % md f]) ((c + 1 : Nat) : Int)) r → Ev (fun k => spec_SeriesMul.l1 k f a b out (c : Int) (sm j (tm a b c) % md f) (j : Int)) r := by
    intro d
    induction d with
    | zero =>
      intro j c out r hj hc ho hr
      refine ev_s ?_
      have g1 : ¬ ((j : Int) ≤ (c : Int)) := by omega
      have g2 : out.length < 17592186044416 := by omega
      simp only [spec_SeriesMul.l1, g1, g2, if_false, if_true, w_succ (n := c) (by omega)]
      rw [show j = c + 1 by omega]; exact hr
    | succ d ih =>
      intro j c out r hj hc ho hr
      refine ev_s ?_
      have g1 : (j : Int) ≤ (c : Int) := by omega
      have g2 : (0 : Int) ≤ (j : Int) := by omega
      have g3 : (j : Int) < (a.length : Int) := by omega
      have ew : wrap64 ((c : Int) - (j : Int)) = ((c - j : Nat) : Int) := by rw [w64 (by omega) (by omega)]; omega
      have g4 : (0 : Int) ≤ ((c - j : Nat) : Int) := by omega
      have g5 : ((c - j : Nat) : Int) < (b.length : Int) := by omega
      simp only [spec_SeriesMul.l1, g1, g2, g3, ew, g4, g5, if_true, ev_Mul hf, ev_Add hf, Option.bind_some, w_succ (n := j) (by omega), eadd_l, eadd_r]
      have hs := ih (j + 1) c out r (by omega) hc ho hr
      rw [sm_succ, tm_in (by omega)] at hs
      exact hs
  have outer : ∀ (d c : Nat) (out : List Int), c + d = a.length → out = (List.range c).map (fun c => pc a b c % md f) → Ev (fun k => spec_SeriesMul.l0 k f a b out (c : Int)) (mulS (md f) a b) := by
    intro d
    induction d with
    | zero =>
      intro c out hc ho
      refine ev_s ?_
      have g1 : ¬ ((c : Int) < (a.length : Int)) := by omega
      simp only [spec_SeriesMul.l0, g1, if_false]
      rw [ho, show c = a.length by omega]; exact Ev.now _
    | succ d ih =>
      intro c out hc ho
      refine ev_s ?_
      have g1 : (c : Int) < (a.length : Int) := by omega
      simp only [spec_SeriesMul.l0, g1, if_true]
      have hi := inner (c + 1) 0 c out (mulS (md f) a b) (by omega) (by omega) (by subst ho; simp; omega) (ih (c + 1) _ (by omega) (by rw [map_snoc, ho]))
      rw [sm_zero, Int.zero_emod] at hi
      exact hi
  unfold spec_SeriesMul.f
  refine Ev.bind (ev_l06Fit h k e) ?_
  simp only [if_true]
  exact outer a.length 0 [] (by omega) rfl
theorem ev_SeriesMul_bad {f : Int} {a b : List Int} (h : ¬ (SerOk f a ∧ SerOk f b ∧ a.length = b.length)) : Ev (fun k => spec_SeriesMul.f k f a b) [] := by
  unfold spec_SeriesMul.f
  refine Ev.bind (ev_l06Fit_bad h) ?_
  simp only [Bool.false_eq_true, if_false]; exact Ev.now _

theorem ev_SeriesPow_run {f : Int} : ∀ (n e : Nat) (out x : List Int), e < 2 ^ n → e ≤ 1000000 → SerOk f out → SerOk f x → out.length = x.length → Ev (fun k => spec_SeriesPow.l1 k f x (e : Int) out) (powR (mulS (md f)) n e x out, true) := by
  intro n
  induction n with
  | zero =>
    intro e out x he hb ho hx hl
    refine ev_s ?_
    have g1 : ¬ ((e : Int) > 0) := by simp at he; omega
    simp only [spec_SeriesPow.l1, g1, if_false]; exact Ev.now _
  | succ n ih =>
    intro e out x he hb ho hx hl
    have h2 : e / 2 < 2 ^ n := by rw [Nat.pow_succ] at he; omega
    clear he
    refine ev_s ?_
    by_cases g : e = 0
    · have g1 : ¬ ((e : Int) > 0) := by omega
      simp only [spec_SeriesPow.l1, g1, if_false]
      rw [g, powR_zero]; exact Ev.now _
    · have g1 : (e : Int) > 0 := by omega
      have ed : wrap64 (Int.tdiv (e : Int) 2) = ((e / 2 : Nat) : Int) := by rw [Int.tdiv_eq_ediv_of_nonneg (by omega), w64 (by omega) (by omega)]; omega
      have em : Int.tmod (e : Int) 2 = ((e % 2 : Nat) : Int) := by rw [tmod_nn (by omega)]; omega
      simp only [spec_SeriesPow.l1, g1, if_true, ed, em]
      unfold powR
      rw [if_neg g]
      by_cases q : e % 2 = 1
      · have q1 : ((e % 2 : Nat) : Int) = 1 := by omega
        simp only [q1, if_true]
        rw [if_pos q]
        refine Ev.bind (ev_SeriesMul ho hx hl) ?_
        refine Ev.bind (ev_SeriesMul hx hx rfl) ?_
        exact ih (e / 2) _ _ h2 (by omega) (mul_ok ho _) (mul_ok hx _) (by rw [mulS_len, mulS_len, hl])
      · have q1 : ¬ (((e % 2 : Nat) : Int) = 1) := by omega
        simp only [q1, if_false]
        rw [if_neg q]
        refine Ev.bind (ev_SeriesMul hx hx rfl) ?_
        exact ih (e / 2) _ _ h2 (by omega) ho (mul_ok hx _) (by rw [mulS_len, hl])
theorem ev_SeriesPow_j1 {f : Int} {a x : List Int} (h : SerOk f a) (hx : SerOk f x) (hl : a.length = x.length) {e : Nat} (he : e ≤ 1000000) : Ev (fun k => spec_SeriesPow.j1 k f a x (e : Int)) (powR (mulS (md f)) 20 e x (oneS a.length), true) := by
  have hn := h.2.1
  have hn2 := h.2.2.1
  refine ev_s ?_
  simp only [spec_SeriesPow.j1]
  have he2 : e < 2 ^ 20 := by have : (2 : Nat) ^ 20 = 1048576 := rfl; omega
  have key : ∀ (d c : Nat) (out : List Int), c + d = a.length → 1 ≤ c → out = 1 :: List.replicate (c - 1) 0 → Ev (fun k => spec_SeriesPow.l0 k f a x (e : Int) out (c : Int)) (powR (mulS (md f)) 20 e x (oneS a.length), true) := by
    intro d
    induction d with
    | zero =>
      intro c out hc h1 ho
      refine ev_s ?_
      have g : ¬ ((c : Int) < (a.length : Int)) := by omega
      simp only [spec_SeriesPow.l0, g, if_false]
      have eo : out = oneS a.length := by rw [ho, show c = a.length by omega]; rfl
      rw [eo]
      exact ev_SeriesPow_run 20 e _ _ he2 he (one_ok h) hx (by rw [oneS_len hn, hl])
    | succ d ih =>
      intro c out hc h1 ho
      refine ev_s ?_
      have g : (c : Int) < (a.length : Int) := by omega
      have g2 : out.length < 17592186044416 := by subst ho; simp; omega
      simp only [spec_SeriesPow.l0, g, g2, if_true, w_succ (n := c) (by omega)]
      refine ih (c + 1) _ (by omega) (by omega) ?_
      obtain ⟨m, rfl⟩ : ∃ m, c = m + 1 := ⟨c - 1, by omega⟩
      rw [ho, show m + 1 + 1 - 1 = m + 1 by omega, show m + 1 - 1 = m by omega, List.replicate_succ', List.cons_append]
  exact key (a.length - 1) 1 [1] (by omega) (by omega) rfl
theorem ev_SeriesPow {f : Int} {a : List Int} {e : Int} (h : PowOk f a e) : Ev (fun k => spec_SeriesPow.f k f a e) (powS f a e, true) := by
  obtain ⟨hs, hb, h0⟩ := h
  have hn := hs.2.1
  have hn2 := hs.2.2.1
  unfold spec_SeriesPow.f powS
  refine Ev.bind (ev_SeriesOk hs) ?_
  simp only [if_true, ev_l01In, Option.bind_some, decide_eq_true hb.1, decide_eq_true hb.2, Bool.and_self]
  by_cases c : e < 0
  · have g1 : 0 < (a.length : Int) := by omega
    have g2 : (rd a 0 == 0) = false := by rw [← Bool.not_eq_true, beq_iff_eq]; exact h0 c
    simp only [c, g1, g2, if_true]
    refine ev_s ?_
    simp only [spec_SeriesPow.j0, Bool.false_eq_true, if_false]
    refine Ev.bind (ev_l01Copy a (by omega)) ?_
    simp only [c, if_true]
    refine Ev.bind (ev_SeriesInv hs (h0 c)) ?_
    rw [show wrap64 (-e) = ((e.natAbs : Nat) : Int) by rw [w64 (by omega) (by omega)]; omega]
    exact ev_SeriesPow_j1 hs (inv_ok hs) (by unfold invS; rw [bld_len]) (by omega)
  · simp only [c, if_false]
    refine ev_s ?_
    simp only [spec_SeriesPow.j0, Bool.false_eq_true, if_false]
    refine Ev.bind (ev_l01Copy a (by omega)) ?_
    simp only [c, if_false]
    have := ev_SeriesPow_j1 hs hs rfl (e := e.natAbs) (by omega)
    rw [show ((e.natAbs : Nat) : Int) = e by omega] at this
    exact this
theorem ev_SeriesPow_bad {f : Int} {a : List Int} {e : Int} (h : ¬ PowOk f a e) : Ev (fun k => spec_SeriesPow.f k f a e) ([], false) := by
  have bad : Ev (fun k => spec_SeriesPow.j0 k f a e true) ([], false) := by
    refine ev_s ?_
    simp only [spec_SeriesPow.j0, if_true]; exact Ev.now _
  unfold spec_SeriesPow.f
  by_cases hs : SerOk f a
  · have hn := hs.2.1
    refine Ev.bind (ev_SeriesOk hs) ?_
    simp only [if_true, ev_l01In, Option.bind_some]
    by_cases hb : -1000000 ≤ e ∧ e ≤ 1000000
    · simp only [decide_eq_true hb.1, decide_eq_true hb.2, Bool.and_self, if_true]
      by_cases c : e < 0
      · have g1 : 0 < (a.length : Int) := by omega
        have g2 : (rd a 0 == 0) = true := by
          rw [beq_iff_eq]
          by_cases q : rd a 0 = 0
          · exact q
          · exact absurd ⟨hs, hb, fun _ => q⟩ h
        simp only [c, g1, g2, if_true]; exact bad
      · exact absurd ⟨hs, hb, fun q => absurd q c⟩ h
    · have : (decide (-1000000 ≤ e) && decide (e ≤ 1000000)) = false := by
        rw [← Bool.not_eq_true, Bool.and_eq_true, decide_eq_true_eq, decide_eq_true_eq]; exact hb
      simp only [this, Bool.false_eq_true, if_false]; exact bad
  · refine Ev.bind (ev_SeriesOk_bad hs) ?_
    simp only [Bool.false_eq_true, if_false]; exact bad

theorem ev_fieldOf {f : Int} (h : 0 ≤ f ∧ f < 9) : impl_fieldOf.f f = some (md f, gn f, tp f, true) := by
  rcases fcases h.1 h.2 with e | e | e | e | e | e | e | e | e <;> subst e <;> rfl
theorem ev_fieldOf_bad {f : Int} (h : ¬ (0 ≤ f ∧ f < 9)) : impl_fieldOf.f f = some (0, 0, 0, false) := by
  unfold impl_fieldOf.f
  by_cases c : f < 0
  · rw [if_pos c]
  · rw [if_neg c, if_pos (by omega)]

theorem ev_areElements (p g t : Int) (l : List Int) (hl : l.length ≤ 35184372088832) : Ev (fun k => impl_field_areElements.f k p g t l) (elB p l) := by
  have key : ∀ (d i : Nat), i + d = l.length → Ev (fun k => impl_field_areElements.l0 k l (l.length : Int) (i : Int) p g t) (elB p (l.drop i)) := by
    intro d
    induction d with
    | zero =>
      intro i hi
      refine ev_s ?_
      have h1 : ¬ ((i : Int) < (l.length : Int)) := by omega
      simp only [impl_field_areElements.l0, h1, if_false]
      rw [List.drop_of_length_le (by omega)]
      exact Ev.now _
    | succ d ih =>
      intro i hi
      refine ev_s ?_
      have h1 : (i : Int) < (l.length : Int) := by omega
      have h2 : (0 : Int) ≤ (i : Int) := by omega
      simp only [impl_field_areElements.l0, h1, h2, if_true, w_succ (n := i) (by omega)]
      rw [elB_drop (by omega)]
      by_cases c1 : rd l (i : Int) < 0
      · simp only [c1, if_true, show decide (0 ≤ rd l (i : Int)) = false from decide_eq_false (by omega), Bool.false_and]
        exact Ev.now _
      · by_cases c2 : rd l (i : Int) ≥ p
        · simp only [c1, c2, if_true, if_false, show decide (rd l (i : Int) < p) = false from decide_eq_false (by omega), Bool.false_and, Bool.and_false]
          exact Ev.now _
        · simp only [c1, c2, if_false, show decide (0 ≤ rd l (i : Int)) = true from decide_eq_true (by omega), show decide (rd l (i : Int) < p) = true from decide_eq_true (by omega), Bool.true_and]
          exact ih (i + 1) (by omega)
  exact key l.length 0 (by omega)

theorem ev_seriesField1 {f : Int} {a : List Int} (h : SerOk f a) : Ev (fun k => impl_seriesField.f k f [a]) (md f, gn f, tp f, true) := by
  obtain ⟨hf, h1, h2, he⟩ := h
  unfold impl_seriesField.f
  have hl : (([a] : List (List Int)).length : Int) = 1 := rfl
  have hr : rd_L1 [a] 0 = a := rfl
  have n1 : ¬ ((a.length : Int) < 1) := by omega
  have n2 : ¬ ((a.length : Int) > 64) := by omega
  simp only [ev_fieldOf hf, Option.bind_some, if_true, hl]
  refine ev_s ?_
  simp only [impl_seriesField.l0, hl, hr, n1, n2, if_false, show (0 : Int) < 1 from by decide, show (0 : Int) ≤ 0 from by decide, if_true]
  refine Ev.bind (ev_areElements _ _ _ a (by omega)) ?_
  simp only [elB_iff.2 he, if_true, w64 (x := 0 + 1) (by decide) (by decide)]
  refine ev_s ?_
  simp only [impl_seriesField.l0, hl, show ¬ ((0 : Int) + 1 < 1) from by decide, if_false]
  exact Ev.now _
theorem ev_seriesField1_bad {f : Int} {a : List Int} (h : ¬ SerOk f a) : Ev (fun k => impl_seriesField.f k f [a]) (0, 0, 0, false) := by
  unfold impl_seriesField.f
  by_cases hf : 0 ≤ f ∧ f < 9
  · have hl : (([a] : List (List Int)).length : Int) = 1 := rfl
    have hr : rd_L1 [a] 0 = a := rfl
    simp only [ev_fieldOf hf, Option.bind_some, if_true, hl]
    refine ev_s ?_
    simp only [impl_seriesField.l0, hl, hr, show (0 : Int) < 1 from by decide, show (0 : Int) ≤ 0 from by decide, if_true]
    by_cases n1 : (a.length : Int) < 1
    · simp only [n1, if_true]; exact Ev.now _
    · by_cases n2 : (a.length : Int) > 64
      · simp only [n1, n2, if_true, if_false]; exact Ev.now _
      · simp only [n1, n2, if_false]
        refine Ev.bind (ev_areElements _ _ _ a (by omega)) ?_
        have he : elB (md f) a = false := by
          rw [← Bool.not_eq_true, elB_iff]
          intro he
          exact h ⟨hf, by omega, by omega, he⟩
        simp only [he, Bool.false_eq_true, if_false]
        exact Ev.now _
  · simp only [ev_fieldOf_bad hf, Option.bind_some, Bool.false_eq_true, if_false]
    exact Ev.now _

theorem ev_mul {p : Int} (hp : Pm p) (g t : Int) {a b : Int} (ha : 0 ≤ a ∧ a < p) (hb : 0 ≤ b ∧ b < p) : impl_field_mul.f p g t a b = some (a * b % p) := by
  unfold Pm at hp
  have h := mul_lt_big ha.1 ha.2 hb.1 hb.2 hp.2
  unfold impl_field_mul.f
  rw [if_neg (by omega), w64 (by omega) (by omega), tmod_nn (by omega)]

theorem ev_add {p : Int} (hp : Pm p) (g t : Int) {a b : Int} (ha : 0 ≤ a ∧ a < p) (hb : 0 ≤ b ∧ b < p) : impl_field_add.f p g t a b = some ((a + b) % p) := by
  unfold Pm at hp
  unfold impl_field_add.f
  rw [if_neg (by omega), w64 (by omega) (by omega), tmod_nn (by omega)]

theorem ev_sub {p : Int} (hp : Pm p) (g t : Int) {a b : Int} (ha : 0 ≤ a ∧ a < p) (hb : 0 ≤ b ∧ b < p) : impl_field_sub.f p g t a b = some ((a - b) % p) := by
  unfold Pm at hp
  unfold impl_field_sub.f
  rw [if_neg (by omega), w64 (x := a - b) (by omega) (by omega), w64 (by omega) (by omega), tmod_nn (by omega), Int.add_emod_right]

theorem ev_power {p : Int} (hp : Pm p) (g t : Int) : ∀ (e : Nat) {a : Int}, (0 ≤ a ∧ a < p) → e < 4611686018427387904 → Ev (fun k => impl_field_power.f k p g t a (e : Int)) (a ^ e % p) := by
  have hpp := hp
  unfold Pm at hpp
  have key : ∀ (n e : Nat), e ≤ n → e < 4611686018427387904 → ∀ a out : Int, (0 ≤ a ∧ a < p) → (0 ≤ out ∧ out < p) → Ev (fun k => impl_field_power.l0 k a (e : Int) out p g t) (out * a ^ e % p) := by
    intro n
    induction n with
    | zero =>
      intro e he _ a out ha ho
      obtain rfl : e = 0 := by omega
      refine ev_s ?_
      have h1 : ¬ (((0 : Nat) : Int) > 0) := by omega
      simp only [impl_field_power.l0, h1, if_false]
      rw [Int.pow_zero, Int.mul_one, em_id ho.1 ho.2]
      exact Ev.now _
    | succ n ih =>
      intro e he hb a out ha ho
      by_cases h0 : e = 0
      · subst h0
        exact ih 0 (by omega) hb a out ha ho
      · refine ev_s ?_
        have h1 : (e : Int) > 0 := by omega
        have h2 : Int.tmod (e : Int) 2 = ((e % 2 : Nat) : Int) := by rw [tmod_nn (by omega)]; omega
        have h3 : wrap64 (Int.tdiv (e : Int) 2) = ((e / 2 : Nat) : Int) := by
          rw [Int.tdiv_eq_ediv_of_nonneg (by omega), w64 (by omega) (by omega)]; omega
        have haa := em_lt (a := a * a) hp.pos
        simp only [impl_field_power.l0, h1, if_true, h2, h3, ev_mul hp g t ha ha, ev_mul hp g t ho ha, Option.bind_some]
        by_cases c : e % 2 = 1
        · have hoa := em_lt (a := out * a) hp.pos
          simp only [c, Int.natCast_one, if_true]
          refine ev_to (ih (e / 2) (by omega) (by omega) (a * a % p) (out * a % p) haa hoa) ?_
          have e1 : (out * a % p) * (a * a % p) ^ (e / 2) % p = (out * a) * (a * a) ^ (e / 2) % p := emul (Int.emod_emod _ _) (epow_l _)
          rw [e1, ipow2, Int.mul_assoc, ← Int.pow_succ']
          congr 3; omega
        · have c0 : e % 2 = 0 := by omega
          simp only [c0, show ¬ (((0 : Nat) : Int) = 1) from by omega, if_false]
          refine ev_to (ih (e / 2) (by omega) (by omega) (a * a % p) out haa ho) ?_
          have e1 : out * (a * a % p) ^ (e / 2) % p = out * (a * a) ^ (e / 2) % p := emul rfl (epow_l _)
          rw [e1, ipow2]
          congr 3; omega
  intro e a ha he
  unfold impl_field_power.f
  refine ev_to (key e e (Nat.le_refl _) he a 1 ha (by omega)) ?_
  rw [Int.one_mul]

theorem ev_inverse {p : Int} (hp : Pm p) (g t : Int) {a : Int} (ha : 0 ≤ a ∧ a < p) : Ev (fun k => impl_field_inverse.f k p g t a) (inv p a) := by
  have hpp := hp
  unfold Pm at hpp
  unfold impl_field_inverse.f
  rw [w64 (x := p - 2) (by omega) (by omega)]
  have h : p - 2 = (((p - 2).toNat : Nat) : Int) := by omega
  have := ev_power hp g t (p - 2).toNat ha (by omega)
  rw [← h] at this
  refine Ev.bind this ?_
  exact Ev.now _

theorem ev_seriesInv {p : Int} (hp : Pm p) (g t : Int) {a : List Int} (h1 : 1 ≤ a.length) (h2 : a.length ≤ 64) (he : El p a) : Ev (fun k => impl_field_seriesInv.f k p g t a) (invS p a) := by
  have hpp := hp
  unfold Pm at hpp
  have hbl := inv_lt hp.pos (rd a 0)
  have inner : ∀ (d j i : Nat) (out : List Int) (r : List Int), j + d = i → i = out.length → i < a.length → 1 ≤ i → El p out →
      Ev (fun k => impl_field_seriesInv.l0 k a (inv p (rd a 0)) (out ++ [invF p a out]) ((i + 1 : Nat) : Int) p g t) r →
      Ev (fun k => impl_field_seriesInv.l1 k a (inv p (rd a 0)) out (i : Int) (sm j (invT a out) % p) ((j + 1 : Nat) : Int) p g t) r := by
    intro d
    induction d with
    | zero =>
      intro j i out r hj hi hia h1i heo hr
      refine ev_s ?_
      have g1 : ¬ (((j + 1 : Nat) : Int) ≤ (i : Int)) := by omega
      have g2 : out.length < 17592186044416 := by omega
      simp only [impl_field_seriesInv.l1, g1, g2, if_false, if_true, ev_sub hp g t (a := 0) (b := sm j (invT a out) % p) (by omega) (em_lt hp.pos), Option.bind_some, ev_mul hp g t (em_lt hp.pos) hbl, w_succ (n := i) (by omega), emul_l]
      have e : (0 - sm j (invT a out) % p) * inv p (rd a 0) % p = invF p a out := by
        unfold invF
        rw [if_neg (by omega), show j = out.length by omega, ← Int.zero_sub]
        exact emul esub_r rfl
      rw [e]; exact hr
    | succ d ih =>
      intro j i out r hj hi hia h1i heo hr
      refine ev_s ?_
      have g1 : ((j + 1 : Nat) : Int) ≤ (i : Int) := by omega
      have g2 : (0 : Int) ≤ ((j + 1 : Nat) : Int) := by omega
      have g3 : ((j + 1 : Nat) : Int) < (a.length : Int) := by omega
      have ew : wrap64 ((i : Int) - ((j + 1 : Nat) : Int)) = ((out.length - 1 - j : Nat) : Int) := by rw [w64 (by omega) (by omega)]; omega
      have g4 : (0 : Int) ≤ ((out.length - 1 - j : Nat) : Int) := by omega
      have g5 : ((out.length - 1 - j : Nat) : Int) < (out.length : Int) := by omega
      simp only [impl_field_seriesInv.l1, g1, g2, g3, ew, g4, g5, if_true, ev_mul hp g t (he.rd hp.pos _) (heo.rd hp.pos _), Option.bind_some, ev_add hp g t (em_lt hp.pos) (em_lt hp.pos), w_succ (n := j + 1) (by omega), eadd_l, eadd_r]
      have hs := ih (j + 1) i out r (by omega) hi hia h1i heo hr
      rw [sm_succ] at hs
      exact hs
  have outer : ∀ (d i : Nat), i + d = a.length → 1 ≤ i → Ev (fun k => impl_field_seriesInv.l0 k a (inv p (rd a 0)) (bld (invF p a) i) (i : Int) p g t) (invS p a) := by
    intro d
    induction d with
    | zero =>
      intro i hi h1i
      refine ev_s ?_
      have g1 : ¬ ((i : Int) < (a.length : Int)) := by omega
      simp only [impl_field_seriesInv.l0, g1, if_false]
      rw [show i = a.length by omega]; exact Ev.now _
    | succ d ih =>
      intro i hi h1i
      refine ev_s ?_
      have g1 : (i : Int) < (a.length : Int) := by omega
      simp only [impl_field_seriesInv.l0, g1, if_true]
      have hi2 := inner i 0 i (bld (invF p a) i) _ (by omega) (by rw [bld_len]) (by omega) h1i (bld_el (fun out => invF_lt hp.pos a out) i) (ih (i + 1) (by omega) (by omega))
      rw [sm_zero, Int.zero_emod] at hi2
      exact hi2
  unfold impl_field_seriesInv.f
  have g0 : (0 : Int) < (a.length : Int) := by omega
  simp only [g0, if_true]
  refine Ev.bind (ev_inverse hp g t (he.rd hp.pos 0)) ?_
  exact outer (a.length - 1) 1 (by omega) (by omega)

theorem ev_seriesMul {p : Int} (hp : Pm p) (g t : Int) {a b : List Int} (h2 : a.length ≤ 64) (e : a.length = b.length) (ha : El p a) (hb : El p b) : Ev (fun k => impl_field_seriesMul.f k p g t a b) (mulS p a b) := by
  have hpp := hp
  unfold Pm at hpp
  have inner : ∀ (d j i : Nat) (out : List Int) (r : List Int), i + j + d = a.length → i < a.length → out.length = a.length → (∀ c : Nat, c < a.length → rd out (c : Int) = scat a b i j c % p) →
      (∀ out' : List Int, out'.length = a.length → (∀ c : Nat, c < a.length → rd out' (c : Int) = sm (i + 1) (tm a b c) % p) → Ev (fun k => impl_field_seriesMul.l0 k a b out' a (a.length : Int) ((i + 1 : Nat) : Int) p g t) r) →
      Ev (fun k => impl_field_seriesMul.l1 k a b out (i : Int) (rd a (i : Int)) (j : Int) a (a.length : Int) (i : Int) p g t) r := by
    intro d
    induction d with
    | zero =>
      intro j i out r hj hi ho hx hr
      refine ev_s ?_
      have ei : wrap64 ((i : Int) + (j : Int)) = ((i + j : Nat) : Int) := by rw [w64 (by omega) (by omega)]; omega
      have g1 : ¬ (((i + j : Nat) : Int) < (a.length : Int)) := by omega
      simp only [impl_field_seriesMul.l1, ei, g1, if_false, w_succ (n := i) (by omega)]
      exact hr out ho (fun c hc => by rw [hx c hc, scat_row (Or.inr (by omega))])
    | succ d ih =>
      intro j i out r hj hi ho hx hr
      refine ev_s ?_
      have ei : wrap64 ((i : Int) + (j : Int)) = ((i + j : Nat) : Int) := by rw [w64 (by omega) (by omega)]; omega
      have g1 : ((i + j : Nat) : Int) < (a.length : Int) := by omega
      have g2 : (0 : Int) ≤ ((i + j : Nat) : Int) := by omega
      have g3 : ((i + j : Nat) : Int) < (out.length : Int) := by omega
      have g4 : (0 : Int) ≤ (j : Int) := by omega
      have g5 : (j : Int) < (b.length : Int) := by omega
      have g6 : ¬ (p = 0) := by omega
      have hai := ha.rd hp.pos (i : Int)
      have hbj := hb.rd hp.pos (j : Int)
      have hm := mul_lt_big hai.1 hai.2 hbj.1 hbj.2 hpp.2
      have ho1 := hx (i + j) (by omega)
      have ho2 := em_lt (a := scat a b i j (i + j)) hp.pos
      have ev : Int.tmod (wrap64 (rd out ((i + j : Nat) : Int) + wrap64 (rd a (i : Int) * rd b (j : Int)))) p = scat a b i (j + 1) (i + j) % p := by
        rw [w64 (x := rd a (i : Int) * rd b (j : Int)) (by omega) (by omega), ho1, w64 (by omega) (by omega), tmod_nn (by omega), eadd_l, scat_hit]
      simp only [impl_field_seriesMul.l1, ei, g1, g2, g3, g4, g5, g6, if_true, if_false, ev, w_succ (n := j) (by omega), Int.toNat_natCast]
      refine ih (j + 1) i _ r (by omega) hi (by rw [List.length_set]; exact ho) (fun c hc => ?_) hr
      by_cases e : i + j = c
      · subst e; rw [rd_set_eq (by omega)]
      · rw [rd_set_ne e, hx c hc, scat_miss (by omega)]
  have outer : ∀ (d i : Nat) (out : List Int), i + d = a.length → out.length = a.length → (∀ c : Nat, c < a.length → rd out (c : Int) = sm i (tm a b c) % p) → Ev (fun k => impl_field_seriesMul.l0 k a b out a (a.length : Int) (i : Int) p g t) (mulS p a b) := by
    intro d
    induction d with
    | zero =>
      intro i out hi ho hx
      refine ev_s ?_
      have g1 : ¬ ((i : Int) < (a.length : Int)) := by omega
      simp only [impl_field_seriesMul.l0, g1, if_false]
      have e : out = mulS p a b := set_map_rd ho (fun c hc => by rw [hx c hc, show i = a.length by omega, pc_of_len])
      rw [e]; exact Ev.now _
    | succ d ih =>
      intro i out hi ho hx
      refine ev_s ?_
      have g1 : (i : Int) < (a.length : Int) := by omega
      have g2 : (0 : Int) ≤ (i : Int) := by omega
      simp only [impl_field_seriesMul.l0, g1, g2, if_true]
      exact inner (a.length - i) 0 i out _ (by omega) (by omega) ho (fun c hc => by rw [hx c hc, scat_start]) (fun out' ho' hx' => ih (i + 1) out' (by omega) ho' hx')
  unfold impl_field_seriesMul.f
  have g1 : (0 : Int) ≤ (a.length : Int) := by omega
  simp only [g1, if_true, Int.toNat_natCast, show a.length ≤ 35184372088832 from by omega]
  exact outer a.length 0 _ (by omega) (by simp) (fun c _ => by rw [rd_rep, sm_zero, Int.zero_emod])

theorem ev_iSeriesPow_run {f : Int} (g t : Int) : ∀ (n e : Nat) (out x : List Int), e < 2 ^ n → e ≤ 1000000 → SerOk f out → SerOk f x → out.length = x.length → Ev (fun k => impl_SeriesPow.l0 k (e : Int) x out (md f) g t) (powR (mulS (md f)) n e x out, true) := by
  intro n
  induction n with
  | zero =>
    intro e out x he hb ho hx hl
    refine ev_s ?_
    have g1 : ¬ ((e : Int) > 0) := by simp at he; omega
    simp only [impl_SeriesPow.l0, g1, if_false]; exact Ev.now _
  | succ n ih =>
    intro e out x he hb ho hx hl
    have h2 : e / 2 < 2 ^ n := by rw [Nat.pow_succ] at he; omega
    clear he
    have hxx : Ev (fun k => impl_field_seriesMul.f k (md f) g t x x) (mulS (md f) x x) := ev_seriesMul hx.pm g t hx.2.2.1 rfl hx.2.2.2 hx.2.2.2
    refine ev_s ?_
    by_cases c : e = 0
    · have g1 : ¬ ((e : Int) > 0) := by omega
      simp only [impl_SeriesPow.l0, g1, if_false]
      rw [c, powR_zero]; exact Ev.now _
    · have g1 : (e : Int) > 0 := by omega
      have ed : wrap64 (Int.tdiv (e : Int) 2) = ((e / 2 : Nat) : Int) := by rw [Int.tdiv_eq_ediv_of_nonneg (by omega), w64 (by omega) (by omega)]; omega
      have em : Int.tmod (e : Int) 2 = ((e % 2 : Nat) : Int) := by rw [tmod_nn (by omega)]; omega
      simp only [impl_SeriesPow.l0, g1, if_true, ed, em]
      unfold powR
      rw [if_neg c]
      by_cases q : e % 2 = 1
      · have q1 : ((e % 2 : Nat) : Int) = 1 := by omega
        simp only [q1, if_true]
        rw [if_pos q]
        refine Ev.bind (ev_seriesMul ho.pm g t ho.2.2.1 hl ho.2.2.2 hx.2.2.2) ?_
        refine Ev.bind hxx ?_
        exact ih (e / 2) _ _ h2 (by omega) (mul_ok ho _) (mul_ok hx _) (by rw [mulS_len, mulS_len, hl])
      · have q1 : ¬ (((e % 2 : Nat) : Int) = 1) := by omega
        simp only [q1, if_false]
        rw [if_neg q]
        refine Ev.bind hxx ?_
        exact ih (e / 2) _ _ h2 (by omega) ho (mul_ok hx _) (by rw [mulS_len, hl])
theorem ev_iSeriesPow_j1 {f : Int} (g t : Int) {a x : List Int} (h : SerOk f a) (hx : SerOk f x) (hl : a.length = x.length) {e : Nat} (he : e ≤ 1000000) : Ev (fun k => impl_SeriesPow.j1 k a (e : Int) x (md f) g t) (powR (mulS (md f)) 20 e x (oneS a.length), true) := by
  have hn := h.2.1
  have hn2 := h.2.2.1
  have he2 : e < 2 ^ 20 := by have : (2 : Nat) ^ 20 = 1048576 := rfl; omega
  refine ev_s ?_
  have g2 : (0 : Int) ≤ (a.length : Int) := by omega
  have g4 : (0 : Int) < ((List.replicate a.length (0 : Int)).length : Int) := by simp; omega
  simp only [impl_SeriesPow.j1, g2, Int.toNat_natCast, show a.length ≤ 35184372088832 from by omega, if_true, Option.bind_some, g4, oneS_set hn]
  exact ev_iSeriesPow_run g t 20 e _ _ he2 he (one_ok h) hx (by rw [oneS_len hn, hl])
theorem ev_iSeriesPow {f : Int} {a : List Int} {e : Int} (h : PowOk f a e) : Ev (fun k => impl_SeriesPow.f k f a e) (powS f a e, true) := by
  obtain ⟨hs, hb, h0⟩ := h
  have hn := hs.2.1
  have hn2 := hs.2.2.1
  unfold impl_SeriesPow.f powS
  refine Ev.bind (ev_seriesField1 hs) ?_
  have b1 : ¬ (e < -1000000) := by omega
  have b2 : ¬ (e > 1000000) := by omega
  simp only [if_true, b1, b2, if_false]
  by_cases c : e < 0
  · have g1 : 0 < (a.length : Int) := by omega
    have g2 : (rd a 0 == 0) = false := by rw [← Bool.not_eq_true, beq_iff_eq]; exact h0 c
    simp only [c, g1, g2, if_true]
    refine ev_s ?_
    simp only [impl_SeriesPow.j0, Bool.false_eq_true, if_false, c, if_true]
    refine Ev.bind (ev_seriesInv hs.pm _ _ hs.2.1 hs.2.2.1 hs.2.2.2) ?_
    rw [show wrap64 (-e) = ((e.natAbs : Nat) : Int) by rw [w64 (by omega) (by omega)]; omega]
    exact ev_iSeriesPow_j1 _ _ hs (inv_ok hs) (by unfold invS; rw [bld_len]) (by omega)
  · simp only [c, if_false]
    refine ev_s ?_
    simp only [impl_SeriesPow.j0, Bool.false_eq_true, if_false, c]
    have := ev_iSeriesPow_j1 (gn f) (tp f) hs hs rfl (e := e.natAbs) (by omega)
    rw [show ((e.natAbs : Nat) : Int) = e by omega] at this
    exact this
theorem ev_iSeriesPow_bad {f : Int} {a : List Int} {e : Int} (h : ¬ PowOk f a e) : Ev (fun k => impl_SeriesPow.f k f a e) ([], false) := by
  have bad : ∀ p g t : Int, Ev (fun k => impl_SeriesPow.j0 k a e true p g t) ([], false) := fun p g t => by
    refine ev_s ?_
    simp only [impl_SeriesPow.j0, if_true]; exact Ev.now _
  unfold impl_SeriesPow.f
  by_cases hs : SerOk f a
  · have hn := hs.2.1
    refine Ev.bind (ev_seriesField1 hs) ?_
    by_cases b1 : e < -1000000
    · simp only [if_true, b1]; exact bad _ _ _
    by_cases b2 : e > 1000000
    · simp only [if_true, b1, b2, if_false]; exact bad _ _ _
    simp only [if_true, b1, b2, if_false]
    by_cases c : e < 0
    · have g1 : 0 < (a.length : Int) := by omega
      have g2 : (rd a 0 == 0) = true := by
        rw [beq_iff_eq]
        by_cases q : rd a 0 = 0
        · exact q
        · exact absurd ⟨hs, ⟨by omega, by omega⟩, fun _ => q⟩ h
      simp only [c, g1, g2, if_true]; exact bad _ _ _
    · exact absurd ⟨hs, ⟨by omega, by omega⟩, fun q => absurd q c⟩ h
  · refine Ev.bind (ev_seriesField1_bad hs) ?_
    simp only [Bool.false_eq_true, if_false]; exact bad _ _ _

theorem FnExactSeriesPow : laws_FnExactSeriesPow.Pure := by
  intro f l e hf hl hl8 hwl he
  refine Ev.rounds ?_
  unfold laws_FnExactSeriesPow.f
  by_cases hbig : (l.length : Int) > 1048576
  · simp only [hbig, if_true]; exact Ev.now _
  simp only [hbig, if_false]
  have hll : l.length ≤ 35184372088832 := by omega
  obtain ⟨R1, R2, hR1, hR2, hRl⟩ : ∃ (R1 : List Int) (R2 : Bool), Ev (fun k => spec_SeriesPow.f k f l e) (R1, R2) ∧ Ev (fun k => impl_SeriesPow.f k f l e) (R1, R2) ∧ R1.length ≤ 1048576 := by
    by_cases h : PowOk f l e
    · exact ⟨_, _, ev_SeriesPow h, ev_iSeriesPow h, by rw [powS_len h.1]; omega⟩
    · exact ⟨_, _, ev_SeriesPow_bad h, ev_iSeriesPow_bad h, by simp⟩
  have nR : ¬ ((1 : Int) + (R1.length : Int) < 0) := by omega
  have nL : ¬ ((1 : Int) + (l.length : Int) < 0) := by omega
  repeat first
    | exact Ev.now _
    | refine Ev.bind hR1 ?_
    | refine Ev.bind hR2 ?_
    | refine Ev.bind (ev_toIntS l hll) ?_
    | refine Ev.bind (ev_eqIntS l (by omega)) ?_
    | refine Ev.bind (ev_eqIntS R1 (by omega)) ?_
    | refine Ev.bind (ev_mark l (1) (by omega) (by omega) (by omega)) ?_
    | refine Ev.bind (ev_mark R1 1 (by omega) (by omega) (by omega)) ?_
    | refine Ev.bind (ev_held R1.length 1 (by omega) (by omega) (by omega)) ?_
    | simp only [if_true, nR, nL, if_false, bne_self_eq_false, Bool.false_eq_true, Bool.not_true]
    | (refine ev_s ?_; simp only [laws_FnExactSeriesPow.j0])
    | (refine ev_s ?_; simp only [laws_FnExactSeriesPow.j1])
    | (refine ev_s ?_; simp only [laws_FnExactSeriesPow.j2])

end Go.Proofs.Ytemffnnndjpleaa.Pure
