/- FnExactTrace returns true for every field number and list: both traces are the same list. -/
import Derived.Test.YtiihnfkflidddaaPFnExactTracex4
import Derived.Test.YtiihnfkflidddaaGB
import Derived.Test.YtiihnfkflidddaaGJ
set_option linter.unusedVariables false
set_option linter.unusedSimpArgs false
namespace Go.Proofs.Ytiihnfkflidddaa.Pure
open Go.RowKit Go.Proofs.Ytiihnfkflidddaa.PFnExactTrace Go.Proofs.YtiihnfkflidddaaW.PrintWords Go.Proofs.YtiihnfkflidddaaW.PrintLast Go.Proofs.YtiihnfkflidddaaW.PrintMore G7
theorem ev_toIntS (l : List Int) (hl : l.length ≤ 35184372088832) : Ev (fun k => laws_toIntS.f k l) l := by
  have key : ∀ (d i : Nat) (out : List Int), i + d = l.length → out.length = l.length → (∀ j : Nat, j < i → rd out (j : Int) = rd l (j : Int)) → Ev (fun k => laws_toIntS.l0 k l out (i : Int)) l := by
    intro d
    induction d with
    | zero =>
      intro i out hi ho hx
      refine ev_s ?_
      have h1 : ¬ ((i : Int) < (l.length : Int)) := by omega
      simp only [laws_toIntS.l0, h1, if_false]
      rw [ext_rd ho (fun j hj => hx j (by omega))]
      exact Ev.now _
    | succ d ih =>
      intro i out hi ho hx
      refine ev_s ?_
      have h1 : (i : Int) < (l.length : Int) := by omega
      have h2 : (0 : Int) ≤ (i : Int) := by omega
      have h3 : (i : Int) < (out.length : Int) := by omega
      simp only [laws_toIntS.l0, h1, h2, h3, if_true, w_succ (n := i) (by omega), Int.toNat_natCast]
      refine ih (i + 1) _ (by omega) (by rw [List.length_set]; exact ho) (fun j hj => ?_)
      by_cases c : i = j
      · subst c; rw [rd_set_eq (by omega)]
      · rw [rd_set_ne c]; exact hx j (by omega)
  unfold laws_toIntS.f
  have h1 : (0 : Int) ≤ (l.length : Int) := by omega
  simp only [h1, if_true, Int.toNat_natCast, hl]
  exact key l.length 0 _ (by omega) (by simp) (fun j hj => by omega)

theorem ev_eqIntS (l : List Int) (hl : l.length ≤ 35184372088832) : Ev (fun k => laws_eqIntS.f k l l) true := by
  have key : ∀ (d i : Nat), i + d = l.length → Ev (fun k => laws_eqIntS.l0 k l l (i : Int)) true := by
    intro d
    induction d with
    | zero =>
      intro i hi
      refine ev_s ?_
      have h1 : ¬ ((i : Int) < (l.length : Int)) := by omega
      simp only [laws_eqIntS.l0, h1, if_false]
      exact Ev.now _
    | succ d ih =>
      intro i hi
      refine ev_s ?_
      have h1 : (i : Int) < (l.length : Int) := by omega
      have h2 : (0 : Int) ≤ (i : Int) := by omega
      simp only [laws_eqIntS.l0, h1, h2, if_true, w_succ (n := i) (by omega)]
      exact ih (i + 1) (by omega)
  unfold laws_eqIntS.f
  simp only [if_true]
  exact key l.length 0 (by omega)

/-- What markIntS leaves. -/
def marks (n : Nat) (m : Int) : List Int := (List.range n).map (fun i => m + (i : Nat))
theorem marks_len (n : Nat) (m : Int) : (marks n m).length = n := by simp [marks]
theorem marks_rd {n i : Nat} (m : Int) (h : i < n) : rd (marks n m) (i : Int) = m + i := by unfold marks; rw [rd_map _ h]
theorem ev_mark (l : List Int) (m : Int) (hl : l.length ≤ 35184372088832) (h0 : 0 ≤ m) (h1 : m ≤ 4611686018427387904) : Ev (fun k => laws_markIntS.f k l m) (m + l.length, marks l.length m) := by
  have key : ∀ (d i : Nat) (out : List Int), i + d = l.length → out.length = l.length → (∀ j : Nat, j < i → rd out (j : Int) = m + j) → Ev (fun k => laws_markIntS.l0 k out (m + i) (i : Int)) (m + l.length, marks l.length m) := by
    intro d
    induction d with
    | zero =>
      intro i out hi ho hx
      refine ev_s ?_
      have g1 : ¬ ((i : Int) < (out.length : Int)) := by omega
      simp only [laws_markIntS.l0, g1, if_false]
      have e : out = marks l.length m := ext_rd (by rw [marks_len, ho]) (fun j hj => by rw [marks_rd m (by omega)]; exact hx j (by omega))
      rw [e, show i = l.length by omega]
      exact Ev.now _
    | succ d ih =>
      intro i out hi ho hx
      refine ev_s ?_
      have g1 : (i : Int) < (out.length : Int) := by omega
      have g2 : (0 : Int) ≤ (i : Int) := by omega
      simp only [laws_markIntS.l0, g1, g2, if_true, w_succ (n := i) (by omega), Int.toNat_natCast, w64 (x := m + (i : Int) + 1) (by omega) (by omega)]
      rw [show m + (i : Int) + 1 = m + ((i + 1 : Nat) : Int) by omega]
      refine ih (i + 1) _ (by omega) (by rw [List.length_set]; exact ho) (fun j hj => ?_)
      by_cases c : i = j
      · subst c; rw [rd_set_eq (by omega)]
      · rw [rd_set_ne c]; exact hx j (by omega)
  unfold laws_markIntS.f
  have := key l.length 0 l (by omega) rfl (fun j hj => by omega)
  simpa using this
theorem ev_held (n : Nat) (m : Int) (hl : n ≤ 35184372088832) (h0 : 0 ≤ m) (h1 : m ≤ 4611686018427387904) : Ev (fun k => laws_heldIntS.f k (marks n m) m) (m + n) := by
  have key : ∀ (d i : Nat), i + d = n → Ev (fun k => laws_heldIntS.l0 k (marks n m) (m + i) (i : Int)) (m + n) := by
    intro d
    induction d with
    | zero =>
      intro i hi
      refine ev_s ?_
      have g1 : ¬ ((i : Int) < ((marks n m).length : Int)) := by rw [marks_len]; omega
      simp only [laws_heldIntS.l0, g1, if_false]
      rw [show i = n by omega]
      exact Ev.now _
    | succ d ih =>
      intro i hi
      refine ev_s ?_
      have g1 : (i : Int) < ((marks n m).length : Int) := by rw [marks_len]; omega
      have g2 : (0 : Int) ≤ (i : Int) := by omega
      simp only [laws_heldIntS.l0, g1, g2, if_true, marks_rd m (show i < n by omega), w_succ (n := i) (by omega), w64 (x := m + (i : Int) + 1) (by omega) (by omega)]
      rw [show m + (i : Int) + 1 = m + ((i + 1 : Nat) : Int) by omega]
      exact ih (i + 1) (by omega)
  unfold laws_heldIntS.f
  have := key n 0 (by omega)
  simpa using this

theorem ev_LogOf (n : Int) : Ev (fun k => spec_LogOf.f k n) (lg n) := by
  have key : ∀ (d c : Nat), c + d = 10 → Ev (fun k => spec_LogOf.l0 k n (c : Int)) (lgA n d c) := by
    intro d
    induction d with
    | zero =>
      intro c hc
      refine ev_s ?_
      have h1 : ¬ ((c : Int) ≤ 9) := by omega
      simp only [spec_LogOf.l0, h1, if_false]; exact Ev.now _
    | succ d ih =>
      intro c hc
      refine ev_s ?_
      have h1 : (c : Int) ≤ 9 := by omega
      have h2 : (0 : Int) ≤ (c : Int) := by omega
      simp only [spec_LogOf.l0, h1, u64_id (x := (c : Int)) (by omega) (by omega), h2, if_true, shl1 (c := c) (by omega), w_succ (n := c) (by omega)]
      unfold lgA
      by_cases h : n = ((2 ^ c : Nat) : Int)
      · rw [if_pos h]; simp only [if_pos h]; exact Ev.now _
      · rw [if_neg h]; simp only [if_neg h]; exact ih (c + 1) (by omega)
  exact key 10 0 rfl

theorem ev_Modulus (f : Int) : spec_Modulus.f f = some (md f) := by
  unfold spec_Modulus.f md
  by_cases h0 : f = 0
  · rw [if_pos h0, if_pos h0]
  rw [if_neg h0, if_neg h0]
  by_cases h1 : f = 1
  · rw [if_pos h1, if_pos h1]
  rw [if_neg h1, if_neg h1]
  by_cases h2 : f = 2
  · rw [if_pos h2, if_pos h2]
  rw [if_neg h2, if_neg h2]
  by_cases h3 : f = 3
  · rw [if_pos h3, if_pos h3]
  rw [if_neg h3, if_neg h3]
  by_cases h4 : f = 4
  · rw [if_pos h4, if_pos h4]
  rw [if_neg h4, if_neg h4]
  by_cases h5 : f = 5
  · rw [if_pos h5, if_pos h5]
  rw [if_neg h5, if_neg h5]
  by_cases h6 : f = 6
  · rw [if_pos h6, if_pos h6]
  rw [if_neg h6, if_neg h6]
  by_cases h7 : f = 7
  · rw [if_pos h7, if_pos h7]
  rw [if_neg h7, if_neg h7]
  by_cases h8 : f = 8
  · rw [if_pos h8, if_pos h8]
  rw [if_neg h8, if_neg h8]

theorem ev_TwoPower (f : Int) : Ev (fun k => spec_TwoPower.f k f) (tp f) := by
  unfold spec_TwoPower.f
  simp only [ev_Modulus, Option.bind_some]
  by_cases h : 0 ≤ f ∧ f < 9
  · have hp := pm_of h
    unfold Pm at hp
    obtain ⟨e1, e2, e3, e4, e5⟩ := oddP_spec h
    simp only [show ¬ (md f = 0) from by omega, if_false, w64 (x := md f - 1) (by omega) (by omega)]
    have key : ∀ (t : Nat) (c : Int), 0 ≤ c → c + t ≤ 100 → oddP f * ((2 ^ t : Nat) : Int) ≤ md f - 1 → Ev (fun k => spec_TwoPower.l0 k c (oddP f * ((2 ^ t : Nat) : Int))) (c + t) := by
      intro t
      induction t with
      | zero =>
        intro c hc hct hb
        refine ev_s ?_
        rw [Nat.pow_zero, Int.natCast_one, Int.mul_one] at *
        have h1 : ¬ (Int.tmod (oddP f) 2 = 0) := by rw [tmod_nn (by omega)]; omega
        simp only [spec_TwoPower.l0, h1, if_false, Int.natCast_zero, Int.add_zero]; exact Ev.now _
      | succ t ih =>
        intro c hc hct hb
        have e : oddP f * ((2 ^ (t + 1) : Nat) : Int) = 2 * (oddP f * ((2 ^ t : Nat) : Int)) := by
          rw [Nat.pow_succ, Int.natCast_mul, ← Int.mul_assoc, Int.mul_comm]; rfl
        have hq : 0 ≤ oddP f * ((2 ^ t : Nat) : Int) := Int.mul_nonneg (by omega) (Int.natCast_nonneg _)
        rw [e] at hb ⊢
        have hs := ih (c + 1) (by omega) (by omega) (by omega)
        generalize oddP f * ((2 ^ t : Nat) : Int) = q at *
        refine ev_s ?_
        have h1 : Int.tmod (2 * q) 2 = 0 := by rw [tmod_nn (by omega)]; omega
        have h2 : wrap64 (Int.tdiv (2 * q) 2) = q := by
          rw [Int.tdiv_eq_ediv_of_nonneg (by omega), w64 (by omega) (by omega)]; omega
        simp only [spec_TwoPower.l0, h1, h2, if_true, w64 (x := c + 1) (by omega) (by omega)]
        exact ev_to hs (by omega)
    have := key (tp f).toNat 0 (by omega) (by omega) (by omega)
    rw [← e1] at this
    exact ev_to this (by omega)
  · simp only [md_bad h, if_true]
    rw [tp_bad h]; exact Ev.now _

theorem ev_l01In (x a b : Int) : spec_l01In.f x a b = some (decide (a ≤ x) && decide (x ≤ b)) := by
  unfold spec_l01In.f
  by_cases h : a ≤ x
  · rw [if_pos h, decide_eq_true h, Bool.true_and]
  · rw [if_neg h, decide_eq_false h, Bool.false_and]

theorem ev_l03Elements {f : Int} (h : 0 ≤ f ∧ f < 9) (l : List Int) (hl : l.length ≤ 35184372088832) : Ev (fun k => spec_l03Elements.f k f l) (elB (md f) l) := by
  have hp := pm_of h
  unfold Pm at hp
  have key : ∀ (d i : Nat), i + d = l.length → Ev (fun k => spec_l03Elements.l0 k l (md f) (i : Int)) (elB (md f) (l.drop i)) := by
    intro d
    induction d with
    | zero =>
      intro i hi
      refine ev_s ?_
      have h1 : ¬ ((i : Int) < (l.length : Int)) := by omega
      simp only [spec_l03Elements.l0, h1, if_false]
      rw [List.drop_of_length_le (by omega)]
      exact Ev.now _
    | succ d ih =>
      intro i hi
      refine ev_s ?_
      have h1 : (i : Int) < (l.length : Int) := by omega
      have h2 : (0 : Int) ≤ (i : Int) := by omega
      simp only [spec_l03Elements.l0, h1, h2, if_true, w_succ (n := i) (by omega), w64 (x := md f - 1) (by omega) (by omega), ev_l01In, Option.bind_some]
      rw [elB_drop (by omega)]
      rw [show decide (rd l (i : Int) < md f) = decide (rd l (i : Int) ≤ md f - 1) from decide_eq_decide.2 (by omega)]
      by_cases c : (decide (0 ≤ rd l (i : Int)) && decide (rd l (i : Int) ≤ md f - 1)) = true
      · simp only [c, if_true, Bool.true_and]
        exact ih (i + 1) (by omega)
      · simp only [Bool.not_eq_true] at c
        simp only [c, Bool.false_and, Bool.false_eq_true, if_false]
        exact Ev.now _
  unfold spec_l03Elements.f
  simp only [ev_Modulus, Option.bind_some]
  have h0 : ¬ (md f = 0) := by omega
  simp only [h0, if_false]
  exact key l.length 0 (by omega)
theorem ev_l03Elements_bad {f : Int} (h : ¬ (0 ≤ f ∧ f < 9)) (l : List Int) : Ev (fun k => spec_l03Elements.f k f l) false := by
  unfold spec_l03Elements.f
  simp only [ev_Modulus, Option.bind_some, md_bad h, if_true]
  exact Ev.now _

theorem ev_VectorOk {f : Int} {v : List Int} (h : VecOk f v) : Ev (fun k => spec_VectorOk.f k f v) true := by
  have hl := h.lg
  have hn := h.len
  unfold spec_VectorOk.f
  refine Ev.bind (ev_LogOf _) ?_
  have h1 : lg (v.length : Int) ≥ 0 := hl.1
  simp only [h1, if_true]
  refine Ev.bind (ev_TwoPower f) ?_
  simp only [hl.2, if_true]
  refine Ev.bind (ev_l03Elements h.1 v (by omega)) ?_
  rw [elB_iff.2 h.2.2]; exact Ev.now _
theorem ev_VectorOk_bad {f : Int} {v : List Int} (h : ¬ VecOk f v) : Ev (fun k => spec_VectorOk.f k f v) false := by
  unfold spec_VectorOk.f
  refine Ev.bind (ev_LogOf _) ?_
  by_cases h1 : lg (v.length : Int) ≥ 0
  · simp only [h1, if_true]
    refine Ev.bind (ev_TwoPower f) ?_
    have hn : v.length ≤ 512 := by
      rcases lg_cases (v.length : Int) with ⟨e, _⟩ | ⟨k, hk, _, e⟩
      · omega
      · have := two_pow_le hk; omega
    by_cases h2 : lg (v.length : Int) ≤ tp f
    · simp only [h2, if_true]
      by_cases hf : 0 ≤ f ∧ f < 9
      · refine Ev.bind (ev_l03Elements hf v (by omega)) ?_
        have he : elB (md f) v = false := by
          rw [← Bool.not_eq_true, elB_iff]
          intro he
          exact h (vec_of hf h1 h2 he)
        rw [he]; exact Ev.now _
      · refine Ev.bind (ev_l03Elements_bad hf v) ?_
        exact Ev.now _
    · simp only [h2, if_false]; exact Ev.now _
  · simp only [h1, if_false]; exact Ev.now _

theorem ev_Reduce {f : Int} (h : 0 ≤ f ∧ f < 9) (x : Int) : spec_Reduce.f f x = some (x % md f) := by
  have hp := pm_of h
  unfold Pm at hp
  unfold spec_Reduce.f
  rw [ev_Modulus]
  simp only [Option.bind_some]
  rw [if_neg (by omega)]
  have hb := tmod_bounds (a := x) (p := md f) (by omega)
  rw [w64 (by omega) (by omega), ← tmod_fix (a := x) (p := md f) (by omega)]
  by_cases c : Int.tmod x (md f) < 0
  · rw [if_pos c, if_pos c]
  · rw [if_neg c, if_neg c]
theorem ev_Reduce_bad {f : Int} (h : ¬ (0 ≤ f ∧ f < 9)) (x : Int) : spec_Reduce.f f x = some (-1) := by
  unfold spec_Reduce.f
  rw [ev_Modulus]
  simp only [Option.bind_some]
  rw [if_pos (md_bad h)]

theorem ev_Mul {f : Int} (h : 0 ≤ f ∧ f < 9) (x y : Int) : spec_Mul.f f x y = some ((x * y) % md f) := by
  have hp := pm_of h
  have hb := hp
  unfold Pm at hp
  have hx := em_lt (a := x) (p := md f) (by omega)
  have hy := em_lt (a := y) (p := md f) (by omega)
  have hxy := mul_lt_big hx.1 hx.2 hy.1 hy.2 hp.2
  unfold spec_Mul.f
  rw [ev_Modulus]
  simp only [Option.bind_some, ev_Reduce h]
  rw [if_neg (by omega), w64 (by omega) (by omega), emul_l, emul_r]

theorem ev_sub {p : Int} (hp : Pm p) (g t : Int) {a b : Int} (ha : 0 ≤ a ∧ a < p) (hb : 0 ≤ b ∧ b < p) : impl_field_sub.f p g t a b = some ((a - b) % p) := by
  unfold Pm at hp
  unfold impl_field_sub.f
  rw [if_neg (by omega), w64 (x := a - b) (by omega) (by omega), w64 (by omega) (by omega), tmod_nn (by omega), Int.add_emod_right]

theorem ev_automorph {p : Int} (hp : Pm p) (g t : Int) {a : List Int} {k : Nat} (hk : k ≤ 9) (hl : a.length = 2 ^ k) (he : El p a) {q : Int} (hq : q % 2 = 1) : Ev (fun k => impl_field_automorph.f k p g t a q) (autS p (q % (2 * (a.length : Int))).toNat a) := by
  have h2 := two_pow_le hk
  have hw : wrap64 (2 * (a.length : Int)) = 2 * (a.length : Int) := w64 (by omega) (by omega)
  have hqm := em_lt (a := q) (p := 2 * (a.length : Int)) (by omega)
  obtain ⟨G, hG⟩ : ∃ G : Nat, G = (q % (2 * (a.length : Int))).toNat := ⟨_, rfl⟩
  have hG2 : q % (2 * (a.length : Int)) = (G : Int) := by omega
  have hGl : G < 2 * a.length := by omega
  have hGo : G % 2 = 1 := by
    have : q % (2 * (a.length : Int)) % 2 = q % 2 := Int.emod_emod_of_dvd q ⟨(a.length : Int), rfl⟩
    omega
  have hgh : (G * hv a.length G) % (2 * a.length) = 1 := by rw [hl]; exact hv_mul hGo
  rw [← hG]
  have key : ∀ (d i : Nat) (out : List Int), i + d = a.length → auI p a G i out → Ev (fun k => impl_field_automorph.l0 k (G : Int) (a.length : Int) out a (a.length : Int) (i : Int) p g t) (autS p G a) := by
    intro d
    induction d with
    | zero =>
      intro i out hi ho
      refine ev_s ?_
      have g1 : ¬ ((i : Int) < (a.length : Int)) := by omega
      simp only [impl_field_automorph.l0, g1, if_false]
      rw [show i = a.length by omega] at ho
      rw [auI_end hl hGo ho]; exact Ev.now _
    | succ d ih =>
      intro i out hi ho
      have hol := ho.1
      have hil : i < a.length := by omega
      have hpos := pos_lt (n := a.length) (by omega) G i
      have hval := pos_val (a := a) hil hgh
      have hai := he.rd hp.pos (i : Int)
      refine ev_s ?_
      have g1 : (i : Int) < (a.length : Int) := by omega
      have g2 : (0 : Int) ≤ (i : Int) := by omega
      have g3 : ¬ (2 * (a.length : Int) = 0) := by omega
      have hig : 0 ≤ (i : Int) * (G : Int) ∧ (i : Int) * (G : Int) ≤ 1048576 := by
        have h3 : (i : Int) * (G : Int) ≤ 512 * 1024 := Int.mul_le_mul (by omega) (by omega) (by omega) (by omega)
        exact ⟨Int.mul_nonneg (by omega) (by omega), by omega⟩
      have em : Int.tmod (wrap64 ((i : Int) * (G : Int))) (2 * (a.length : Int)) = ((i * G % (2 * a.length) : Nat) : Int) := by
        rw [w64 (by omega) (by omega), tmod_nn hig.1, Int.natCast_emod, Int.natCast_mul, Int.natCast_mul]; rfl
      have hmm := Nat.mod_lt (i * G) (show 0 < 2 * a.length by omega)
      by_cases c : i * G % (2 * a.length) < a.length
      · have c1 : ((i * G % (2 * a.length) : Nat) : Int) < (a.length : Int) := by omega
        have c2 : (0 : Int) ≤ ((i * G % (2 * a.length) : Nat) : Int) := by omega
        have c3 : ((i * G % (2 * a.length) : Nat) : Int) < (out.length : Int) := by omega
        simp only [impl_field_automorph.l0, g1, g2, hw, g3, em, c1, c2, c3, if_true, if_false, w_succ (n := i) (by omega), Int.toNat_natCast]
        have hs := ih (i + 1) _ (by omega) (auI_step (v := rd a (i : Int)) ho hil (by rw [hval.1 c, em_id hai.1 hai.2]))
        have ep : pos a.length G i = i * G % (2 * a.length) := by unfold pos; rw [if_pos c]
        rw [ep] at hs
        exact hs
      · have c1 : ¬ (((i * G % (2 * a.length) : Nat) : Int) < (a.length : Int)) := by omega
        have ew : wrap64 (((i * G % (2 * a.length) : Nat) : Int) - (a.length : Int)) = ((i * G % (2 * a.length) - a.length : Nat) : Int) := by
          rw [w64 (by omega) (by omega)]; omega
        have c2 : (0 : Int) ≤ ((i * G % (2 * a.length) - a.length : Nat) : Int) := by omega
        have c3 : ((i * G % (2 * a.length) - a.length : Nat) : Int) < (out.length : Int) := by omega
        have hpp := hp.pos
        simp only [impl_field_automorph.l0, g1, g2, hw, g3, em, c1, if_true, if_false, ev_sub hp g t (a := 0) (by omega) hai, Option.bind_some, ew, c2, c3, w_succ (n := i) (by omega), Int.toNat_natCast]
        have hs := ih (i + 1) _ (by omega) (auI_step (v := (0 - rd a (i : Int)) % p) ho hil (by rw [hval.2 c, Int.zero_sub]))
        have ep : pos a.length G i = i * G % (2 * a.length) - a.length := by unfold pos; rw [if_neg c]
        rw [ep] at hs
        exact hs
  unfold impl_field_automorph.f
  have g1 : ¬ (2 * (a.length : Int) = 0) := by omega
  have g2 : (0 : Int) ≤ (a.length : Int) := by omega
  have hb := tmod_bounds (a := q) (p := 2 * (a.length : Int)) (by omega)
  have hb2 := tmod_add_emod (a := q) (p := 2 * (a.length : Int)) (by omega)
  simp only [hw, g1, g2, if_true, if_false, Int.toNat_natCast, show a.length ≤ 35184372088832 from by omega]
  rw [w64 (x := Int.tmod q (2 * (a.length : Int)) + 2 * (a.length : Int)) (by omega) (by omega), tmod_nn (a := Int.tmod q (2 * (a.length : Int)) + 2 * (a.length : Int)) (by omega), hb2, hG2]
  exact key a.length 0 _ (by omega) (auI_zero (by simp))
theorem tmod_two (q : Int) : Int.tmod q 2 = 0 ↔ q % 2 = 0 := by
  constructor
  · intro h; exact Int.emod_eq_zero_of_dvd (Int.dvd_of_tmod_eq_zero h)
  · intro h; exact Int.tmod_eq_zero_of_dvd (Int.dvd_of_emod_eq_zero h)

theorem ev_add {p : Int} (hp : Pm p) (g t : Int) {a b : Int} (ha : 0 ≤ a ∧ a < p) (hb : 0 ≤ b ∧ b < p) : impl_field_add.f p g t a b = some ((a + b) % p) := by
  unfold Pm at hp
  unfold impl_field_add.f
  rw [if_neg (by omega), w64 (by omega) (by omega), tmod_nn (by omega)]

theorem ev_fieldOf {f : Int} (h : 0 ≤ f ∧ f < 9) : impl_fieldOf.f f = some (md f, gn f, tp f, true) := by
  rcases fcases h.1 h.2 with e | e | e | e | e | e | e | e | e <;> subst e <;> rfl
theorem ev_fieldOf_bad {f : Int} (h : ¬ (0 ≤ f ∧ f < 9)) : impl_fieldOf.f f = some (0, 0, 0, false) := by
  unfold impl_fieldOf.f
  by_cases c : f < 0
  · rw [if_pos c]
  · rw [if_neg c, if_pos (by omega)]

theorem ev_logOf (n : Int) : Ev (fun k => impl_logOf.f k n) (lg n) := by
  have key : ∀ (d c : Nat), c + d = 10 → Ev (fun k => impl_logOf.l0 k n (c : Int)) (lgA n d c) := by
    intro d
    induction d with
    | zero =>
      intro c hc
      refine ev_s ?_
      have h1 : ¬ ((c : Int) < 10) := by omega
      simp only [impl_logOf.l0, h1, if_false]; exact Ev.now _
    | succ d ih =>
      intro c hc
      refine ev_s ?_
      have h1 : (c : Int) < 10 := by omega
      have h2 : (0 : Int) ≤ (c : Int) := by omega
      simp only [impl_logOf.l0, h1, h2, if_true, shl1 (c := c) (by omega), w_succ (n := c) (by omega)]
      unfold lgA
      by_cases h : n = ((2 ^ c : Nat) : Int)
      · rw [if_pos h]; simp only [if_pos h]; exact Ev.now _
      · rw [if_neg h]; simp only [if_neg h]; exact ih (c + 1) (by omega)
  exact key 10 0 rfl

theorem ev_areElements (p g t : Int) (l : List Int) (hl : l.length ≤ 35184372088832) : Ev (fun k => impl_field_areElements.f k p g t l) (elB p l) := by
  have key : ∀ (d i : Nat), i + d = l.length → Ev (fun k => impl_field_areElements.l0 k l (l.length : Int) (i : Int) p g t) (elB p (l.drop i)) := by
    intro d
    induction d with
    | zero =>
      intro i hi
      refine ev_s ?_
      have h1 : ¬ ((i : Int) < (l.length : Int)) := by omega
      simp only [impl_field_areElements.l0, h1, if_false]
      rw [List.drop_of_length_le (by omega)]
      exact Ev.now _
    | succ d ih =>
      intro i hi
      refine ev_s ?_
      have h1 : (i : Int) < (l.length : Int) := by omega
      have h2 : (0 : Int) ≤ (i : Int) := by omega
      simp only [impl_field_areElements.l0, h1, h2, if_true, w_succ (n := i) (by omega)]
      rw [elB_drop (by omega)]
      by_cases c1 : rd l (i : Int) < 0
      · simp only [c1, if_true, show decide (0 ≤ rd l (i : Int)) = false from decide_eq_false (by omega), Bool.false_and]
        exact Ev.now _
      · by_cases c2 : rd l (i : Int) ≥ p
        · simp only [c1, c2, if_true, if_false, show decide (rd l (i : Int) < p) = false from decide_eq_false (by omega), Bool.false_and, Bool.and_false]
          exact Ev.now _
        · simp only [c1, c2, if_false, show decide (0 ≤ rd l (i : Int)) = true from decide_eq_true (by omega), show decide (rd l (i : Int) < p) = true from decide_eq_true (by omega), Bool.true_and]
          exact ih (i + 1) (by omega)
  exact key l.length 0 (by omega)

theorem ev_vectorField1 {f : Int} {a : List Int} (h : VecOk f a) : Ev (fun k => impl_vectorField.f k f [a]) (md f, gn f, tp f, true) := by
  have hlg := h.lg
  have hn := h.len
  obtain ⟨hf, _, he⟩ := h
  unfold impl_vectorField.f
  have hl : (([a] : List (List Int)).length : Int) = 1 := rfl
  have hr : rd_L1 [a] 0 = a := rfl
  have n1 : ¬ (lg (a.length : Int) < 0) := by omega
  have n2 : ¬ (lg (a.length : Int) > tp f) := by omega
  simp only [ev_fieldOf hf, Option.bind_some, if_true, hl]
  refine ev_s ?_
  simp only [impl_vectorField.l0, hl, hr, show (0 : Int) < 1 from by decide, show (0 : Int) ≤ 0 from by decide, if_true]
  refine Ev.bind (ev_logOf _) ?_
  simp only [n1, n2, if_false]
  refine Ev.bind (ev_areElements _ _ _ a (by omega)) ?_
  simp only [elB_iff.2 he, if_true, w64 (x := 0 + 1) (by decide) (by decide)]
  refine ev_s ?_
  simp only [impl_vectorField.l0, hl, show ¬ ((0 : Int) + 1 < 1) from by decide, if_false]
  exact Ev.now _
theorem lg_small {n : Nat} (h : 0 ≤ lg (n : Int)) : n ≤ 512 := by
  rcases lg_cases (n : Int) with ⟨e, _⟩ | ⟨k, hk, _, e⟩
  · omega
  · have := two_pow_le hk; omega
theorem ev_vectorField1_bad {f : Int} {a : List Int} (h : ¬ VecOk f a) : Ev (fun k => impl_vectorField.f k f [a]) (0, 0, 0, false) := by
  unfold impl_vectorField.f
  by_cases hf : 0 ≤ f ∧ f < 9
  · have hl : (([a] : List (List Int)).length : Int) = 1 := rfl
    have hr : rd_L1 [a] 0 = a := rfl
    simp only [ev_fieldOf hf, Option.bind_some, if_true, hl]
    refine ev_s ?_
    simp only [impl_vectorField.l0, hl, hr, show (0 : Int) < 1 from by decide, show (0 : Int) ≤ 0 from by decide, if_true]
    refine Ev.bind (ev_logOf _) ?_
    by_cases n1 : lg (a.length : Int) < 0
    · simp only [n1, if_true]; exact Ev.now _
    by_cases n2 : lg (a.length : Int) > tp f
    · simp only [n1, n2, if_true, if_false]; exact Ev.now _
    simp only [n1, n2, if_false]
    have hs := lg_small (n := a.length) (by omega)
    refine Ev.bind (ev_areElements _ _ _ a (by omega)) ?_
    have he : elB (md f) a = false := by
      rw [← Bool.not_eq_true, elB_iff]
      intro he
      exact h (vec_of hf (by omega) (by omega) he)
    simp only [he, Bool.false_eq_true, if_false]
    exact Ev.now _
  · simp only [ev_fieldOf_bad hf, Option.bind_some, Bool.false_eq_true, if_false]
    exact Ev.now _

/-- The sum of the images by the first t odd powers. -/
def trS (p : Int) (t : Nat) (a : List Int) : List Int := (List.range a.length).map (fun c => sm t (fun i => sg a a.length (c * hv a.length (2 * i + 1))) % p)
theorem trS_len (p : Int) (t : Nat) (a : List Int) : (trS p t a).length = a.length := by simp [trS]
theorem trS_rd {p : Int} {t : Nat} {a : List Int} {c : Nat} (h : c < a.length) : rd (trS p t a) (c : Int) = sm t (fun i => sg a a.length (c * hv a.length (2 * i + 1))) % p := by unfold trS; rw [rd_map _ h]
theorem ev_iTrace {f : Int} {a : List Int} (h : VecOk f a) : Ev (fun k => impl_Trace.f k f a) (trS (md f) a.length a) := by
  obtain ⟨kk, hk, _, hl⟩ := h.2.1
  have hp := h.pm
  have hpp := hp.pos
  have h2 := two_pow_le hk
  have hw : wrap64 (2 * (a.length : Int)) = 2 * (a.length : Int) := w64 (by omega) (by omega)
  have inner : ∀ (t : Nat) (r : List Int), t < a.length → Ev (fun k => impl_Trace.l0 k a (trS (md f) (t + 1) a) ((2 * (t + 1) + 1 : Nat) : Int) (md f) (gn f) (tp f)) r → ∀ (d j : Nat) (out : List Int), j + d = a.length → out.length = a.length →
      (∀ c : Nat, c < j → rd out (c : Int) = rd (trS (md f) (t + 1) a) (c : Int)) → (∀ c : Nat, j ≤ c → c < a.length → rd out (c : Int) = rd (trS (md f) t a) (c : Int)) →
      Ev (fun k => impl_Trace.l1 k a out ((2 * t + 1 : Nat) : Int) (autS (md f) (2 * t + 1) a) ((autS (md f) (2 * t + 1) a).length : Int) (j : Int) (md f) (gn f) (tp f)) r := by
    intro t r ht hr d
    induction d with
    | zero =>
      intro j out hj ho h1 h3
      refine ev_s ?_
      have g1 : ¬ ((j : Int) < ((autS (md f) (2 * t + 1) a).length : Int)) := by rw [autS_len]; omega
      simp only [impl_Trace.l1, g1, if_false]
      rw [show wrap64 (((2 * t + 1 : Nat) : Int) + 2) = ((2 * (t + 1) + 1 : Nat) : Int) by rw [w64 (by omega) (by omega)]; omega]
      have e : out = trS (md f) (t + 1) a := ext_rd (by rw [trS_len, ho]) (fun c hc => h1 c (by omega))
      rw [e]; exact hr
    | succ d ih =>
      intro j out hj ho h1 h3
      refine ev_s ?_
      have g1 : (j : Int) < ((autS (md f) (2 * t + 1) a).length : Int) := by rw [autS_len]; omega
      have g2 : (0 : Int) ≤ (j : Int) := by omega
      have g3 : (j : Int) < (out.length : Int) := by omega
      have e1 := h3 j (Nat.le_refl _) (by omega)
      rw [trS_rd (by omega)] at e1
      have b1 : 0 ≤ rd out (j : Int) ∧ rd out (j : Int) < md f := by rw [e1]; exact em_lt hpp
      have b2 := (autS_el hpp (2 * t + 1) a).rd hpp (j : Int)
      simp only [impl_Trace.l1, g1, g2, g3, if_true, ev_add hp _ _ b1 b2, Option.bind_some, w_succ (n := j) (by omega), Int.toNat_natCast]
      refine ih (j + 1) _ (by omega) (by rw [List.length_set]; exact ho) (fun c hc => ?_) (fun c hc hc2 => ?_)
      · by_cases q : j = c
        · subst q
          rw [rd_set_eq (by omega), e1, autS_rd (by omega), trS_rd (by omega), sm_succ, eadd_l, eadd_r]
        · rw [rd_set_ne q]; exact h1 c (by omega)
      · rw [rd_set_ne (by omega)]; exact h3 c (by omega) hc2
  have outer : ∀ (d t : Nat), t + d = a.length → Ev (fun k => impl_Trace.l0 k a (trS (md f) t a) ((2 * t + 1 : Nat) : Int) (md f) (gn f) (tp f)) (trS (md f) a.length a) := by
    intro d
    induction d with
    | zero =>
      intro t ht
      refine ev_s ?_
      have g1 : ¬ (((2 * t + 1 : Nat) : Int) < 2 * (a.length : Int)) := by omega
      simp only [impl_Trace.l0, hw, g1, if_false]
      rw [show t = a.length by omega]; exact Ev.now _
    | succ d ih =>
      intro t ht
      refine ev_s ?_
      have g1 : ((2 * t + 1 : Nat) : Int) < 2 * (a.length : Int) := by omega
      simp only [impl_Trace.l0, hw, g1, if_true]
      have ha := ev_automorph hp (gn f) (tp f) hk hl h.2.2 (q := ((2 * t + 1 : Nat) : Int)) (by omega)
      rw [show (((2 * t + 1 : Nat) : Int) % (2 * (a.length : Int))).toNat = 2 * t + 1 by rw [em_id (by omega) (by omega), Int.toNat_natCast]] at ha
      refine Ev.bind ha ?_
      exact inner t _ (by omega) (ih (t + 1) (by omega)) a.length 0 _ (by omega) (trS_len _ _ _) (fun c hc => by omega) (fun c _ hc => rfl)
  unfold impl_Trace.f
  refine Ev.bind (ev_vectorField1 h) ?_
  have g2 : (0 : Int) ≤ (a.length : Int) := by omega
  simp only [if_true, g2, Int.toNat_natCast, show a.length ≤ 35184372088832 from by omega]
  have e0 : List.replicate a.length 0 = trS (md f) 0 a := ext_rd (by rw [trS_len]; simp) (fun c hc => by
    rw [List.length_replicate] at hc
    rw [trS_rd hc, sm_zero, Int.zero_emod, rd_rep])
  rw [e0]
  exact outer a.length 0 (by omega)
theorem ev_iTrace_bad {f : Int} {a : List Int} (h : ¬ VecOk f a) : Ev (fun k => impl_Trace.f k f a) [] := by
  unfold impl_Trace.f
  refine Ev.bind (ev_vectorField1_bad h) ?_
  simp only [Bool.false_eq_true, if_false]; exact Ev.now _

theorem FnExactTrace : laws_FnExactTrace.Pure := by
  intro f l hf hl hl8 hwl
  refine Ev.rounds ?_
  unfold laws_FnExactTrace.f
  by_cases hbig : (l.length : Int) > 1048576
  · simp only [hbig, if_true]; exact Ev.now _
  simp only [hbig, if_false]
  have hll : l.length ≤ 35184372088832 := by omega
  obtain ⟨R, hR1, hR2, hRl⟩ : ∃ R, Ev (fun k => spec_Trace.f k f l) R ∧ Ev (fun k => impl_Trace.f k f l) R ∧ R.length ≤ 1048576 := by
    by_cases h : VecOk f l
    · refine ⟨_, ?_, ev_iTrace h, by rw [trS_len]; omega⟩
      have hn := h.len
      obtain ⟨kk, hk, _, hlk⟩ := h.2.1
      unfold spec_Trace.f
      refine Ev.bind (ev_VectorOk h) ?_
      have g1 : 0 < (l.length : Int) := by omega
      simp only [if_true, g1, ev_Mul h.1, Option.bind_some]
      have e1 : trS (md f) l.length l = ((l.length : Int) * rd l 0 % md f) :: List.replicate (l.length - 1) 0 := by
        refine ext_rd (by rw [trS_len]; simp; omega) (fun c hc => ?_)
        rw [trS_len] at hc
        have ht := tr_sum (a := l) (k := kk) (c := c) (by omega)
        rw [← hlk] at ht
        rw [trS_rd hc, ht]
        by_cases c0 : c = 0
        · subst c0; rw [if_pos rfl]; rfl
        · rw [if_neg c0, Int.zero_emod]
          obtain ⟨m, rfl⟩ : ∃ m, c = m + 1 := ⟨c - 1, by omega⟩
          have : rd (((l.length : Int) * rd l 0 % md f) :: List.replicate (l.length - 1) 0) ((m + 1 : Nat) : Int) = rd (List.replicate (l.length - 1) 0) (m : Int) := by
            simp only [rd, Int.toNat_natCast, List.getD_cons_succ]
          rw [this, rd_rep]
      rw [e1]
      have key : ∀ (d c : Nat) (out : List Int), c + d = l.length → 1 ≤ c → out = ((l.length : Int) * rd l 0 % md f) :: List.replicate (c - 1) 0 → Ev (fun k => spec_Trace.l0 k l out (c : Int)) (((l.length : Int) * rd l 0 % md f) :: List.replicate (l.length - 1) 0) := by
        intro d
        induction d with
        | zero =>
          intro c out hc h1 ho
          refine ev_s ?_
          have g : ¬ ((c : Int) < (l.length : Int)) := by omega
          simp only [spec_Trace.l0, g, if_false]
          rw [ho, show c = l.length by omega]; exact Ev.now _
        | succ d ih =>
          intro c out hc h1 ho
          refine ev_s ?_
          have g : (c : Int) < (l.length : Int) := by omega
          have g2 : out.length < 17592186044416 := by subst ho; simp; omega
          simp only [spec_Trace.l0, g, g2, if_true, w_succ (n := c) (by omega)]
          refine ih (c + 1) _ (by omega) (by omega) ?_
          obtain ⟨m, rfl⟩ : ∃ m, c = m + 1 := ⟨c - 1, by omega⟩
          rw [ho, show m + 1 + 1 - 1 = m + 1 by omega, show m + 1 - 1 = m by omega, List.replicate_succ', List.cons_append]
      exact key (l.length - 1) 1 _ (by omega) (by omega) rfl
    · refine ⟨[], ?_, ev_iTrace_bad h, by simp⟩
      unfold spec_Trace.f
      refine Ev.bind (ev_VectorOk_bad h) ?_
      simp only [Bool.false_eq_true, if_false]; exact Ev.now _
  have nR : ¬ ((1 : Int) + (R.length : Int) < 0) := by omega
  have nL : ¬ ((1 : Int) + (l.length : Int) < 0) := by omega
  repeat first
    | exact Ev.now _
    | refine Ev.bind hR1 ?_
    | refine Ev.bind hR2 ?_
    | refine Ev.bind (ev_toIntS l hll) ?_
    | refine Ev.bind (ev_eqIntS l (by omega)) ?_
    | refine Ev.bind (ev_eqIntS R (by omega)) ?_
    | refine Ev.bind (ev_mark l (1) (by omega) (by omega) (by omega)) ?_
    | refine Ev.bind (ev_mark R 1 (by omega) (by omega) (by omega)) ?_
    | refine Ev.bind (ev_held R.length 1 (by omega) (by omega) (by omega)) ?_
    | simp only [if_true, nR, nL, if_false, bne_self_eq_false, Bool.false_eq_true, Bool.not_true]
    | (refine ev_s ?_; simp only [laws_FnExactTrace.j0])

end Go.Proofs.Ytiihnfkflidddaa.Pure
