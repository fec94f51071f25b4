/- FnExactDigitParts returns true for all arguments: both give the same rows of digits, and the program's are its own. -/
import Derived.Test.YtgjogfohknjpmaaPFnExactDigitPartsx6
import Derived.Test.YtgjogfohknjpmaaGB
import Derived.Test.YtgjogfohknjpmaaGD
set_option linter.unusedVariables false
set_option linter.unusedSimpArgs false
namespace Go.Proofs.Ytgjogfohknjpmaa.Pure
open Go.RowKit Go.Proofs.Ytgjogfohknjpmaa.PFnExactDigitParts Go.Proofs.YtgjogfohknjpmaaW.PrintWords Go.Proofs.YtgjogfohknjpmaaW.PrintLast Go.Proofs.YtgjogfohknjpmaaW.PrintMore G7
theorem ev_toIntS (l : List Int) (hl : l.length ≤ 35184372088832) : Ev (fun k => laws_toIntS.f k l) l := by
  have key : ∀ (d i : Nat) (out : List Int), i + d = l.length → out.length = l.length → (∀ j : Nat, j < i → rd out (j : Int) = rd l (j : Int)) → Ev (fun k => laws_toIntS.l0 k l out (i : Int)) l := by
    intro d
    induction d with
    | zero =>
      intro i out hi ho hx
      refine ev_s ?_
      have h1 : ¬ ((i : Int) < (l.length : Int)) := by omega
      simp only [laws_toIntS.l0, h1, if_false]
      rw [ext_rd ho (fun j hj => hx j (by omega))]
      exact Ev.now _
    | succ d ih =>
      intro i out hi ho hx
      refine ev_s ?_
      have h1 : (i : Int) < (l.length : Int) := by omega
      have h2 : (0 : Int) ≤ (i : Int) := by omega
      have h3 : (i : Int) < (out.length : Int) := by omega
      simp only [laws_toIntS.l0, h1, h2, h3, if_true, w_succ (n := i) (by omega), Int.toNat_natCast]
      refine ih (i + 1) _ (by omega) (by rw [List.length_set]; exact ho) (fun j hj => ?_)
      by_cases c : i = j
      · subst c; rw [rd_set_eq (by omega)]
      · rw [rd_set_ne c]; exact hx j (by omega)
  unfold laws_toIntS.f
  have h1 : (0 : Int) ≤ (l.length : Int) := by omega
  simp only [h1, if_true, Int.toNat_natCast, hl]
  exact key l.length 0 _ (by omega) (by simp) (fun j hj => by omega)

theorem ev_eqIntS (l : List Int) (hl : l.length ≤ 35184372088832) : Ev (fun k => laws_eqIntS.f k l l) true := by
  have key : ∀ (d i : Nat), i + d = l.length → Ev (fun k => laws_eqIntS.l0 k l l (i : Int)) true := by
    intro d
    induction d with
    | zero =>
      intro i hi
      refine ev_s ?_
      have h1 : ¬ ((i : Int) < (l.length : Int)) := by omega
      simp only [laws_eqIntS.l0, h1, if_false]
      exact Ev.now _
    | succ d ih =>
      intro i hi
      refine ev_s ?_
      have h1 : (i : Int) < (l.length : Int) := by omega
      have h2 : (0 : Int) ≤ (i : Int) := by omega
      simp only [laws_eqIntS.l0, h1, h2, if_true, w_succ (n := i) (by omega)]
      exact ih (i + 1) (by omega)
  unfold laws_eqIntS.f
  simp only [if_true]
  exact key l.length 0 (by omega)

/-- What markIntS leaves. -/
def marks (n : Nat) (m : Int) : List Int := (List.range n).map (fun i => m + (i : Nat))
theorem marks_len (n : Nat) (m : Int) : (marks n m).length = n := by simp [marks]
theorem marks_rd {n i : Nat} (m : Int) (h : i < n) : rd (marks n m) (i : Int) = m + i := by unfold marks; rw [rd_map _ h]
theorem ev_mark (l : List Int) (m : Int) (hl : l.length ≤ 35184372088832) (h0 : 0 ≤ m) (h1 : m ≤ 4611686018427387904) : Ev (fun k => laws_markIntS.f k l m) (m + l.length, marks l.length m) := by
  have key : ∀ (d i : Nat) (out : List Int), i + d = l.length → out.length = l.length → (∀ j : Nat, j < i → rd out (j : Int) = m + j) → Ev (fun k => laws_markIntS.l0 k out (m + i) (i : Int)) (m + l.length, marks l.length m) := by
    intro d
    induction d with
    | zero =>
      intro i out hi ho hx
      refine ev_s ?_
      have g1 : ¬ ((i : Int) < (out.length : Int)) := by omega
      simp only [laws_markIntS.l0, g1, if_false]
      have e : out = marks l.length m := ext_rd (by rw [marks_len, ho]) (fun j hj => by rw [marks_rd m (by omega)]; exact hx j (by omega))
      rw [e, show i = l.length by omega]
      exact Ev.now _
    | succ d ih =>
      intro i out hi ho hx
      refine ev_s ?_
      have g1 : (i : Int) < (out.length : Int) := by omega
      have g2 : (0 : Int) ≤ (i : Int) := by omega
      simp only [laws_markIntS.l0, g1, g2, if_true, w_succ (n := i) (by omega), Int.toNat_natCast, w64 (x := m + (i : Int) + 1) (by omega) (by omega)]
      rw [show m + (i : Int) + 1 = m + ((i + 1 : Nat) : Int) by omega]
      refine ih (i + 1) _ (by omega) (by rw [List.length_set]; exact ho) (fun j hj => ?_)
      by_cases c : i = j
      · subst c; rw [rd_set_eq (by omega)]
      · rw [rd_set_ne c]; exact hx j (by omega)
  unfold laws_markIntS.f
  have := key l.length 0 l (by omega) rfl (fun j hj => by omega)
  simpa using this
theorem ev_held (n : Nat) (m : Int) (hl : n ≤ 35184372088832) (h0 : 0 ≤ m) (h1 : m ≤ 4611686018427387904) : Ev (fun k => laws_heldIntS.f k (marks n m) m) (m + n) := by
  have key : ∀ (d i : Nat), i + d = n → Ev (fun k => laws_heldIntS.l0 k (marks n m) (m + i) (i : Int)) (m + n) := by
    intro d
    induction d with
    | zero =>
      intro i hi
      refine ev_s ?_
      have g1 : ¬ ((i : Int) < ((marks n m).length : Int)) := by rw [marks_len]; omega
      simp only [laws_heldIntS.l0, g1, if_false]
      rw [show i = n by omega]
      exact Ev.now _
    | succ d ih =>
      intro i hi
      refine ev_s ?_
      have g1 : (i : Int) < ((marks n m).length : Int) := by rw [marks_len]; omega
      have g2 : (0 : Int) ≤ (i : Int) := by omega
      simp only [laws_heldIntS.l0, g1, g2, if_true, marks_rd m (show i < n by omega), w_succ (n := i) (by omega), w64 (x := m + (i : Int) + 1) (by omega) (by omega)]
      rw [show m + (i : Int) + 1 = m + ((i + 1 : Nat) : Int) by omega]
      exact ih (i + 1) (by omega)
  unfold laws_heldIntS.f
  have := key n 0 (by omega)
  simpa using this

/-- The digits of the elements in `n` rows, the least ahead. -/
def dpS (b : Int) : Nat → List Int → List (List Int)
  | 0, _ => []
  | n + 1, v => v.map (fun x => x % b) :: dpS b n (v.map (fun x => x / b))
theorem dpS_len (b : Int) : ∀ (n : Nat) (v : List Int), (dpS b n v).length = n
  | 0, _ => rfl
  | n + 1, v => by show (dpS b n _).length + 1 = n + 1; rw [dpS_len b n]
/-- Elements that no quotient takes out of the numbers. -/
def Sm (v : List Int) : Prop := ∀ x ∈ v, 0 ≤ x ∧ x < 4611686018427387904
theorem Sm.div {v : List Int} (h : Sm v) {b : Int} (hb : 0 < b) : Sm (v.map (fun x => x / b)) := by
  intro y hy
  rw [List.mem_map] at hy
  obtain ⟨x, hx, rfl⟩ := hy
  have := h x hx
  have h1 : 0 ≤ x / b := Int.ediv_nonneg this.1 (by omega)
  have h2 : x / b ≤ x := Int.ediv_le_self _ this.1
  omega
theorem Sm.of {v : List Int} {p : Int} (h : El p v) (hp : Pm p) : Sm v := fun x hx => by
  have := h x hx
  unfold Pm at hp
  omega
theorem part_rd {A v : List Int} {i : Nat} (hA : A.length = i) (hi : i < v.length) : rd (A ++ v.drop i) (i : Int) = rd v (i : Int) := by
  subst hA
  unfold rd
  rw [Int.toNat_natCast, List.getD_eq_getElem?_getD, List.getD_eq_getElem?_getD, List.getElem?_append_right (Nat.le_refl _), Nat.sub_self, List.getElem?_drop, Nat.add_zero]
theorem part_set {A v : List Int} {i : Nat} (hA : A.length = i) (hi : i < v.length) (x : Int) : (A ++ v.drop i).set i x = A ++ [x] ++ v.drop (i + 1) := by
  subst hA
  rw [List.drop_eq_getElem_cons hi, List.set_append_right _ _ (Nat.le_refl _), Nat.sub_self, List.set_cons_zero, List.append_assoc]
  rfl
theorem take_map_snoc {v : List Int} {i : Nat} (hi : i < v.length) (h : Int → Int) : (v.take i).map h ++ [h (rd v (i : Int))] = (v.take (i + 1)).map h := by
  rw [rd_at hi, ← List.take_append_getElem hi, List.map_append]
  rfl
theorem take_map_len {v : List Int} {i : Nat} (hi : i ≤ v.length) (h : Int → Int) : ((v.take i).map h).length = i := by
  rw [List.length_map, List.length_take]; omega
/-- Both DigitParts. -/
def dpOk (f : Int) (v : List Int) (b c : Int) : Prop := VecOk f v ∧ (2 ≤ b ∧ b ≤ 65536) ∧ (1 ≤ c ∧ c ≤ 32)
theorem pw_mono {b : Int} (hb : 1 ≤ b) (d : Nat) : ∀ n : Nat, b ^ d ≤ b ^ (d + n)
  | 0 => Int.le_refl _
  | n + 1 => by
    have ih := pw_mono hb d n
    have h0 : 0 ≤ b ^ (d + n) := Int.pow_nonneg (by omega)
    have : b ^ (d + (n + 1)) = b ^ (d + n) * b := Int.pow_succ _ _
    rw [this]
    have := Int.mul_le_mul_of_nonneg_left hb h0
    omega

theorem ev_LogOf (n : Int) : Ev (fun k => spec_LogOf.f k n) (lg n) := by
  have key : ∀ (d c : Nat), c + d = 10 → Ev (fun k => spec_LogOf.l0 k n (c : Int)) (lgA n d c) := by
    intro d
    induction d with
    | zero =>
      intro c hc
      refine ev_s ?_
      have h1 : ¬ ((c : Int) ≤ 9) := by omega
      simp only [spec_LogOf.l0, h1, if_false]; exact Ev.now _
    | succ d ih =>
      intro c hc
      refine ev_s ?_
      have h1 : (c : Int) ≤ 9 := by omega
      have h2 : (0 : Int) ≤ (c : Int) := by omega
      simp only [spec_LogOf.l0, h1, u64_id (x := (c : Int)) (by omega) (by omega), h2, if_true, shl1 (c := c) (by omega), w_succ (n := c) (by omega)]
      unfold lgA
      by_cases h : n = ((2 ^ c : Nat) : Int)
      · rw [if_pos h]; simp only [if_pos h]; exact Ev.now _
      · rw [if_neg h]; simp only [if_neg h]; exact ih (c + 1) (by omega)
  exact key 10 0 rfl

theorem ev_Modulus (f : Int) : spec_Modulus.f f = some (md f) := by
  unfold spec_Modulus.f md
  by_cases h0 : f = 0
  · rw [if_pos h0, if_pos h0]
  rw [if_neg h0, if_neg h0]
  by_cases h1 : f = 1
  · rw [if_pos h1, if_pos h1]
  rw [if_neg h1, if_neg h1]
  by_cases h2 : f = 2
  · rw [if_pos h2, if_pos h2]
  rw [if_neg h2, if_neg h2]
  by_cases h3 : f = 3
  · rw [if_pos h3, if_pos h3]
  rw [if_neg h3, if_neg h3]
  by_cases h4 : f = 4
  · rw [if_pos h4, if_pos h4]
  rw [if_neg h4, if_neg h4]
  by_cases h5 : f = 5
  · rw [if_pos h5, if_pos h5]
  rw [if_neg h5, if_neg h5]
  by_cases h6 : f = 6
  · rw [if_pos h6, if_pos h6]
  rw [if_neg h6, if_neg h6]
  by_cases h7 : f = 7
  · rw [if_pos h7, if_pos h7]
  rw [if_neg h7, if_neg h7]
  by_cases h8 : f = 8
  · rw [if_pos h8, if_pos h8]
  rw [if_neg h8, if_neg h8]

theorem ev_TwoPower (f : Int) : Ev (fun k => spec_TwoPower.f k f) (tp f) := by
  unfold spec_TwoPower.f
  simp only [ev_Modulus, Option.bind_some]
  by_cases h : 0 ≤ f ∧ f < 9
  · have hp := pm_of h
    unfold Pm at hp
    obtain ⟨e1, e2, e3, e4, e5⟩ := oddP_spec h
    simp only [show ¬ (md f = 0) from by omega, if_false, w64 (x := md f - 1) (by omega) (by omega)]
    have key : ∀ (t : Nat) (c : Int), 0 ≤ c → c + t ≤ 100 → oddP f * ((2 ^ t : Nat) : Int) ≤ md f - 1 → Ev (fun k => spec_TwoPower.l0 k c (oddP f * ((2 ^ t : Nat) : Int))) (c + t) := by
      intro t
      induction t with
      | zero =>
        intro c hc hct hb
        refine ev_s ?_
        rw [Nat.pow_zero, Int.natCast_one, Int.mul_one] at *
        have h1 : ¬ (Int.tmod (oddP f) 2 = 0) := by rw [tmod_nn (by omega)]; omega
        simp only [spec_TwoPower.l0, h1, if_false, Int.natCast_zero, Int.add_zero]; exact Ev.now _
      | succ t ih =>
        intro c hc hct hb
        have e : oddP f * ((2 ^ (t + 1) : Nat) : Int) = 2 * (oddP f * ((2 ^ t : Nat) : Int)) := by
          rw [Nat.pow_succ, Int.natCast_mul, ← Int.mul_assoc, Int.mul_comm]; rfl
        have hq : 0 ≤ oddP f * ((2 ^ t : Nat) : Int) := Int.mul_nonneg (by omega) (Int.natCast_nonneg _)
        rw [e] at hb ⊢
        have hs := ih (c + 1) (by omega) (by omega) (by omega)
        generalize oddP f * ((2 ^ t : Nat) : Int) = q at *
        refine ev_s ?_
        have h1 : Int.tmod (2 * q) 2 = 0 := by rw [tmod_nn (by omega)]; omega
        have h2 : wrap64 (Int.tdiv (2 * q) 2) = q := by
          rw [Int.tdiv_eq_ediv_of_nonneg (by omega), w64 (by omega) (by omega)]; omega
        simp only [spec_TwoPower.l0, h1, h2, if_true, w64 (x := c + 1) (by omega) (by omega)]
        exact ev_to hs (by omega)
    have := key (tp f).toNat 0 (by omega) (by omega) (by omega)
    rw [← e1] at this
    exact ev_to this (by omega)
  · simp only [md_bad h, if_true]
    rw [tp_bad h]; exact Ev.now _

theorem ev_l01In (x a b : Int) : spec_l01In.f x a b = some (decide (a ≤ x) && decide (x ≤ b)) := by
  unfold spec_l01In.f
  by_cases h : a ≤ x
  · rw [if_pos h, decide_eq_true h, Bool.true_and]
  · rw [if_neg h, decide_eq_false h, Bool.false_and]

theorem ev_l03Elements {f : Int} (h : 0 ≤ f ∧ f < 9) (l : List Int) (hl : l.length ≤ 35184372088832) : Ev (fun k => spec_l03Elements.f k f l) (elB (md f) l) := by
  have hp := pm_of h
  unfold Pm at hp
  have key : ∀ (d i : Nat), i + d = l.length → Ev (fun k => spec_l03Elements.l0 k l (md f) (i : Int)) (elB (md f) (l.drop i)) := by
    intro d
    induction d with
    | zero =>
      intro i hi
      refine ev_s ?_
      have h1 : ¬ ((i : Int) < (l.length : Int)) := by omega
      simp only [spec_l03Elements.l0, h1, if_false]
      rw [List.drop_of_length_le (by omega)]
      exact Ev.now _
    | succ d ih =>
      intro i hi
      refine ev_s ?_
      have h1 : (i : Int) < (l.length : Int) := by omega
      have h2 : (0 : Int) ≤ (i : Int) := by omega
      simp only [spec_l03Elements.l0, h1, h2, if_true, w_succ (n := i) (by omega), w64 (x := md f - 1) (by omega) (by omega), ev_l01In, Option.bind_some]
      rw [elB_drop (by omega)]
      rw [show decide (rd l (i : Int) < md f) = decide (rd l (i : Int) ≤ md f - 1) from decide_eq_decide.2 (by omega)]
      by_cases c : (decide (0 ≤ rd l (i : Int)) && decide (rd l (i : Int) ≤ md f - 1)) = true
      · simp only [c, if_true, Bool.true_and]
        exact ih (i + 1) (by omega)
      · simp only [Bool.not_eq_true] at c
        simp only [c, Bool.false_and, Bool.false_eq_true, if_false]
        exact Ev.now _
  unfold spec_l03Elements.f
  simp only [ev_Modulus, Option.bind_some]
  have h0 : ¬ (md f = 0) := by omega
  simp only [h0, if_false]
  exact key l.length 0 (by omega)
theorem ev_l03Elements_bad {f : Int} (h : ¬ (0 ≤ f ∧ f < 9)) (l : List Int) : Ev (fun k => spec_l03Elements.f k f l) false := by
  unfold spec_l03Elements.f
  simp only [ev_Modulus, Option.bind_some, md_bad h, if_true]
  exact Ev.now _

theorem ev_VectorOk {f : Int} {v : List Int} (h : VecOk f v) : Ev (fun k => spec_VectorOk.f k f v) true := by
  have hl := h.lg
  have hn := h.len
  unfold spec_VectorOk.f
  refine Ev.bind (ev_LogOf _) ?_
  have h1 : lg (v.length : Int) ≥ 0 := hl.1
  simp only [h1, if_true]
  refine Ev.bind (ev_TwoPower f) ?_
  simp only [hl.2, if_true]
  refine Ev.bind (ev_l03Elements h.1 v (by omega)) ?_
  rw [elB_iff.2 h.2.2]; exact Ev.now _
theorem ev_VectorOk_bad {f : Int} {v : List Int} (h : ¬ VecOk f v) : Ev (fun k => spec_VectorOk.f k f v) false := by
  unfold spec_VectorOk.f
  refine Ev.bind (ev_LogOf _) ?_
  by_cases h1 : lg (v.length : Int) ≥ 0
  · simp only [h1, if_true]
    refine Ev.bind (ev_TwoPower f) ?_
    have hn : v.length ≤ 512 := by
      rcases lg_cases (v.length : Int) with ⟨e, _⟩ | ⟨k, hk, _, e⟩
      · omega
      · have := two_pow_le hk; omega
    by_cases h2 : lg (v.length : Int) ≤ tp f
    · simp only [h2, if_true]
      by_cases hf : 0 ≤ f ∧ f < 9
      · refine Ev.bind (ev_l03Elements hf v (by omega)) ?_
        have he : elB (md f) v = false := by
          rw [← Bool.not_eq_true, elB_iff]
          intro he
          exact h (vec_of hf h1 h2 he)
        rw [he]; exact Ev.now _
      · refine Ev.bind (ev_l03Elements_bad hf v) ?_
        exact Ev.now _
    · simp only [h2, if_false]; exact Ev.now _
  · simp only [h1, if_false]; exact Ev.now _

theorem ev_l01Copy (l : List Int) (hl : l.length ≤ 17592186044416) : Ev (fun k => spec_l01Copy.f k l) l := by
  have key : ∀ (d i : Nat), i + d = l.length → Ev (fun k => spec_l01Copy.l0 k l (l.take i) (i : Int)) l := by
    intro d
    induction d with
    | zero =>
      intro i hi
      refine ev_s ?_
      have g1 : ¬ ((i : Int) < (l.length : Int)) := by omega
      simp only [spec_l01Copy.l0, g1, if_false]
      rw [List.take_of_length_le (by omega)]; exact Ev.now _
    | succ d ih =>
      intro i hi
      refine ev_s ?_
      have g1 : (i : Int) < (l.length : Int) := by omega
      have g2 : (0 : Int) ≤ (i : Int) := by omega
      have g3 : (l.take i).length < 17592186044416 := by rw [List.length_take]; omega
      simp only [spec_l01Copy.l0, g1, g2, g3, if_true, w_succ (n := i) (by omega)]
      rw [rd_at (show i < l.length by omega), List.take_append_getElem (show i < l.length by omega)]
      exact ih (i + 1) (by omega)
  exact key l.length 0 (by omega)

theorem ev_l08Base (b : Int) : spec_l08Base.f b = some (decide (2 ≤ b) && decide (b ≤ 65536)) := by
  unfold spec_l08Base.f
  rw [ev_l01In]; rfl
theorem ev_sDP2 {b c : Int} (hb : 2 ≤ b) {v : List Int} (hv : Sm v) (hl : v.length ≤ 512) {out : List (List Int)} (ho : out.length < 100) {d : Int} {r : (List (List Int)) × Bool}
    (hn : Ev (fun k => spec_DigitParts.l1 k b c (out ++ [v.map (fun x => x % b)]) (v.map (fun x => x / b)) (wrap64 (d + 1))) r) :
    ∀ n i : Nat, i + n = v.length → Ev (fun k => spec_DigitParts.l2 k b c out ((v.take i).map (fun x => x / b) ++ v.drop i) d ((v.take i).map (fun x => x % b)) (i : Int)) r := by
  intro n
  induction n with
  | zero =>
    intro i e
    refine ev_s ?_
    have g1 : ¬ ((i : Int) < (((v.take i).map (fun x => x / b) ++ v.drop i).length : Int)) := by
      rw [List.length_append, take_map_len (by omega), List.length_drop]; omega
    have g2 : out.length < 5864062014805 := by omega
    simp only [spec_DigitParts.l2, if_neg g1, if_pos g2]
    rw [List.take_of_length_le (by omega), List.drop_eq_nil_of_le (by omega), List.append_nil]
    exact hn
  | succ n ih =>
    intro i e
    have hi : i < v.length := by omega
    have hh := ih (i + 1) (by omega)
    have hA := take_map_len (v := v) (i := i) (by omega) (fun x => x / b)
    refine ev_s ?_
    have g1 : ((i : Int) < (((v.take i).map (fun x => x / b) ++ v.drop i).length : Int)) := by
      rw [List.length_append, hA, List.length_drop]; omega
    have g2 : (0 : Int) ≤ (i : Int) := by omega
    have g3 : ¬ (b = 0) := by omega
    have g4 : ((v.take i).map (fun x => x % b)).length < 17592186044416 := by rw [take_map_len (by omega)]; omega
    have hx := hv (rd v (i : Int)) (by rw [rd_at hi]; exact List.getElem_mem hi)
    have e1 : Int.tdiv (rd v (i : Int)) b = rd v (i : Int) / b := Int.tdiv_eq_ediv_of_nonneg hx.1
    have h1 : 0 ≤ rd v (i : Int) / b := Int.ediv_nonneg hx.1 (by omega)
    have h2 : rd v (i : Int) / b ≤ rd v (i : Int) := Int.ediv_le_self _ hx.1
    simp only [spec_DigitParts.l2, if_pos g1, if_pos g2, if_neg g3, if_pos g4, part_rd hA hi, Int.toNat_natCast]
    rw [part_set hA hi, tmod_nn hx.1, e1, w64 (by omega) (by omega), w_succ (by omega), take_map_snoc hi (fun x => x / b), take_map_snoc hi (fun x => x % b)]
    exact hh
theorem ev_sDP1 {b c : Int} (hb : 2 ≤ b) (hc : c ≤ 32) : ∀ (n i : Nat), (i : Int) + n = c → ∀ v : List Int, Sm v → v.length ≤ 512 → ∀ out : List (List Int), out.length = i →
    Ev (fun k => spec_DigitParts.l1 k b c out v (i : Int)) (out ++ dpS b n v, true) := by
  intro n
  induction n with
  | zero =>
    intro i e v hv hl out ho
    refine ev_s ?_
    have g1 : ¬ ((i : Int) < c) := by omega
    simp only [spec_DigitParts.l1, if_neg g1, dpS, List.append_nil]
    exact Ev.now _
  | succ n ih =>
    intro i e v hv hl out ho
    refine ev_s ?_
    have g1 : ((i : Int) < c) := by omega
    simp only [spec_DigitParts.l1, if_pos g1]
    have hh := ih (i + 1) (by omega) (v.map (fun x => x / b)) (hv.div (by omega)) (by rw [List.length_map]; exact hl) (out ++ [v.map (fun x => x % b)]) (by rw [List.length_append, ho]; rfl)
    rw [List.append_assoc] at hh
    refine ev_sDP2 hb hv hl (by omega) ?_ v.length 0 (by omega)
    rw [w_succ (by omega)]
    exact hh
theorem ev_sDPj2 {f b c : Int} {v : List Int} (h : dpOk f v b c) (R : Int) : Ev (fun k => spec_DigitParts.j2 k f v b c R) (if R < md f then ([], false) else (dpS b c.toNat v, true)) := by
  obtain ⟨hv, hb, hc⟩ := h
  have hl := hv.len
  refine ev_s ?_
  simp only [spec_DigitParts.j2]
  refine Ev.bind (ev_c (ev_Modulus f)) ?_
  by_cases g : R < md f
  · simp only [if_pos g]; exact Ev.now _
  · simp only [if_neg g]
    refine Ev.bind (ev_l01Copy v (by omega)) ?_
    exact ev_sDP1 hb.1 hc.2 c.toNat 0 (by omega) v (Sm.of hv.2.2 hv.pm) hl.2 [] rfl
theorem ev_sDP0 {f b c : Int} {v : List Int} (h : dpOk f v b c) : ∀ n d : Nat, (d : Int) + n = c →
    Ev (fun k => spec_DigitParts.l0 k f v b c (b ^ d) (d : Int)) (if b ^ c.toNat < md f then ([], false) else (dpS b c.toNat v, true)) := by
  have hp := h.1.pm
  unfold Pm at hp
  obtain ⟨_, hb, hc⟩ := id h
  intro n
  induction n with
  | zero =>
    intro d e
    refine ev_s ?_
    have g1 : ¬ ((d : Int) < c) := by omega
    simp only [spec_DigitParts.l0, if_neg g1]
    have hd : c.toNat = d := by omega
    have := ev_sDPj2 h (b ^ d)
    rw [← hd] at this ⊢
    exact this
  | succ n ih =>
    intro d e
    refine ev_s ?_
    have g1 : ((d : Int) < c) := by omega
    simp only [spec_DigitParts.l0, if_pos g1]
    refine Ev.bind (ev_c (ev_Modulus f)) ?_
    by_cases g : b ^ d < md f
    · simp only [if_pos g]
      have hh := ih (d + 1) (by omega)
      have h0 : 0 ≤ b ^ d := Int.pow_nonneg (by omega)
      have h1 : b ^ d * b ≤ 1004535809 * 65536 := Int.mul_le_mul (by omega) hb.2 (by omega) (by omega)
      have h2 : 0 ≤ b ^ d * b := Int.mul_nonneg h0 (by omega)
      rw [w64 (by omega) (by omega), w_succ (by omega), ← Int.pow_succ]
      exact hh
    · simp only [if_neg g]
      have hm := pw_mono (b := b) (by omega) d (c.toNat - d)
      rw [show d + (c.toNat - d) = c.toNat by omega] at hm
      have := ev_sDPj2 h (b ^ d)
      rw [if_neg g] at this
      rw [if_neg (by omega)]
      exact this
theorem ev_sDigitParts {f b c : Int} {v : List Int} (h : dpOk f v b c) : Ev (fun k => spec_DigitParts.f k f v b c) (if b ^ c.toNat < md f then ([], false) else (dpS b c.toNat v, true)) := by
  unfold spec_DigitParts.f
  refine Ev.bind (ev_VectorOk h.1) ?_
  simp only [if_true]
  refine Ev.bind (ev_c (ev_l08Base b)) ?_
  simp only [decide_eq_true h.2.1.1, decide_eq_true h.2.1.2, Bool.and_self, if_true]
  refine Ev.bind (ev_c (ev_l01In c 1 32)) ?_
  simp only [decide_eq_true h.2.2.1, decide_eq_true h.2.2.2, Bool.and_self, Bool.not_true]
  refine ev_s ?_
  simp only [spec_DigitParts.j0, Bool.false_eq_true, if_false]
  obtain ⟨_, _, hc⟩ := id h
  have hh := ev_sDP0 h c.toNat 0 (by omega)
  rw [Int.pow_zero] at hh
  exact hh
theorem ev_sDigitParts_bad {f b c : Int} {v : List Int} (h : ¬ dpOk f v b c) : Ev (fun k => spec_DigitParts.f k f v b c) ([], false) := by
  have bad : Ev (fun k => spec_DigitParts.j0 k f v b c true) ([], false) := by
    refine ev_s ?_
    simp only [spec_DigitParts.j0, if_true]; exact Ev.now _
  unfold spec_DigitParts.f
  by_cases hv : VecOk f v
  · refine Ev.bind (ev_VectorOk hv) ?_
    simp only [if_true]
    refine Ev.bind (ev_c (ev_l08Base b)) ?_
    by_cases hb : 2 ≤ b ∧ b ≤ 65536
    · simp only [decide_eq_true hb.1, decide_eq_true hb.2, Bool.and_self, if_true]
      refine Ev.bind (ev_c (ev_l01In c 1 32)) ?_
      have : (decide (1 ≤ c) && decide (c ≤ 32)) = false := by
        rw [← Bool.not_eq_true, Bool.and_eq_true, decide_eq_true_eq, decide_eq_true_eq]
        exact fun x => h ⟨hv, hb, x⟩
      simp only [this, Bool.not_false]
      exact bad
    · have : (decide (2 ≤ b) && decide (b ≤ 65536)) = false := by
        rw [← Bool.not_eq_true, Bool.and_eq_true, decide_eq_true_eq, decide_eq_true_eq]
        exact hb
      simp only [this, Bool.false_eq_true, if_false]
      exact bad
  · refine Ev.bind (ev_VectorOk_bad hv) ?_
    simp only [Bool.false_eq_true, if_false]; exact bad

theorem ev_fieldOf {f : Int} (h : 0 ≤ f ∧ f < 9) : impl_fieldOf.f f = some (md f, gn f, tp f, true) := by
  rcases fcases h.1 h.2 with e | e | e | e | e | e | e | e | e <;> subst e <;> rfl
theorem ev_fieldOf_bad {f : Int} (h : ¬ (0 ≤ f ∧ f < 9)) : impl_fieldOf.f f = some (0, 0, 0, false) := by
  unfold impl_fieldOf.f
  by_cases c : f < 0
  · rw [if_pos c]
  · rw [if_neg c, if_pos (by omega)]

theorem ev_logOf (n : Int) : Ev (fun k => impl_logOf.f k n) (lg n) := by
  have key : ∀ (d c : Nat), c + d = 10 → Ev (fun k => impl_logOf.l0 k n (c : Int)) (lgA n d c) := by
    intro d
    induction d with
    | zero =>
      intro c hc
      refine ev_s ?_
      have h1 : ¬ ((c : Int) < 10) := by omega
      simp only [impl_logOf.l0, h1, if_false]; exact Ev.now _
    | succ d ih =>
      intro c hc
      refine ev_s ?_
      have h1 : (c : Int) < 10 := by omega
      have h2 : (0 : Int) ≤ (c : Int) := by omega
      simp only [impl_logOf.l0, h1, h2, if_true, shl1 (c := c) (by omega), w_succ (n := c) (by omega)]
      unfold lgA
      by_cases h : n = ((2 ^ c : Nat) : Int)
      · rw [if_pos h]; simp only [if_pos h]; exact Ev.now _
      · rw [if_neg h]; simp only [if_neg h]; exact ih (c + 1) (by omega)
  exact key 10 0 rfl

theorem ev_areElements (p g t : Int) (l : List Int) (hl : l.length ≤ 35184372088832) : Ev (fun k => impl_field_areElements.f k p g t l) (elB p l) := by
  have key : ∀ (d i : Nat), i + d = l.length → Ev (fun k => impl_field_areElements.l0 k l (l.length : Int) (i : Int) p g t) (elB p (l.drop i)) := by
    intro d
    induction d with
    | zero =>
      intro i hi
      refine ev_s ?_
      have h1 : ¬ ((i : Int) < (l.length : Int)) := by omega
      simp only [impl_field_areElements.l0, h1, if_false]
      rw [List.drop_of_length_le (by omega)]
      exact Ev.now _
    | succ d ih =>
      intro i hi
      refine ev_s ?_
      have h1 : (i : Int) < (l.length : Int) := by omega
      have h2 : (0 : Int) ≤ (i : Int) := by omega
      simp only [impl_field_areElements.l0, h1, h2, if_true, w_succ (n := i) (by omega)]
      rw [elB_drop (by omega)]
      by_cases c1 : rd l (i : Int) < 0
      · simp only [c1, if_true, show decide (0 ≤ rd l (i : Int)) = false from decide_eq_false (by omega), Bool.false_and]
        exact Ev.now _
      · by_cases c2 : rd l (i : Int) ≥ p
        · simp only [c1, c2, if_true, if_false, show decide (rd l (i : Int) < p) = false from decide_eq_false (by omega), Bool.false_and, Bool.and_false]
          exact Ev.now _
        · simp only [c1, c2, if_false, show decide (0 ≤ rd l (i : Int)) = true from decide_eq_true (by omega), show decide (rd l (i : Int) < p) = true from decide_eq_true (by omega), Bool.true_and]
          exact ih (i + 1) (by omega)
  exact key l.length 0 (by omega)

theorem ev_vectorField1 {f : Int} {a : List Int} (h : VecOk f a) : Ev (fun k => impl_vectorField.f k f [a]) (md f, gn f, tp f, true) := by
  have hlg := h.lg
  have hn := h.len
  obtain ⟨hf, _, he⟩ := h
  unfold impl_vectorField.f
  have hl : (([a] : List (List Int)).length : Int) = 1 := rfl
  have hr : rd_L1 [a] 0 = a := rfl
  have n1 : ¬ (lg (a.length : Int) < 0) := by omega
  have n2 : ¬ (lg (a.length : Int) > tp f) := by omega
  simp only [ev_fieldOf hf, Option.bind_some, if_true, hl]
  refine ev_s ?_
  simp only [impl_vectorField.l0, hl, hr, show (0 : Int) < 1 from by decide, show (0 : Int) ≤ 0 from by decide, if_true]
  refine Ev.bind (ev_logOf _) ?_
  simp only [n1, n2, if_false]
  refine Ev.bind (ev_areElements _ _ _ a (by omega)) ?_
  simp only [elB_iff.2 he, if_true, w64 (x := 0 + 1) (by decide) (by decide)]
  refine ev_s ?_
  simp only [impl_vectorField.l0, hl, show ¬ ((0 : Int) + 1 < 1) from by decide, if_false]
  exact Ev.now _
theorem lg_small {n : Nat} (h : 0 ≤ lg (n : Int)) : n ≤ 512 := by
  rcases lg_cases (n : Int) with ⟨e, _⟩ | ⟨k, hk, _, e⟩
  · omega
  · have := two_pow_le hk; omega
theorem ev_vectorField1_bad {f : Int} {a : List Int} (h : ¬ VecOk f a) : Ev (fun k => impl_vectorField.f k f [a]) (0, 0, 0, false) := by
  unfold impl_vectorField.f
  by_cases hf : 0 ≤ f ∧ f < 9
  · have hl : (([a] : List (List Int)).length : Int) = 1 := rfl
    have hr : rd_L1 [a] 0 = a := rfl
    simp only [ev_fieldOf hf, Option.bind_some, if_true, hl]
    refine ev_s ?_
    simp only [impl_vectorField.l0, hl, hr, show (0 : Int) < 1 from by decide, show (0 : Int) ≤ 0 from by decide, if_true]
    refine Ev.bind (ev_logOf _) ?_
    by_cases n1 : lg (a.length : Int) < 0
    · simp only [n1, if_true]; exact Ev.now _
    by_cases n2 : lg (a.length : Int) > tp f
    · simp only [n1, n2, if_true, if_false]; exact Ev.now _
    simp only [n1, n2, if_false]
    have hs := lg_small (n := a.length) (by omega)
    refine Ev.bind (ev_areElements _ _ _ a (by omega)) ?_
    have he : elB (md f) a = false := by
      rw [← Bool.not_eq_true, elB_iff]
      intro he
      exact h (vec_of hf (by omega) (by omega) he)
    simp only [he, Bool.false_eq_true, if_false]
    exact Ev.now _
  · simp only [ev_fieldOf_bad hf, Option.bind_some, Bool.false_eq_true, if_false]
    exact Ev.now _

theorem ev_isBase (b : Int) : impl_isBase.f b = some (decide (2 ≤ b) && decide (b ≤ 65536)) := by
  unfold impl_isBase.f
  by_cases h : 2 ≤ b
  · rw [if_pos (by omega), decide_eq_true h, Bool.true_and]
  · rw [if_neg (by omega), decide_eq_false h, Bool.false_and]
theorem ev_iDP2 {b c : Int} (hb : 2 ≤ b) {v : List Int} (hv : Sm v) (hl : v.length ≤ 512) {out : List (List Int)} (ho : out.length < 100) {d : Int} {r : (List (List Int)) × Bool}
    (hn : Ev (fun k => impl_DigitParts.l1 k b (out ++ [v.map (fun x => x % b)]) (v.map (fun x => x / b)) c (wrap64 (d + 1))) r) :
    ∀ n i : Nat, i + n = v.length → Ev (fun k => impl_DigitParts.l2 k b out ((v.take i).map (fun x => x / b) ++ v.drop i) ((v.take i).map (fun x => x % b)) c d (v.length : Int) (i : Int)) r := by
  intro n
  induction n with
  | zero =>
    intro i e
    refine ev_s ?_
    have g1 : ¬ ((i : Int) < (v.length : Int)) := by omega
    have g2 : out.length < 5864062014805 := by omega
    simp only [impl_DigitParts.l2, if_neg g1, if_pos g2]
    rw [List.take_of_length_le (by omega), List.drop_eq_nil_of_le (by omega), List.append_nil]
    exact hn
  | succ n ih =>
    intro i e
    have hi : i < v.length := by omega
    have hh := ih (i + 1) (by omega)
    have hA := take_map_len (v := v) (i := i) (by omega) (fun x => x / b)
    refine ev_s ?_
    have g0 : ((i : Int) < (v.length : Int)) := by omega
    have g1 : ((i : Int) < (((v.take i).map (fun x => x / b) ++ v.drop i).length : Int)) := by
      rw [List.length_append, hA, List.length_drop]; omega
    have g2 : (0 : Int) ≤ (i : Int) := by omega
    have g3 : ¬ (b = 0) := by omega
    have g4 : ((v.take i).map (fun x => x % b)).length < 17592186044416 := by rw [take_map_len (by omega)]; omega
    have hx := hv (rd v (i : Int)) (by rw [rd_at hi]; exact List.getElem_mem hi)
    have e1 : Int.tdiv (rd v (i : Int)) b = rd v (i : Int) / b := Int.tdiv_eq_ediv_of_nonneg hx.1
    have h1 : 0 ≤ rd v (i : Int) / b := Int.ediv_nonneg hx.1 (by omega)
    have h2 : rd v (i : Int) / b ≤ rd v (i : Int) := Int.ediv_le_self _ hx.1
    simp only [impl_DigitParts.l2, if_pos g0, if_pos g1, if_pos g2, if_neg g3, if_pos g4, part_rd hA hi, Int.toNat_natCast]
    rw [part_set hA hi, tmod_nn hx.1, e1, w64 (by omega) (by omega), w_succ (by omega), take_map_snoc hi (fun x => x / b), take_map_snoc hi (fun x => x % b)]
    exact hh
theorem ev_iDP1 {b c : Int} (hb : 2 ≤ b) (hc : c ≤ 32) : ∀ (n i : Nat), (i : Int) + n = c → ∀ v : List Int, Sm v → v.length ≤ 512 → ∀ out : List (List Int), out.length = i →
    Ev (fun k => impl_DigitParts.l1 k b out v c (i : Int)) (out ++ dpS b n v, true) := by
  intro n
  induction n with
  | zero =>
    intro i e v hv hl out ho
    refine ev_s ?_
    have g1 : ¬ ((i : Int) < c) := by omega
    simp only [impl_DigitParts.l1, if_neg g1, dpS, List.append_nil]
    exact Ev.now _
  | succ n ih =>
    intro i e v hv hl out ho
    refine ev_s ?_
    have g1 : ((i : Int) < c) := by omega
    simp only [impl_DigitParts.l1, if_pos g1]
    have hh := ih (i + 1) (by omega) (v.map (fun x => x / b)) (hv.div (by omega)) (by rw [List.length_map]; exact hl) (out ++ [v.map (fun x => x % b)]) (by rw [List.length_append, ho]; rfl)
    rw [List.append_assoc] at hh
    refine ev_iDP2 hb hv hl (by omega) ?_ v.length 0 (by omega)
    rw [w_succ (by omega)]
    exact hh
theorem ev_iDP0 {f b c : Int} {v : List Int} (h : dpOk f v b c) (g t : Int) : ∀ n d : Nat, (d : Int) + n = c → ∀ W : Int, (W = b ^ d ∧ W ≤ 1099511627776) ∨ (W = 1099511627776 ∧ 1099511627776 ≤ b ^ d) →
    Ev (fun k => impl_DigitParts.l0 k v b c W c (d : Int) (md f) g t) (if b ^ c.toNat < md f then ([], false) else (dpS b c.toNat v, true)) := by
  have hp := h.1.pm
  unfold Pm at hp
  have hl := h.1.len
  obtain ⟨hv, hb, hc⟩ := id h
  intro n
  induction n with
  | zero =>
    intro d e W hW
    refine ev_s ?_
    have g1 : ¬ ((d : Int) < c) := by omega
    have g2 : ([] : List Int).length + v.length < 17592186044416 := by simp; omega
    have hd : c.toNat = d := by omega
    simp only [impl_DigitParts.l0, if_neg g1]
    by_cases gg : W < md f
    · have : b ^ c.toNat < md f := by rw [hd]; omega
      simp only [if_pos gg, if_pos this]; exact Ev.now _
    · have : ¬ (b ^ c.toNat < md f) := by rw [hd]; omega
      simp only [if_neg gg, if_neg this, Option.bind_some, if_pos g2, List.nil_append]
      exact ev_iDP1 hb.1 hc.2 c.toNat 0 (by omega) v (Sm.of hv.2.2 hv.pm) hl.2 [] rfl
  | succ n ih =>
    intro d e W hW
    refine ev_s ?_
    have g1 : ((d : Int) < c) := by omega
    have h0 : 0 ≤ b ^ d := Int.pow_nonneg (by omega)
    have hs : b ^ (d + 1) = b ^ d * b := Int.pow_succ _ _
    have hW1 : 0 ≤ W ∧ W ≤ 1099511627776 := by omega
    have h1 : W * b ≤ 1099511627776 * 65536 := Int.mul_le_mul (by omega) hb.2 (by omega) (by omega)
    have h2 : 0 ≤ W * b := Int.mul_nonneg hW1.1 (by omega)
    simp only [impl_DigitParts.l0, if_pos g1, w64 (x := W * b) (by omega) (by omega), w_succ (n := d) (by omega)]
    refine ih (d + 1) (by omega) _ ?_
    unfold mn
    rw [hs]
    rcases hW with ⟨e1, e2⟩ | ⟨e1, e2⟩
    · subst e1
      by_cases q : 1099511627776 < b ^ d * b
      · rw [if_pos q]; exact .inr ⟨rfl, by omega⟩
      · rw [if_neg q]; exact .inl ⟨rfl, by omega⟩
    · subst e1
      have q1 : 1099511627776 * 2 ≤ 1099511627776 * b := by omega
      have q2 : 1099511627776 * b ≤ b ^ d * b := Int.mul_le_mul_of_nonneg_right e2 (by omega)
      rw [if_pos (by omega)]
      exact .inr ⟨rfl, by omega⟩
theorem ev_iDigitParts {f b c : Int} {v : List Int} (h : dpOk f v b c) : Ev (fun k => impl_DigitParts.f k f v b c) (if b ^ c.toNat < md f then ([], false) else (dpS b c.toNat v, true)) := by
  unfold impl_DigitParts.f
  refine Ev.bind (ev_vectorField1 h.1) ?_
  simp only [if_true]
  refine Ev.bind (ev_c (ev_isBase b)) ?_
  have g1 : ¬ (c < 1) := by have := h.2.2.1; omega
  have g2 : ¬ (c > 32) := by have := h.2.2.2; omega
  simp only [decide_eq_true h.2.1.1, decide_eq_true h.2.1.2, Bool.and_self, if_true, if_neg g1, decide_eq_false g2]
  refine ev_s ?_
  simp only [impl_DigitParts.j0, Bool.false_eq_true, if_false]
  obtain ⟨_, _, hc⟩ := id h
  exact ev_iDP0 h _ _ c.toNat 0 (by omega) 1 (.inl ⟨(Int.pow_zero _).symm, by decide⟩)
theorem ev_iDigitParts_bad {f b c : Int} {v : List Int} (h : ¬ dpOk f v b c) : Ev (fun k => impl_DigitParts.f k f v b c) ([], false) := by
  have bad : ∀ p g t, Ev (fun k => impl_DigitParts.j0 k v b c true p g t) ([], false) := by
    intro p g t
    refine ev_s ?_
    simp only [impl_DigitParts.j0, if_true]; exact Ev.now _
  unfold impl_DigitParts.f
  by_cases hv : VecOk f v
  · refine Ev.bind (ev_vectorField1 hv) ?_
    simp only [if_true]
    refine Ev.bind (ev_c (ev_isBase b)) ?_
    by_cases hb : 2 ≤ b ∧ b ≤ 65536
    · simp only [decide_eq_true hb.1, decide_eq_true hb.2, Bool.and_self, if_true]
      by_cases g1 : c < 1
      · simp only [if_pos g1]; exact bad _ _ _
      · have g2 : c > 32 := by
          by_cases q : c > 32
          · exact q
          · exact absurd ⟨hv, hb, by omega, by omega⟩ h
        simp only [if_neg g1, decide_eq_true g2]; exact bad _ _ _
    · have : (decide (2 ≤ b) && decide (b ≤ 65536)) = false := by
        rw [← Bool.not_eq_true, Bool.and_eq_true, decide_eq_true_eq, decide_eq_true_eq]
        exact hb
      simp only [this, Bool.false_eq_true, if_false]
      exact bad _ _ _
  · refine Ev.bind (ev_vectorField1_bad hv) ?_
    simp only [Bool.false_eq_true, if_false]; exact bad _ _ _

/-- The value that the rows' digits at a place stand for. -/
def vl (b : Int) : List (List Int) → Int → Int
  | [], _ => 0
  | q :: L, i => rd q i + b * vl b L i
def rejS (p b : Int) (N : Nat) (P : List (List Int)) : List Int := (List.range N).map (fun (i : Nat) => vl b P (i : Int) % p)
theorem rd_mapz {h : Int → Int} (h0 : h 0 = 0) (v : List Int) (i : Int) : rd (v.map h) i = h (rd v i) := by
  unfold rd
  rw [List.getD_eq_getElem?_getD, List.getD_eq_getElem?_getD, List.getElem?_map]
  cases v[i.toNat]? with
  | none => exact h0.symm
  | some x => rfl
theorem vl_dpS {b : Int} (hb : 2 ≤ b) (i : Int) : ∀ (n : Nat) (v : List Int), 0 ≤ rd v i → rd v i < b ^ n → vl b (dpS b n v) i = rd v i
  | 0, v, h0, h1 => by
    rw [Int.pow_zero] at h1
    show (0 : Int) = _
    omega
  | n + 1, v, h0, h1 => by
    rw [Int.pow_succ] at h1
    show rd (v.map (fun x => x % b)) i + b * vl b (dpS b n (v.map (fun x => x / b))) i = rd v i
    have e1 : rd (v.map (fun x => x % b)) i = rd v i % b := rd_mapz (h := fun x => x % b) (Int.zero_emod b) v i
    have e2 : rd (v.map (fun x => x / b)) i = rd v i / b := rd_mapz (h := fun x => x / b) (Int.zero_ediv b) v i
    have h2 : 0 ≤ rd v i / b := Int.ediv_nonneg h0 (by omega)
    have h3 : rd v i / b < b ^ n := Int.ediv_lt_of_lt_mul (by omega) h1
    rw [vl_dpS hb i n _ (by rw [e2]; exact h2) (by rw [e2]; exact h3), e1, e2]
    exact Int.emod_add_mul_ediv _ _
theorem dpS_row {b : Int} (hb : 2 ≤ b) : ∀ (n : Nat) (v : List Int), ∀ r ∈ dpS b n v, r.length = v.length ∧ El b r
  | 0, v => fun r h => by cases h
  | n + 1, v => fun r h => by
    rcases List.mem_cons.1 h with h | h
    · subst h
      refine ⟨List.length_map _, fun x hx => ?_⟩
      rw [List.mem_map] at hx
      obtain ⟨y, _, rfl⟩ := hx
      exact em_lt (by omega)
    · have := dpS_row hb n _ r h
      rw [List.length_map] at this
      exact this

/-- Rows that are short and few. -/
def Few (P : List (List Int)) : Prop := P.length ≤ 64 ∧ ∀ r ∈ P, r.length ≤ 512
theorem rd1_at {P : List (List Int)} {i : Nat} (h : i < P.length) : rd_L1 P (i : Int) = P[i] := by
  unfold rd_L1
  rw [Int.toNat_natCast, List.getD_eq_getElem?_getD, List.getElem?_eq_getElem h]; rfl
theorem rd1_mid (D : List (List Int)) (q : List Int) (L : List (List Int)) : rd_L1 (D ++ q :: L) (D.length : Int) = q := by
  rw [rd1_at (by rw [List.length_append, List.length_cons]; omega)]
  simp
theorem set_mid (D : List (List Int)) (q q' : List Int) (L : List (List Int)) : (D ++ q :: L).set D.length q' = (D ++ [q']) ++ L := by
  rw [List.set_append_right _ _ (Nat.le_refl _), Nat.sub_self, List.set_cons_zero, List.append_assoc]
  rfl
theorem ev_eqIntSS {P : List (List Int)} (h : Few P) : Ev (fun k => laws_eqIntSS.f k P P) true := by
  have key : ∀ (n i : Nat), i + n = P.length → Ev (fun k => laws_eqIntSS.l0 k P P (i : Int)) true := by
    have hP := h.1
    intro n
    induction n with
    | zero =>
      intro i e
      refine ev_s ?_
      have g1 : ¬ ((i : Int) < (P.length : Int)) := by omega
      simp only [laws_eqIntSS.l0, if_neg g1]; exact Ev.now _
    | succ n ih =>
      intro i e
      refine ev_s ?_
      have hi : i < P.length := by omega
      have g1 : ((i : Int) < (P.length : Int)) := by omega
      have g2 : (0 : Int) ≤ (i : Int) := by omega
      have hr := h.2 _ (List.getElem_mem hi)
      simp only [laws_eqIntSS.l0, if_pos g1, if_pos g2, rd1_at hi]
      refine Ev.bind (ev_eqIntS _ (by omega)) ?_
      simp only [if_true, w_succ (n := i) (by omega)]
      exact ih (i + 1) (by omega)
  unfold laws_eqIntSS.f
  simp only [if_true]
  exact key P.length 0 (by omega)
/-- The rows with their marks, and how many there are. -/
def mkSS : List (List Int) → Int → List (List Int)
  | [], _ => []
  | q :: L, m => marks q.length m :: mkSS L (m + q.length)
def toSS : List (List Int) → Int
  | [] => 0
  | q :: L => q.length + toSS L
theorem toSS_b : ∀ {L : List (List Int)}, (∀ r ∈ L, r.length ≤ 512) → 0 ≤ toSS L ∧ toSS L ≤ 512 * L.length
  | [], _ => by simp [toSS]
  | q :: L, h => by
    have h1 := h q List.mem_cons_self
    have h2 := toSS_b (fun r hr => h r (List.mem_cons_of_mem _ hr))
    simp only [toSS, List.length_cons]
    omega
theorem mkSS_len : ∀ (L : List (List Int)) (m : Int), (mkSS L m).length = L.length
  | [], _ => rfl
  | q :: L, m => by show (mkSS L _).length + 1 = _; rw [mkSS_len L]; rfl
theorem ev_markG : ∀ (L D : List (List Int)) (m : Int), (∀ r ∈ L, r.length ≤ 512) → D.length + L.length ≤ 64 → 0 ≤ m → m + 512 * L.length ≤ 1099511627776 →
    Ev (fun k => laws_markIntSS.g k (D ++ L) m (D.length : Int)) (m + toSS L, D ++ mkSS L m)
  | [], D, m, hr, hl, h0, h1 => by
    refine ev_s ?_
    have g1 : ¬ ((D.length : Int) < ((D ++ ([] : List (List Int))).length : Int)) := by simp
    simp only [laws_markIntSS.g, if_neg g1, toSS, mkSS, Int.add_zero]
    exact Ev.now _
  | q :: L, D, m, hr, hl, h0, h1 => by
    have hq := hr q List.mem_cons_self
    rw [List.length_cons] at hl h1
    refine ev_s ?_
    have g1 : ((D.length : Int) < ((D ++ q :: L).length : Int)) := by rw [List.length_append, List.length_cons]; omega
    have g2 : (0 : Int) ≤ (D.length : Int) := by omega
    simp only [laws_markIntSS.g, if_pos g1, if_pos g2, rd1_mid, Int.toNat_natCast]
    refine Ev.bind (ev_mark q m (by omega) h0 (by omega)) ?_
    rw [set_mid, w_succ (by omega)]
    have := ev_markG L (D ++ [marks q.length m]) (m + q.length) (fun r h => hr r (List.mem_cons_of_mem _ h)) (by rw [List.length_append]; simp; omega) (by omega) (by omega)
    have e1 : (D ++ [marks q.length m]).length = D.length + 1 := by simp
    have e2 : (D ++ [marks q.length m]) ++ mkSS L (m + q.length) = D ++ mkSS (q :: L) m := by rw [List.append_assoc]; rfl
    rw [e1, e2, Int.add_assoc] at this
    exact this
theorem ev_markSS {P : List (List Int)} (h : Few P) : Ev (fun k => laws_markIntSS.f k P 1) (1 + toSS P) ∧ ∃ K, ∀ k, K ≤ k → laws_markIntSS.rows k P 1 = mkSS P 1 := by
  have hP := h.1
  obtain ⟨K, hK⟩ := ev_markG P [] 1 h.2 (by simp; omega) (by omega) (by omega)
  refine ⟨⟨K, fun k hk => ?_⟩, K, fun k hk => ?_⟩
  · unfold laws_markIntSS.f
    have := hK k hk
    simp only [List.nil_append, List.length_nil] at this
    show Option.map Prod.fst (laws_markIntSS.g k P 1 ((0 : Nat) : Int)) = _
    rw [this]; rfl
  · unfold laws_markIntSS.rows
    have := hK k hk
    simp only [List.nil_append, List.length_nil] at this
    show (Option.map Prod.snd (laws_markIntSS.g k P 1 ((0 : Nat) : Int))).getD P = _
    rw [this]; rfl
theorem ev_heldG : ∀ (L D : List (List Int)) (m : Int), (∀ r ∈ L, r.length ≤ 512) → D.length + L.length ≤ 64 → 0 ≤ m → m + 512 * L.length ≤ 1099511627776 →
    Ev (fun k => laws_heldIntSS.l0 k (D ++ mkSS L m) m (D.length : Int)) (m + toSS L)
  | [], D, m, hr, hl, h0, h1 => by
    show Ev (fun k => laws_heldIntSS.l0 k (D ++ ([] : List (List Int))) m (D.length : Int)) (m + 0)
    refine ev_s ?_
    have g1 : ¬ ((D.length : Int) < ((D ++ ([] : List (List Int))).length : Int)) := by simp
    simp only [laws_heldIntSS.l0, if_neg g1, Int.add_zero]
    exact Ev.now _
  | q :: L, D, m, hr, hl, h0, h1 => by
    have hq := hr q List.mem_cons_self
    rw [List.length_cons] at hl h1
    refine ev_s ?_
    have g1 : ((D.length : Int) < ((D ++ marks q.length m :: mkSS L (m + q.length)).length : Int)) := by rw [List.length_append, List.length_cons]; omega
    have g2 : (0 : Int) ≤ (D.length : Int) := by omega
    have g3 : ¬ (m + (q.length : Int) < 0) := by omega
    show Ev (fun k => laws_heldIntSS.l0 (k + 1) (D ++ marks q.length m :: mkSS L (m + q.length)) m (D.length : Int)) (m + toSS (q :: L))
    simp only [laws_heldIntSS.l0, if_pos g1, if_pos g2, rd1_mid]
    refine Ev.bind (ev_held q.length m (by omega) h0 (by omega)) ?_
    simp only [if_neg g3]
    rw [w_succ (by omega)]
    have := ev_heldG L (D ++ [marks q.length m]) (m + q.length) (fun r h => hr r (List.mem_cons_of_mem _ h)) (by rw [List.length_append]; simp; omega) (by omega) (by omega)
    have e1 : (D ++ [marks q.length m]).length = D.length + 1 := by simp
    have e2 : (D ++ [marks q.length m]) ++ mkSS L (m + q.length) = D ++ mkSS (q :: L) m := by rw [List.append_assoc]; rfl
    rw [e1, e2, Int.add_assoc] at this
    exact this
theorem ev_heldSS {P : List (List Int)} (h : Few P) : Ev (fun k => laws_heldIntSS.f k (mkSS P 1) 1) (1 + toSS P) := by
  have hP := h.1
  unfold laws_heldIntSS.f
  exact ev_heldG P [] 1 h.2 (by simp; omega) (by omega) (by omega)
theorem ev_rows {β : Type} {F : Nat → List (List Int) → Option β} {R : Nat → List (List Int)} {M : List (List Int)} {r : β} (hr : ∃ K, ∀ k, K ≤ k → R k = M) (h : Ev (fun k => F k M) r) : Ev (fun k => F k (R k)) r := by
  obtain ⟨K, hK⟩ := hr
  obtain ⟨L, hL⟩ := h
  exact ⟨max K L, fun k hk => by show F k (R k) = some r; rw [hK k (by omega)]; exact hL k (by omega)⟩

theorem FnExactDigitParts : laws_FnExactDigitParts.Pure := by
  intro f l b c hf hl hl8 hwl hb hc
  refine Ev.rounds ?_
  unfold laws_FnExactDigitParts.f
  by_cases hbig : (l.length : Int) > 1048576
  · simp only [hbig, if_true]; exact Ev.now _
  simp only [hbig, if_false]
  obtain ⟨R1, R2, hR1, hR2, hF⟩ : ∃ (R1 : List (List Int)) (R2 : Bool), Ev (fun k => spec_DigitParts.f k f l b c) (R1, R2) ∧ Ev (fun k => impl_DigitParts.f k f l b c) (R1, R2) ∧ Few R1 := by
    by_cases h : dpOk f l b c
    · have e1 := ev_sDigitParts h
      have e2 := ev_iDigitParts h
      by_cases h2 : b ^ c.toNat < md f
      · rw [if_pos h2] at e1 e2
        exact ⟨_, _, e1, e2, by simp, fun r hr => by cases hr⟩
      · rw [if_neg h2] at e1 e2
        obtain ⟨hv, hb2, hc2⟩ := h
        have hn := hv.len
        exact ⟨_, _, e1, e2, by rw [dpS_len]; omega, fun r hr => by rw [(dpS_row hb2.1 _ _ r hr).1]; omega⟩
    · exact ⟨_, _, ev_sDigitParts_bad h, ev_iDigitParts_bad h, by simp, fun r hr => by cases hr⟩
  have hll : l.length ≤ 35184372088832 := by omega
  have nL : ¬ ((1 : Int) + (l.length : Int) < 0) := by omega
  have hT := toSS_b hF.2
  have nT : ¬ ((1 : Int) + toSS R1 < 0) := by omega
  refine Ev.bind (ev_toIntS l hll) ?_
  refine Ev.bind hR1 ?_
  refine Ev.bind (ev_toIntS l hll) ?_
  refine Ev.bind hR2 ?_
  refine Ev.bind (ev_eqIntSS hF) ?_
  simp only [if_true, bne_self_eq_false]
  refine ev_s ?_
  simp only [laws_FnExactDigitParts.j0, Bool.false_eq_true, if_false]
  refine Ev.bind (ev_toIntS l hll) ?_
  refine Ev.bind (ev_eqIntS l hll) ?_
  simp only [if_true]
  refine Ev.bind (ev_mark l 1 (by omega) (by omega) (by omega)) ?_
  simp only [nL, if_false]
  refine Ev.bind (ev_eqIntSS hF) ?_
  simp only [if_true, bne_self_eq_false]
  refine ev_s ?_
  simp only [laws_FnExactDigitParts.j1, Bool.false_eq_true, if_false]
  obtain ⟨hM, hrows⟩ := ev_markSS hF
  refine Ev.bind hM ?_
  refine ev_rows (R := fun k => laws_markIntSS.rows k R1 1) (F := fun k X => (laws_heldIntSS.f k X 1).bind fun t229 => (if t229 < 0 then (some false) else (if t229 = 1 + toSS R1 then ((laws_toIntS.f k l).bind fun t230 => ((impl_DigitParts.f k f t230 b c).bind fun bt233 => ((laws_eqIntSS.f k bt233.1 R1).bind fun t237 => (if t237 = true then (laws_FnExactDigitParts.j2 k X (1 + toSS R1) (bt233.2 != R2)) else (laws_FnExactDigitParts.j2 k X (1 + toSS R1) true))))) else (some false)))) hrows ?_
  refine Ev.bind (ev_heldSS hF) ?_
  simp only [nT, if_false, if_true]
  refine Ev.bind (ev_toIntS l hll) ?_
  refine Ev.bind hR2 ?_
  refine Ev.bind (ev_eqIntSS hF) ?_
  simp only [if_true, bne_self_eq_false]
  refine ev_s ?_
  simp only [laws_FnExactDigitParts.j2, Bool.false_eq_true, if_false]
  refine Ev.bind (ev_heldSS hF) ?_
  simp only [nT, if_false, if_true]
  exact Ev.now _

end Go.Proofs.Ytgjogfohknjpmaa.Pure
