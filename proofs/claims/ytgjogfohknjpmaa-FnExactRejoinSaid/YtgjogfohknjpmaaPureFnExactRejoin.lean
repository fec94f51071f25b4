/- FnExactRejoin returns true for all arguments: both put the same vector together out of the rows of digits. -/
import Derived.Test.YtgjogfohknjpmaaPFnExactRejoinx7
import Derived.Test.YtgjogfohknjpmaaGB
import Derived.Test.YtgjogfohknjpmaaGD
import Derived.Test.YtgjogfohknjpmaaGK
set_option linter.unusedVariables false
set_option linter.unusedSimpArgs false
namespace Go.Proofs.Ytgjogfohknjpmaa.Pure
open Go.RowKit Go.Proofs.Ytgjogfohknjpmaa.PFnExactRejoin Go.Proofs.YtgjogfohknjpmaaW.PrintWords Go.Proofs.YtgjogfohknjpmaaW.PrintLast Go.Proofs.YtgjogfohknjpmaaW.PrintMore G7
theorem ev_toIntS (l : List Int) (hl : l.length ≤ 35184372088832) : Ev (fun k => laws_toIntS.f k l) l := by
  have key : ∀ (d i : Nat) (out : List Int), i + d = l.length → out.length = l.length → (∀ j : Nat, j < i → rd out (j : Int) = rd l (j : Int)) → Ev (fun k => laws_toIntS.l0 k l out (i : Int)) l := by
    intro d
    induction d with
    | zero =>
      intro i out hi ho hx
      refine ev_s ?_
      have h1 : ¬ ((i : Int) < (l.length : Int)) := by omega
      simp only [laws_toIntS.l0, h1, if_false]
      rw [ext_rd ho (fun j hj => hx j (by omega))]
      exact Ev.now _
    | succ d ih =>
      intro i out hi ho hx
      refine ev_s ?_
      have h1 : (i : Int) < (l.length : Int) := by omega
      have h2 : (0 : Int) ≤ (i : Int) := by omega
      have h3 : (i : Int) < (out.length : Int) := by omega
      simp only [laws_toIntS.l0, h1, h2, h3, if_true, w_succ (n := i) (by omega), Int.toNat_natCast]
      refine ih (i + 1) _ (by omega) (by rw [List.length_set]; exact ho) (fun j hj => ?_)
      by_cases c : i = j
      · subst c; rw [rd_set_eq (by omega)]
      · rw [rd_set_ne c]; exact hx j (by omega)
  unfold laws_toIntS.f
  have h1 : (0 : Int) ≤ (l.length : Int) := by omega
  simp only [h1, if_true, Int.toNat_natCast, hl]
  exact key l.length 0 _ (by omega) (by simp) (fun j hj => by omega)

theorem ev_eqIntS (l : List Int) (hl : l.length ≤ 35184372088832) : Ev (fun k => laws_eqIntS.f k l l) true := by
  have key : ∀ (d i : Nat), i + d = l.length → Ev (fun k => laws_eqIntS.l0 k l l (i : Int)) true := by
    intro d
    induction d with
    | zero =>
      intro i hi
      refine ev_s ?_
      have h1 : ¬ ((i : Int) < (l.length : Int)) := by omega
      simp only [laws_eqIntS.l0, h1, if_false]
      exact Ev.now _
    | succ d ih =>
      intro i hi
      refine ev_s ?_
      have h1 : (i : Int) < (l.length : Int) := by omega
      have h2 : (0 : Int) ≤ (i : Int) := by omega
      simp only [laws_eqIntS.l0, h1, h2, if_true, w_succ (n := i) (by omega)]
      exact ih (i + 1) (by omega)
  unfold laws_eqIntS.f
  simp only [if_true]
  exact key l.length 0 (by omega)

/-- What markIntS leaves. -/
def marks (n : Nat) (m : Int) : List Int := (List.range n).map (fun i => m + (i : Nat))
theorem marks_len (n : Nat) (m : Int) : (marks n m).length = n := by simp [marks]
theorem marks_rd {n i : Nat} (m : Int) (h : i < n) : rd (marks n m) (i : Int) = m + i := by unfold marks; rw [rd_map _ h]
theorem ev_mark (l : List Int) (m : Int) (hl : l.length ≤ 35184372088832) (h0 : 0 ≤ m) (h1 : m ≤ 4611686018427387904) : Ev (fun k => laws_markIntS.f k l m) (m + l.length, marks l.length m) := by
  have key : ∀ (d i : Nat) (out : List Int), i + d = l.length → out.length = l.length → (∀ j : Nat, j < i → rd out (j : Int) = m + j) → Ev (fun k => laws_markIntS.l0 k out (m + i) (i : Int)) (m + l.length, marks l.length m) := by
    intro d
    induction d with
    | zero =>
      intro i out hi ho hx
      refine ev_s ?_
      have g1 : ¬ ((i : Int) < (out.length : Int)) := by omega
      simp only [laws_markIntS.l0, g1, if_false]
      have e : out = marks l.length m := ext_rd (by rw [marks_len, ho]) (fun j hj => by rw [marks_rd m (by omega)]; exact hx j (by omega))
      rw [e, show i = l.length by omega]
      exact Ev.now _
    | succ d ih =>
      intro i out hi ho hx
      refine ev_s ?_
      have g1 : (i : Int) < (out.length : Int) := by omega
      have g2 : (0 : Int) ≤ (i : Int) := by omega
      simp only [laws_markIntS.l0, g1, g2, if_true, w_succ (n := i) (by omega), Int.toNat_natCast, w64 (x := m + (i : Int) + 1) (by omega) (by omega)]
      rw [show m + (i : Int) + 1 = m + ((i + 1 : Nat) : Int) by omega]
      refine ih (i + 1) _ (by omega) (by rw [List.length_set]; exact ho) (fun j hj => ?_)
      by_cases c : i = j
      · subst c; rw [rd_set_eq (by omega)]
      · rw [rd_set_ne c]; exact hx j (by omega)
  unfold laws_markIntS.f
  have := key l.length 0 l (by omega) rfl (fun j hj => by omega)
  simpa using this
theorem ev_held (n : Nat) (m : Int) (hl : n ≤ 35184372088832) (h0 : 0 ≤ m) (h1 : m ≤ 4611686018427387904) : Ev (fun k => laws_heldIntS.f k (marks n m) m) (m + n) := by
  have key : ∀ (d i : Nat), i + d = n → Ev (fun k => laws_heldIntS.l0 k (marks n m) (m + i) (i : Int)) (m + n) := by
    intro d
    induction d with
    | zero =>
      intro i hi
      refine ev_s ?_
      have g1 : ¬ ((i : Int) < ((marks n m).length : Int)) := by rw [marks_len]; omega
      simp only [laws_heldIntS.l0, g1, if_false]
      rw [show i = n by omega]
      exact Ev.now _
    | succ d ih =>
      intro i hi
      refine ev_s ?_
      have g1 : (i : Int) < ((marks n m).length : Int) := by rw [marks_len]; omega
      have g2 : (0 : Int) ≤ (i : Int) := by omega
      simp only [laws_heldIntS.l0, g1, g2, if_true, marks_rd m (show i < n by omega), w_succ (n := i) (by omega), w64 (x := m + (i : Int) + 1) (by omega) (by omega)]
      rw [show m + (i : Int) + 1 = m + ((i + 1 : Nat) : Int) by omega]
      exact ih (i + 1) (by omega)
  unfold laws_heldIntS.f
  have := key n 0 (by omega)
  simpa using this

/-- The digits of the elements in `n` rows, the least ahead. -/
def dpS (b : Int) : Nat → List Int → List (List Int)
  | 0, _ => []
  | n + 1, v => v.map (fun x => x % b) :: dpS b n (v.map (fun x => x / b))
theorem dpS_len (b : Int) : ∀ (n : Nat) (v : List Int), (dpS b n v).length = n
  | 0, _ => rfl
  | n + 1, v => by show (dpS b n _).length + 1 = n + 1; rw [dpS_len b n]
/-- Elements that no quotient takes out of the numbers. -/
def Sm (v : List Int) : Prop := ∀ x ∈ v, 0 ≤ x ∧ x < 4611686018427387904
theorem Sm.div {v : List Int} (h : Sm v) {b : Int} (hb : 0 < b) : Sm (v.map (fun x => x / b)) := by
  intro y hy
  rw [List.mem_map] at hy
  obtain ⟨x, hx, rfl⟩ := hy
  have := h x hx
  have h1 : 0 ≤ x / b := Int.ediv_nonneg this.1 (by omega)
  have h2 : x / b ≤ x := Int.ediv_le_self _ this.1
  omega
theorem Sm.of {v : List Int} {p : Int} (h : El p v) (hp : Pm p) : Sm v := fun x hx => by
  have := h x hx
  unfold Pm at hp
  omega
theorem part_rd {A v : List Int} {i : Nat} (hA : A.length = i) (hi : i < v.length) : rd (A ++ v.drop i) (i : Int) = rd v (i : Int) := by
  subst hA
  unfold rd
  rw [Int.toNat_natCast, List.getD_eq_getElem?_getD, List.getD_eq_getElem?_getD, List.getElem?_append_right (Nat.le_refl _), Nat.sub_self, List.getElem?_drop, Nat.add_zero]
theorem part_set {A v : List Int} {i : Nat} (hA : A.length = i) (hi : i < v.length) (x : Int) : (A ++ v.drop i).set i x = A ++ [x] ++ v.drop (i + 1) := by
  subst hA
  rw [List.drop_eq_getElem_cons hi, List.set_append_right _ _ (Nat.le_refl _), Nat.sub_self, List.set_cons_zero, List.append_assoc]
  rfl
theorem take_map_snoc {v : List Int} {i : Nat} (hi : i < v.length) (h : Int → Int) : (v.take i).map h ++ [h (rd v (i : Int))] = (v.take (i + 1)).map h := by
  rw [rd_at hi, ← List.take_append_getElem hi, List.map_append]
  rfl
theorem take_map_len {v : List Int} {i : Nat} (hi : i ≤ v.length) (h : Int → Int) : ((v.take i).map h).length = i := by
  rw [List.length_map, List.length_take]; omega
/-- Both DigitParts. -/
def dpOk (f : Int) (v : List Int) (b c : Int) : Prop := VecOk f v ∧ (2 ≤ b ∧ b ≤ 65536) ∧ (1 ≤ c ∧ c ≤ 32)
theorem pw_mono {b : Int} (hb : 1 ≤ b) (d : Nat) : ∀ n : Nat, b ^ d ≤ b ^ (d + n)
  | 0 => Int.le_refl _
  | n + 1 => by
    have ih := pw_mono hb d n
    have h0 : 0 ≤ b ^ (d + n) := Int.pow_nonneg (by omega)
    have : b ^ (d + (n + 1)) = b ^ (d + n) * b := Int.pow_succ _ _
    rw [this]
    have := Int.mul_le_mul_of_nonneg_left hb h0
    omega

/-- The value that the rows' digits at a place stand for. -/
def vl (b : Int) : List (List Int) → Int → Int
  | [], _ => 0
  | q :: L, i => rd q i + b * vl b L i
def rejS (p b : Int) (N : Nat) (P : List (List Int)) : List Int := (List.range N).map (fun (i : Nat) => vl b P (i : Int) % p)
theorem rd_mapz {h : Int → Int} (h0 : h 0 = 0) (v : List Int) (i : Int) : rd (v.map h) i = h (rd v i) := by
  unfold rd
  rw [List.getD_eq_getElem?_getD, List.getD_eq_getElem?_getD, List.getElem?_map]
  cases v[i.toNat]? with
  | none => exact h0.symm
  | some x => rfl
theorem vl_dpS {b : Int} (hb : 2 ≤ b) (i : Int) : ∀ (n : Nat) (v : List Int), 0 ≤ rd v i → rd v i < b ^ n → vl b (dpS b n v) i = rd v i
  | 0, v, h0, h1 => by
    rw [Int.pow_zero] at h1
    show (0 : Int) = _
    omega
  | n + 1, v, h0, h1 => by
    rw [Int.pow_succ] at h1
    show rd (v.map (fun x => x % b)) i + b * vl b (dpS b n (v.map (fun x => x / b))) i = rd v i
    have e1 : rd (v.map (fun x => x % b)) i = rd v i % b := rd_mapz (h := fun x => x % b) (Int.zero_emod b) v i
    have e2 : rd (v.map (fun x => x / b)) i = rd v i / b := rd_mapz (h := fun x => x / b) (Int.zero_ediv b) v i
    have h2 : 0 ≤ rd v i / b := Int.ediv_nonneg h0 (by omega)
    have h3 : rd v i / b < b ^ n := Int.ediv_lt_of_lt_mul (by omega) h1
    rw [vl_dpS hb i n _ (by rw [e2]; exact h2) (by rw [e2]; exact h3), e1, e2]
    exact Int.emod_add_mul_ediv _ _
theorem dpS_row {b : Int} (hb : 2 ≤ b) : ∀ (n : Nat) (v : List Int), ∀ r ∈ dpS b n v, r.length = v.length ∧ El b r
  | 0, v => fun r h => by cases h
  | n + 1, v => fun r h => by
    rcases List.mem_cons.1 h with h | h
    · subst h
      refine ⟨List.length_map _, fun x hx => ?_⟩
      rw [List.mem_map] at hx
      obtain ⟨y, _, rfl⟩ := hx
      exact em_lt (by omega)
    · have := dpS_row hb n _ r h
      rw [List.length_map] at this
      exact this

theorem ev_fieldOf {f : Int} (h : 0 ≤ f ∧ f < 9) : impl_fieldOf.f f = some (md f, gn f, tp f, true) := by
  rcases fcases h.1 h.2 with e | e | e | e | e | e | e | e | e <;> subst e <;> rfl
theorem ev_fieldOf_bad {f : Int} (h : ¬ (0 ≤ f ∧ f < 9)) : impl_fieldOf.f f = some (0, 0, 0, false) := by
  unfold impl_fieldOf.f
  by_cases c : f < 0
  · rw [if_pos c]
  · rw [if_neg c, if_pos (by omega)]

theorem ev_logOf (n : Int) : Ev (fun k => impl_logOf.f k n) (lg n) := by
  have key : ∀ (d c : Nat), c + d = 10 → Ev (fun k => impl_logOf.l0 k n (c : Int)) (lgA n d c) := by
    intro d
    induction d with
    | zero =>
      intro c hc
      refine ev_s ?_
      have h1 : ¬ ((c : Int) < 10) := by omega
      simp only [impl_logOf.l0, h1, if_false]; exact Ev.now _
    | succ d ih =>
      intro c hc
      refine ev_s ?_
      have h1 : (c : Int) < 10 := by omega
      have h2 : (0 : Int) ≤ (c : Int) := by omega
      simp only [impl_logOf.l0, h1, h2, if_true, shl1 (c := c) (by omega), w_succ (n := c) (by omega)]
      unfold lgA
      by_cases h : n = ((2 ^ c : Nat) : Int)
      · rw [if_pos h]; simp only [if_pos h]; exact Ev.now _
      · rw [if_neg h]; simp only [if_neg h]; exact ih (c + 1) (by omega)
  exact key 10 0 rfl

theorem ev_areElements (p g t : Int) (l : List Int) (hl : l.length ≤ 35184372088832) : Ev (fun k => impl_field_areElements.f k p g t l) (elB p l) := by
  have key : ∀ (d i : Nat), i + d = l.length → Ev (fun k => impl_field_areElements.l0 k l (l.length : Int) (i : Int) p g t) (elB p (l.drop i)) := by
    intro d
    induction d with
    | zero =>
      intro i hi
      refine ev_s ?_
      have h1 : ¬ ((i : Int) < (l.length : Int)) := by omega
      simp only [impl_field_areElements.l0, h1, if_false]
      rw [List.drop_of_length_le (by omega)]
      exact Ev.now _
    | succ d ih =>
      intro i hi
      refine ev_s ?_
      have h1 : (i : Int) < (l.length : Int) := by omega
      have h2 : (0 : Int) ≤ (i : Int) := by omega
      simp only [impl_field_areElements.l0, h1, h2, if_true, w_succ (n := i) (by omega)]
      rw [elB_drop (by omega)]
      by_cases c1 : rd l (i : Int) < 0
      · simp only [c1, if_true, show decide (0 ≤ rd l (i : Int)) = false from decide_eq_false (by omega), Bool.false_and]
        exact Ev.now _
      · by_cases c2 : rd l (i : Int) ≥ p
        · simp only [c1, c2, if_true, if_false, show decide (rd l (i : Int) < p) = false from decide_eq_false (by omega), Bool.false_and, Bool.and_false]
          exact Ev.now _
        · simp only [c1, c2, if_false, show decide (0 ≤ rd l (i : Int)) = true from decide_eq_true (by omega), show decide (rd l (i : Int) < p) = true from decide_eq_true (by omega), Bool.true_and]
          exact ih (i + 1) (by omega)
  exact key l.length 0 (by omega)

theorem ev_vectorField1 {f : Int} {a : List Int} (h : VecOk f a) : Ev (fun k => impl_vectorField.f k f [a]) (md f, gn f, tp f, true) := by
  have hlg := h.lg
  have hn := h.len
  obtain ⟨hf, _, he⟩ := h
  unfold impl_vectorField.f
  have hl : (([a] : List (List Int)).length : Int) = 1 := rfl
  have hr : rd_L1 [a] 0 = a := rfl
  have n1 : ¬ (lg (a.length : Int) < 0) := by omega
  have n2 : ¬ (lg (a.length : Int) > tp f) := by omega
  simp only [ev_fieldOf hf, Option.bind_some, if_true, hl]
  refine ev_s ?_
  simp only [impl_vectorField.l0, hl, hr, show (0 : Int) < 1 from by decide, show (0 : Int) ≤ 0 from by decide, if_true]
  refine Ev.bind (ev_logOf _) ?_
  simp only [n1, n2, if_false]
  refine Ev.bind (ev_areElements _ _ _ a (by omega)) ?_
  simp only [elB_iff.2 he, if_true, w64 (x := 0 + 1) (by decide) (by decide)]
  refine ev_s ?_
  simp only [impl_vectorField.l0, hl, show ¬ ((0 : Int) + 1 < 1) from by decide, if_false]
  exact Ev.now _
theorem lg_small {n : Nat} (h : 0 ≤ lg (n : Int)) : n ≤ 512 := by
  rcases lg_cases (n : Int) with ⟨e, _⟩ | ⟨k, hk, _, e⟩
  · omega
  · have := two_pow_le hk; omega
theorem ev_vectorField1_bad {f : Int} {a : List Int} (h : ¬ VecOk f a) : Ev (fun k => impl_vectorField.f k f [a]) (0, 0, 0, false) := by
  unfold impl_vectorField.f
  by_cases hf : 0 ≤ f ∧ f < 9
  · have hl : (([a] : List (List Int)).length : Int) = 1 := rfl
    have hr : rd_L1 [a] 0 = a := rfl
    simp only [ev_fieldOf hf, Option.bind_some, if_true, hl]
    refine ev_s ?_
    simp only [impl_vectorField.l0, hl, hr, show (0 : Int) < 1 from by decide, show (0 : Int) ≤ 0 from by decide, if_true]
    refine Ev.bind (ev_logOf _) ?_
    by_cases n1 : lg (a.length : Int) < 0
    · simp only [n1, if_true]; exact Ev.now _
    by_cases n2 : lg (a.length : Int) > tp f
    · simp only [n1, n2, if_true, if_false]; exact Ev.now _
    simp only [n1, n2, if_false]
    have hs := lg_small (n := a.length) (by omega)
    refine Ev.bind (ev_areElements _ _ _ a (by omega)) ?_
    have he : elB (md f) a = false := by
      rw [← Bool.not_eq_true, elB_iff]
      intro he
      exact h (vec_of hf (by omega) (by omega) he)
    simp only [he, Bool.false_eq_true, if_false]
    exact Ev.now _
  · simp only [ev_fieldOf_bad hf, Option.bind_some, Bool.false_eq_true, if_false]
    exact Ev.now _

theorem rdL_at {P : List (List Int)} {i : Nat} (h : i < P.length) : rd_L1 P (i : Int) = P[i] := by
  unfold rd_L1
  rw [Int.toNat_natCast, List.getD_eq_getElem?_getD, List.getElem?_eq_getElem h]; rfl
/-- All rows are vectors of the field, all as long as the one ahead. -/
def rowsOk (f : Int) (P l : List (List Int)) : Prop := ∀ r ∈ l, VecOk f r ∧ r.length = (rd_L1 P 0).length
theorem ev_vfN_good {f : Int} (hf : 0 ≤ f ∧ f < 9) {P : List (List Int)} (hP : P.length ≤ 1048576) : ∀ n i : Nat, i + n = P.length → rowsOk f P (P.drop i) →
    Ev (fun k => impl_vectorField.l0 k P P (P.length : Int) (i : Int) (md f) (gn f) (tp f)) (md f, gn f, tp f, true) := by
  intro n
  induction n with
  | zero =>
    intro i e hr
    refine ev_s ?_
    have g1 : ¬ ((i : Int) < (P.length : Int)) := by omega
    simp only [impl_vectorField.l0, if_neg g1]; exact Ev.now _
  | succ n ih =>
    intro i e hr
    have hi : i < P.length := by omega
    rw [List.drop_eq_getElem_cons hi] at hr
    have h1 := hr _ List.mem_cons_self
    have h2 := ih (i + 1) (by omega) (fun r h => hr r (List.mem_cons_of_mem _ h))
    refine ev_s ?_
    have g1 : ((i : Int) < (P.length : Int)) := by omega
    have g2 : (0 : Int) ≤ (i : Int) := by omega
    have g3 : (0 : Int) < (P.length : Int) := by omega
    have hlg := h1.1.lg
    have hn := h1.1.len
    have n1 : ¬ (lg ((P[i]).length : Int) < 0) := by omega
    have n2 : ¬ (lg ((P[i]).length : Int) > tp f) := by omega
    have n3 : ((P[i]).length : Int) = ((rd_L1 P 0).length : Int) := by rw [h1.2]
    simp only [impl_vectorField.l0, if_pos g1, if_pos g2, if_pos g3, rdL_at hi]
    refine Ev.bind (ev_logOf _) ?_
    simp only [if_neg n1, if_neg n2]
    refine Ev.bind (ev_areElements _ _ _ _ (by omega)) ?_
    simp only [elB_iff.2 h1.1.2.2, if_true, if_pos n3, w_succ (n := i) (by omega)]
    exact h2
theorem ev_vfN_bad {f : Int} (hf : 0 ≤ f ∧ f < 9) {P : List (List Int)} (hP : P.length ≤ 1048576) : ∀ n i : Nat, i + n = P.length → ¬ rowsOk f P (P.drop i) →
    Ev (fun k => impl_vectorField.l0 k P P (P.length : Int) (i : Int) (md f) (gn f) (tp f)) (0, 0, 0, false) := by
  intro n
  induction n with
  | zero =>
    intro i e hr
    rw [List.drop_eq_nil_of_le (by omega)] at hr
    exact absurd (fun r h => by cases h) hr
  | succ n ih =>
    intro i e hr
    have hi : i < P.length := by omega
    rw [List.drop_eq_getElem_cons hi] at hr
    refine ev_s ?_
    have g1 : ((i : Int) < (P.length : Int)) := by omega
    have g2 : (0 : Int) ≤ (i : Int) := by omega
    have g3 : (0 : Int) < (P.length : Int) := by omega
    simp only [impl_vectorField.l0, if_pos g1, if_pos g2, if_pos g3, rdL_at hi]
    refine Ev.bind (ev_logOf _) ?_
    by_cases n1 : lg ((P[i]).length : Int) < 0
    · simp only [if_pos n1]; exact Ev.now _
    simp only [if_neg n1]
    by_cases n2 : lg ((P[i]).length : Int) > tp f
    · simp only [if_pos n2]; exact Ev.now _
    simp only [if_neg n2]
    have hs := lg_small (n := (P[i]).length) (by omega)
    refine Ev.bind (ev_areElements _ _ _ _ (by omega)) ?_
    by_cases he : El (md f) P[i]
    · simp only [elB_iff.2 he, if_true]
      by_cases n3 : ((P[i]).length : Int) = ((rd_L1 P 0).length : Int)
      · simp only [if_pos n3, w_succ (n := i) (by omega)]
        refine ih (i + 1) (by omega) (fun hh => hr ?_)
        intro r h
        rcases List.mem_cons.1 h with h | h
        · subst h; exact ⟨vec_of hf (by omega) (by omega) he, by omega⟩
        · exact hh r h
      · simp only [if_neg n3]; exact Ev.now _
    · simp only [Bool.eq_false_iff.2 (fun c => he (elB_iff.1 c)), Bool.false_eq_true, if_false]
      exact Ev.now _
theorem ev_vectorFieldN {f : Int} (hf : 0 ≤ f ∧ f < 9) {P : List (List Int)} (hP : P.length ≤ 1048576) (h : rowsOk f P P) : Ev (fun k => impl_vectorField.f k f P) (md f, gn f, tp f, true) := by
  unfold impl_vectorField.f
  simp only [ev_fieldOf hf, Option.bind_some, if_true]
  exact ev_vfN_good hf hP P.length 0 (by omega) h
theorem ev_vectorFieldN_bad {f : Int} {P : List (List Int)} (hP : P.length ≤ 1048576) (h : ¬ ((0 ≤ f ∧ f < 9) ∧ rowsOk f P P)) : Ev (fun k => impl_vectorField.f k f P) (0, 0, 0, false) := by
  unfold impl_vectorField.f
  by_cases hf : 0 ≤ f ∧ f < 9
  · simp only [ev_fieldOf hf, Option.bind_some, if_true]
    exact ev_vfN_bad hf hP P.length 0 (by omega) (fun c => h ⟨hf, c⟩)
  · simp only [ev_fieldOf_bad hf, Option.bind_some, Bool.false_eq_true, if_false]
    exact Ev.now _

theorem ev_mul {p : Int} (hp : Pm p) (g t : Int) {a b : Int} (ha : 0 ≤ a ∧ a < p) (hb : 0 ≤ b ∧ b < p) : impl_field_mul.f p g t a b = some (a * b % p) := by
  unfold Pm at hp
  have h := mul_lt_big ha.1 ha.2 hb.1 hb.2 hp.2
  unfold impl_field_mul.f
  rw [if_neg (by omega), w64 (by omega) (by omega), tmod_nn (by omega)]

theorem ev_add {p : Int} (hp : Pm p) (g t : Int) {a b : Int} (ha : 0 ≤ a ∧ a < p) (hb : 0 ≤ b ∧ b < p) : impl_field_add.f p g t a b = some ((a + b) % p) := by
  unfold Pm at hp
  unfold impl_field_add.f
  rw [if_neg (by omega), w64 (by omega) (by omega), tmod_nn (by omega)]

theorem ev_reduce {p : Int} (hp : Pm p) (g t x : Int) : impl_field_reduce.f p g t x = some (x % p) := by
  unfold Pm at hp
  have hb := tmod_bounds (a := x) (p := p) (by omega)
  unfold impl_field_reduce.f
  rw [if_neg (by omega), w64 (by omega) (by omega), tmod_nn (by omega), tmod_add_emod (by omega)]

def rjN (p T : Int) (out q : List Int) (i : Nat) : Int := (rd out (i : Int) + rd q (i : Int) * T) % p
theorem ev_rj1 {p : Int} (hp : Pm p) (g t : Int) {b T d c : Int} {P : List (List Int)} {out q : List Int} (ho : El p out) (hq : El p q) (hl : out.length = q.length) (hN : q.length ≤ 512) (hT : 0 ≤ T ∧ T < p) {r : List Int × Bool}
    (hn : Ev (fun k => impl_Rejoin.l0 k b ((List.range q.length).map (rjN p T out q)) (T * (b % p) % p) P c (wrap64 (d + 1)) p g t) r) :
    ∀ n i : Nat, i + n = q.length → Ev (fun k => impl_Rejoin.l1 k b ((List.range i).map (rjN p T out q) ++ out.drop i) T P c d q (q.length : Int) (i : Int) p g t) r := by
  have hpp := hp
  unfold Pm at hpp
  intro n
  induction n with
  | zero =>
    intro i e
    refine ev_s ?_
    have g1 : ¬ ((i : Int) < (q.length : Int)) := by omega
    simp only [impl_Rejoin.l1, if_neg g1]
    refine Ev.bind (ev_c (ev_reduce hp g t b)) ?_
    refine Ev.bind (ev_c (ev_mul hp g t hT (em_lt (by omega)))) ?_
    rw [List.drop_eq_nil_of_le (by omega), List.append_nil, show i = q.length by omega]
    exact hn
  | succ n ih =>
    intro i e
    have hi : i < q.length := by omega
    have hh := ih (i + 1) (by omega)
    have hA : ((List.range i).map (rjN p T out q)).length = i := by simp
    refine ev_s ?_
    have g1 : ((i : Int) < (q.length : Int)) := by omega
    have g2 : (0 : Int) ≤ (i : Int) := by omega
    have g3 : ((i : Int) < (((List.range i).map (rjN p T out q) ++ out.drop i).length : Int)) := by
      rw [List.length_append, hA, List.length_drop]; omega
    simp only [impl_Rejoin.l1, if_pos g1, if_pos g2, if_pos g3, part_rd hA (show i < out.length by omega), Int.toNat_natCast]
    refine Ev.bind (ev_c (ev_mul hp g t (hq.rd (by omega) (i : Int)) hT)) ?_
    refine Ev.bind (ev_c (ev_add hp g t (ho.rd (by omega) (i : Int)) (em_lt (by omega)))) ?_
    rw [part_set hA (by omega), w_succ (by omega), eadd_r]
    rw [map_snoc] at hh
    exact hh
theorem rj_step {p o x T b V : Int} : ((o + x * T) % p + T * (b % p) % p * V) % p = (o + T * (x + b * V)) % p := by
  rw [emul_r, eadd_l, ← eadd_r, emul_l, eadd_r]
  congr 1
  rw [Int.mul_add, Int.mul_comm x T, Int.mul_assoc T b V, Int.add_assoc]
theorem ev_rj0 {p : Int} (hp : Pm p) (g t : Int) {b : Int} {P : List (List Int)} {N : Nat} (hN : N ≤ 512) (hPl : P.length ≤ 1048576) (hP : ∀ r ∈ P, r.length = N ∧ El p r) : ∀ n d : Nat, d + n = P.length → ∀ (out : List Int) (T : Int), out.length = N → El p out → 0 ≤ T → T < p →
    Ev (fun k => impl_Rejoin.l0 k b out T P (P.length : Int) (d : Int) p g t) ((List.range N).map (fun (i : Nat) => (rd out (i : Int) + T * vl b (P.drop d) (i : Int)) % p), true) := by
  have hpp := hp
  unfold Pm at hpp
  intro n
  induction n with
  | zero =>
    intro d e out T hl ho h0 h1
    refine ev_s ?_
    have g1 : ¬ ((d : Int) < (P.length : Int)) := by omega
    simp only [impl_Rejoin.l0, if_neg g1]
    rw [List.drop_eq_nil_of_le (by omega)]
    have : out = (List.range N).map (fun (i : Nat) => (rd out (i : Int) + T * vl b [] (i : Int)) % p) := set_map_rd hl (fun i hi => by
      have := ho.rd (by omega) (i : Int)
      show _ = (rd out (i : Int) + T * 0) % p
      rw [Int.mul_zero, Int.add_zero, em_id this.1 this.2])
    rw [← this]
    exact Ev.now _
  | succ n ih =>
    intro d e out T hl ho h0 h1
    have hd : d < P.length := by omega
    refine ev_s ?_
    have g1 : ((d : Int) < (P.length : Int)) := by omega
    have g2 : (0 : Int) ≤ (d : Int) := by omega
    simp only [impl_Rejoin.l0, if_pos g1, if_pos g2, rdL_at hd]
    obtain ⟨k1, k2⟩ := hP _ (List.getElem_mem hd)
    have hT := em_lt (a := T * (b % p)) (p := p) (by omega)
    have hh := ih (d + 1) (by omega) ((List.range (P[d]).length).map (rjN p T out P[d])) (T * (b % p) % p) (by simp [k1]) (El.map (fun i _ => em_lt (by omega))) hT.1 hT.2
    have hs : (List.range N).map (fun (i : Nat) => (rd out (i : Int) + T * vl b (P.drop d) (i : Int)) % p) = (List.range N).map (fun (i : Nat) => (rd ((List.range (P[d]).length).map (rjN p T out P[d])) (i : Int) + T * (b % p) % p * vl b (P.drop (d + 1)) (i : Int)) % p) := map_congr_range (fun i hi => by
      rw [rd_map _ (by omega), List.drop_eq_getElem_cons hd]
      exact rj_step.symm)
    rw [hs]
    refine ev_rj1 hp g t ho k2 (by omega) (by omega) ⟨h0, h1⟩ ?_ (P[d]).length 0 (by omega)
    rw [w_succ (by omega)]
    exact hh
/-- Rejoin's rows. -/
def rjOk (f : Int) (P : List (List Int)) (b : Int) : Prop := (1 ≤ P.length ∧ P.length ≤ 32) ∧ (2 ≤ b ∧ b ≤ 65536) ∧ (0 ≤ f ∧ f < 9) ∧ rowsOk f P P
theorem ev_isBaseR (b : Int) : impl_isBase.f b = some (decide (2 ≤ b) && decide (b ≤ 65536)) := by
  unfold impl_isBase.f
  by_cases h : 2 ≤ b
  · rw [if_pos (by omega), decide_eq_true h, Bool.true_and]
  · rw [if_neg (by omega), decide_eq_false h, Bool.false_and]
theorem rjOk.rows {f : Int} {P : List (List Int)} {b : Int} (h : rjOk f P b) : (rd_L1 P 0).length ≤ 512 ∧ ∀ r ∈ P, r.length = (rd_L1 P 0).length ∧ El (md f) r := by
  obtain ⟨h1, _, _, h4⟩ := h
  refine ⟨?_, fun r hr => ⟨(h4 r hr).2, (h4 r hr).1.2.2⟩⟩
  have h0 : (0 : Nat) < P.length := by omega
  have e := rdL_at h0
  rw [show ((0 : Nat) : Int) = 0 from rfl] at e
  have := (h4 _ (List.getElem_mem h0)).1.len
  rw [e]
  omega
theorem ev_iRejoin {f : Int} {P : List (List Int)} {b : Int} (h : rjOk f P b) : Ev (fun k => impl_Rejoin.f k f P b) (rejS (md f) b (rd_L1 P 0).length P, true) := by
  obtain ⟨hr1, hr2⟩ := h.rows
  obtain ⟨h1, h2, h3, h4⟩ := h
  have hp := pm_of h3
  have hpp := hp
  unfold Pm at hpp
  have g1 : ¬ ((P.length : Int) < 1) := by omega
  have g2 : ¬ ((P.length : Int) > 32) := by omega
  have g3 : (0 : Int) < (P.length : Int) := by omega
  have g4 : (0 : Int) ≤ ((rd_L1 P 0).length : Int) := by omega
  have g5 : (rd_L1 P 0).length ≤ 35184372088832 := by omega
  unfold impl_Rejoin.f
  simp only [if_neg g1, if_neg g2]
  refine Ev.bind (ev_c (ev_isBaseR b)) ?_
  simp only [decide_eq_true h2.1, decide_eq_true h2.2, Bool.and_self, Bool.not_true]
  refine ev_s ?_
  simp only [impl_Rejoin.j0, Bool.false_eq_true, if_false]
  refine Ev.bind (ev_vectorFieldN h3 (by omega) h4) ?_
  simp only [if_true, if_pos g3, if_pos g4, Int.toNat_natCast, if_pos g5]
  have hh := ev_rj0 hp (gn f) (tp f) (b := b) hr1 (by omega) hr2 P.length 0 (by omega) (List.replicate (rd_L1 P 0).length 0) 1 (by simp) (El.rep (by omega) _) (by decide) (by omega)
  refine ev_to hh ?_
  unfold rejS
  congr 1
  refine map_congr_range (fun i _ => ?_)
  rw [rd_rep, Int.zero_add, Int.one_mul, List.drop_zero]
theorem ev_iRejoin_bad {f : Int} {P : List (List Int)} {b : Int} (hP : P.length ≤ 1048576) (h : ¬ rjOk f P b) : Ev (fun k => impl_Rejoin.f k f P b) ([], false) := by
  have bad : Ev (fun k => impl_Rejoin.j0 k f P b true) ([], false) := by
    refine ev_s ?_
    simp only [impl_Rejoin.j0, if_true]; exact Ev.now _
  unfold impl_Rejoin.f
  by_cases g1 : (P.length : Int) < 1
  · simp only [if_pos g1]; exact bad
  simp only [if_neg g1]
  by_cases g2 : (P.length : Int) > 32
  · simp only [if_pos g2]; exact bad
  simp only [if_neg g2]
  refine Ev.bind (ev_c (ev_isBaseR b)) ?_
  by_cases hb : 2 ≤ b ∧ b ≤ 65536
  · simp only [decide_eq_true hb.1, decide_eq_true hb.2, Bool.and_self, Bool.not_true]
    refine ev_s ?_
    simp only [impl_Rejoin.j0, Bool.false_eq_true, if_false]
    refine Ev.bind (ev_vectorFieldN_bad hP (fun c => h ⟨by omega, hb, c.1, c.2⟩)) ?_
    simp only [Bool.false_eq_true, if_false]
    exact Ev.now _
  · have : (decide (2 ≤ b) && decide (b ≤ 65536)) = false := by
      rw [← Bool.not_eq_true, Bool.and_eq_true, decide_eq_true_eq, decide_eq_true_eq]
      exact hb
    simp only [this, Bool.not_false]
    exact bad

theorem ev_LogOf (n : Int) : Ev (fun k => spec_LogOf.f k n) (lg n) := by
  have key : ∀ (d c : Nat), c + d = 10 → Ev (fun k => spec_LogOf.l0 k n (c : Int)) (lgA n d c) := by
    intro d
    induction d with
    | zero =>
      intro c hc
      refine ev_s ?_
      have h1 : ¬ ((c : Int) ≤ 9) := by omega
      simp only [spec_LogOf.l0, h1, if_false]; exact Ev.now _
    | succ d ih =>
      intro c hc
      refine ev_s ?_
      have h1 : (c : Int) ≤ 9 := by omega
      have h2 : (0 : Int) ≤ (c : Int) := by omega
      simp only [spec_LogOf.l0, h1, u64_id (x := (c : Int)) (by omega) (by omega), h2, if_true, shl1 (c := c) (by omega), w_succ (n := c) (by omega)]
      unfold lgA
      by_cases h : n = ((2 ^ c : Nat) : Int)
      · rw [if_pos h]; simp only [if_pos h]; exact Ev.now _
      · rw [if_neg h]; simp only [if_neg h]; exact ih (c + 1) (by omega)
  exact key 10 0 rfl

theorem ev_Modulus (f : Int) : spec_Modulus.f f = some (md f) := by
  unfold spec_Modulus.f md
  by_cases h0 : f = 0
  · rw [if_pos h0, if_pos h0]
  rw [if_neg h0, if_neg h0]
  by_cases h1 : f = 1
  · rw [if_pos h1, if_pos h1]
  rw [if_neg h1, if_neg h1]
  by_cases h2 : f = 2
  · rw [if_pos h2, if_pos h2]
  rw [if_neg h2, if_neg h2]
  by_cases h3 : f = 3
  · rw [if_pos h3, if_pos h3]
  rw [if_neg h3, if_neg h3]
  by_cases h4 : f = 4
  · rw [if_pos h4, if_pos h4]
  rw [if_neg h4, if_neg h4]
  by_cases h5 : f = 5
  · rw [if_pos h5, if_pos h5]
  rw [if_neg h5, if_neg h5]
  by_cases h6 : f = 6
  · rw [if_pos h6, if_pos h6]
  rw [if_neg h6, if_neg h6]
  by_cases h7 : f = 7
  · rw [if_pos h7, if_pos h7]
  rw [if_neg h7, if_neg h7]
  by_cases h8 : f = 8
  · rw [if_pos h8, if_pos h8]
  rw [if_neg h8, if_neg h8]

theorem ev_TwoPower (f : Int) : Ev (fun k => spec_TwoPower.f k f) (tp f) := by
  unfold spec_TwoPower.f
  simp only [ev_Modulus, Option.bind_some]
  by_cases h : 0 ≤ f ∧ f < 9
  · have hp := pm_of h
    unfold Pm at hp
    obtain ⟨e1, e2, e3, e4, e5⟩ := oddP_spec h
    simp only [show ¬ (md f = 0) from by omega, if_false, w64 (x := md f - 1) (by omega) (by omega)]
    have key : ∀ (t : Nat) (c : Int), 0 ≤ c → c + t ≤ 100 → oddP f * ((2 ^ t : Nat) : Int) ≤ md f - 1 → Ev (fun k => spec_TwoPower.l0 k c (oddP f * ((2 ^ t : Nat) : Int))) (c + t) := by
      intro t
      induction t with
      | zero =>
        intro c hc hct hb
        refine ev_s ?_
        rw [Nat.pow_zero, Int.natCast_one, Int.mul_one] at *
        have h1 : ¬ (Int.tmod (oddP f) 2 = 0) := by rw [tmod_nn (by omega)]; omega
        simp only [spec_TwoPower.l0, h1, if_false, Int.natCast_zero, Int.add_zero]; exact Ev.now _
      | succ t ih =>
        intro c hc hct hb
        have e : oddP f * ((2 ^ (t + 1) : Nat) : Int) = 2 * (oddP f * ((2 ^ t : Nat) : Int)) := by
          rw [Nat.pow_succ, Int.natCast_mul, ← Int.mul_assoc, Int.mul_comm]; rfl
        have hq : 0 ≤ oddP f * ((2 ^ t : Nat) : Int) := Int.mul_nonneg (by omega) (Int.natCast_nonneg _)
        rw [e] at hb ⊢
        have hs := ih (c + 1) (by omega) (by omega) (by omega)
        generalize oddP f * ((2 ^ t : Nat) : Int) = q at *
        refine ev_s ?_
        have h1 : Int.tmod (2 * q) 2 = 0 := by rw [tmod_nn (by omega)]; omega
        have h2 : wrap64 (Int.tdiv (2 * q) 2) = q := by
          rw [Int.tdiv_eq_ediv_of_nonneg (by omega), w64 (by omega) (by omega)]; omega
        simp only [spec_TwoPower.l0, h1, h2, if_true, w64 (x := c + 1) (by omega) (by omega)]
        exact ev_to hs (by omega)
    have := key (tp f).toNat 0 (by omega) (by omega) (by omega)
    rw [← e1] at this
    exact ev_to this (by omega)
  · simp only [md_bad h, if_true]
    rw [tp_bad h]; exact Ev.now _

theorem ev_l01In (x a b : Int) : spec_l01In.f x a b = some (decide (a ≤ x) && decide (x ≤ b)) := by
  unfold spec_l01In.f
  by_cases h : a ≤ x
  · rw [if_pos h, decide_eq_true h, Bool.true_and]
  · rw [if_neg h, decide_eq_false h, Bool.false_and]

theorem ev_l03Elements {f : Int} (h : 0 ≤ f ∧ f < 9) (l : List Int) (hl : l.length ≤ 35184372088832) : Ev (fun k => spec_l03Elements.f k f l) (elB (md f) l) := by
  have hp := pm_of h
  unfold Pm at hp
  have key : ∀ (d i : Nat), i + d = l.length → Ev (fun k => spec_l03Elements.l0 k l (md f) (i : Int)) (elB (md f) (l.drop i)) := by
    intro d
    induction d with
    | zero =>
      intro i hi
      refine ev_s ?_
      have h1 : ¬ ((i : Int) < (l.length : Int)) := by omega
      simp only [spec_l03Elements.l0, h1, if_false]
      rw [List.drop_of_length_le (by omega)]
      exact Ev.now _
    | succ d ih =>
      intro i hi
      refine ev_s ?_
      have h1 : (i : Int) < (l.length : Int) := by omega
      have h2 : (0 : Int) ≤ (i : Int) := by omega
      simp only [spec_l03Elements.l0, h1, h2, if_true, w_succ (n := i) (by omega), w64 (x := md f - 1) (by omega) (by omega), ev_l01In, Option.bind_some]
      rw [elB_drop (by omega)]
      rw [show decide (rd l (i : Int) < md f) = decide (rd l (i : Int) ≤ md f - 1) from decide_eq_decide.2 (by omega)]
      by_cases c : (decide (0 ≤ rd l (i : Int)) && decide (rd l (i : Int) ≤ md f - 1)) = true
      · simp only [c, if_true, Bool.true_and]
        exact ih (i + 1) (by omega)
      · simp only [Bool.not_eq_true] at c
        simp only [c, Bool.false_and, Bool.false_eq_true, if_false]
        exact Ev.now _
  unfold spec_l03Elements.f
  simp only [ev_Modulus, Option.bind_some]
  have h0 : ¬ (md f = 0) := by omega
  simp only [h0, if_false]
  exact key l.length 0 (by omega)
theorem ev_l03Elements_bad {f : Int} (h : ¬ (0 ≤ f ∧ f < 9)) (l : List Int) : Ev (fun k => spec_l03Elements.f k f l) false := by
  unfold spec_l03Elements.f
  simp only [ev_Modulus, Option.bind_some, md_bad h, if_true]
  exact Ev.now _

theorem ev_VectorOk {f : Int} {v : List Int} (h : VecOk f v) : Ev (fun k => spec_VectorOk.f k f v) true := by
  have hl := h.lg
  have hn := h.len
  unfold spec_VectorOk.f
  refine Ev.bind (ev_LogOf _) ?_
  have h1 : lg (v.length : Int) ≥ 0 := hl.1
  simp only [h1, if_true]
  refine Ev.bind (ev_TwoPower f) ?_
  simp only [hl.2, if_true]
  refine Ev.bind (ev_l03Elements h.1 v (by omega)) ?_
  rw [elB_iff.2 h.2.2]; exact Ev.now _
theorem ev_VectorOk_bad {f : Int} {v : List Int} (h : ¬ VecOk f v) : Ev (fun k => spec_VectorOk.f k f v) false := by
  unfold spec_VectorOk.f
  refine Ev.bind (ev_LogOf _) ?_
  by_cases h1 : lg (v.length : Int) ≥ 0
  · simp only [h1, if_true]
    refine Ev.bind (ev_TwoPower f) ?_
    have hn : v.length ≤ 512 := by
      rcases lg_cases (v.length : Int) with ⟨e, _⟩ | ⟨k, hk, _, e⟩
      · omega
      · have := two_pow_le hk; omega
    by_cases h2 : lg (v.length : Int) ≤ tp f
    · simp only [h2, if_true]
      by_cases hf : 0 ≤ f ∧ f < 9
      · refine Ev.bind (ev_l03Elements hf v (by omega)) ?_
        have he : elB (md f) v = false := by
          rw [← Bool.not_eq_true, elB_iff]
          intro he
          exact h (vec_of hf h1 h2 he)
        rw [he]; exact Ev.now _
      · refine Ev.bind (ev_l03Elements_bad hf v) ?_
        exact Ev.now _
    · simp only [h2, if_false]; exact Ev.now _
  · simp only [h1, if_false]; exact Ev.now _

theorem ev_Reduce {f : Int} (h : 0 ≤ f ∧ f < 9) (x : Int) : spec_Reduce.f f x = some (x % md f) := by
  have hp := pm_of h
  unfold Pm at hp
  unfold spec_Reduce.f
  rw [ev_Modulus]
  simp only [Option.bind_some]
  rw [if_neg (by omega)]
  have hb := tmod_bounds (a := x) (p := md f) (by omega)
  rw [w64 (by omega) (by omega), ← tmod_fix (a := x) (p := md f) (by omega)]
  by_cases c : Int.tmod x (md f) < 0
  · rw [if_pos c, if_pos c]
  · rw [if_neg c, if_neg c]
theorem ev_Reduce_bad {f : Int} (h : ¬ (0 ≤ f ∧ f < 9)) (x : Int) : spec_Reduce.f f x = some (-1) := by
  unfold spec_Reduce.f
  rw [ev_Modulus]
  simp only [Option.bind_some]
  rw [if_pos (md_bad h)]

theorem ev_Mul {f : Int} (h : 0 ≤ f ∧ f < 9) (x y : Int) : spec_Mul.f f x y = some ((x * y) % md f) := by
  have hp := pm_of h
  have hb := hp
  unfold Pm at hp
  have hx := em_lt (a := x) (p := md f) (by omega)
  have hy := em_lt (a := y) (p := md f) (by omega)
  have hxy := mul_lt_big hx.1 hx.2 hy.1 hy.2 hp.2
  unfold spec_Mul.f
  rw [ev_Modulus]
  simp only [Option.bind_some, ev_Reduce h]
  rw [if_neg (by omega), w64 (by omega) (by omega), emul_l, emul_r]

theorem ev_Add {f : Int} (h : 0 ≤ f ∧ f < 9) (x y : Int) : spec_Add.f f x y = some ((x + y) % md f) := by
  have hp := pm_of h
  unfold Pm at hp
  have hx := em_lt (a := x) (p := md f) (by omega)
  have hy := em_lt (a := y) (p := md f) (by omega)
  unfold spec_Add.f
  rw [ev_Modulus]
  simp only [Option.bind_some, ev_Reduce h]
  rw [if_neg (by omega), w64 (by omega) (by omega), eadd_l, eadd_r]

theorem ev_PowerL {p : Int} (hp : Pm p) : ∀ (e : Nat) {a : Int}, (0 ≤ a ∧ a < p) → e < 4611686018427387904 → Ev (fun k => spec_Power.j0 k p a (e : Int)) (a ^ e % p) := by
  have hpp := hp
  unfold Pm at hpp
  have key : ∀ (n e : Nat), e ≤ n → e < 4611686018427387904 → ∀ a out : Int, (0 ≤ a ∧ a < p) → (0 ≤ out ∧ out < p) → Ev (fun k => spec_Power.l0 k p a (e : Int) out) (out * a ^ e % p) := by
    intro n
    induction n with
    | zero =>
      intro e he _ a out ha ho
      obtain rfl : e = 0 := by omega
      refine ev_s ?_
      have h1 : ¬ (((0 : Nat) : Int) > 0) := by omega
      simp only [spec_Power.l0, h1, if_false]
      rw [Int.pow_zero, Int.mul_one, em_id ho.1 ho.2]
      exact Ev.now _
    | succ n ih =>
      intro e he hb a out ha ho
      by_cases h0 : e = 0
      · subst h0
        exact ih 0 (by omega) hb a out ha ho
      · refine ev_s ?_
        have h1 : (e : Int) > 0 := by omega
        have h2 : Int.tmod (e : Int) 2 = ((e % 2 : Nat) : Int) := by rw [tmod_nn (by omega)]; omega
        have h3 : wrap64 (Int.tdiv (e : Int) 2) = ((e / 2 : Nat) : Int) := by
          rw [Int.tdiv_eq_ediv_of_nonneg (by omega), w64 (by omega) (by omega)]; omega
        have haa := em_lt (a := a * a) hp.pos
        have hp0 : ¬ (p = 0) := by omega
        have b1 := mul_lt_big ha.1 ha.2 ha.1 ha.2 hpp.2
        have b2 := mul_lt_big ho.1 ho.2 ha.1 ha.2 hpp.2
        simp only [spec_Power.l0, h1, if_true, h2, h3, hp0, if_false, w64 (x := a * a) (by omega) (by omega), w64 (x := out * a) (by omega) (by omega), tmod_nn b1.1, tmod_nn b2.1]
        by_cases c : e % 2 = 1
        · have hoa := em_lt (a := out * a) hp.pos
          simp only [c, Int.natCast_one, if_true]
          refine ev_to (ih (e / 2) (by omega) (by omega) (a * a % p) (out * a % p) haa hoa) ?_
          have e1 : (out * a % p) * (a * a % p) ^ (e / 2) % p = (out * a) * (a * a) ^ (e / 2) % p := emul (Int.emod_emod _ _) (epow_l _)
          rw [e1, ipow2, Int.mul_assoc, ← Int.pow_succ']
          congr 3; omega
        · have c0 : e % 2 = 0 := by omega
          simp only [c0, show ¬ (((0 : Nat) : Int) = 1) from by omega, if_false]
          refine ev_to (ih (e / 2) (by omega) (by omega) (a * a % p) out haa ho) ?_
          have e1 : out * (a * a % p) ^ (e / 2) % p = out * (a * a) ^ (e / 2) % p := emul rfl (epow_l _)
          rw [e1, ipow2]
          congr 3; omega
  intro e a ha he
  refine ev_s ?_
  simp only [spec_Power.j0]
  refine ev_to (key e e (Nat.le_refl _) he a 1 ha (by omega)) ?_
  rw [Int.one_mul]
theorem ev_Power {f : Int} (h : 0 ≤ f ∧ f < 9) {x : Int} (hx : x % md f ≠ 0) (e : Int) : Ev (fun k => spec_Power.f k f x e) ((x % md f) ^ (e % (md f - 1)).toNat % md f) := by
  have hp := pm_of h
  have hpp := hp
  unfold Pm at hpp
  have hxe := em_lt (a := x) hp.pos
  have hb := tmod_bounds (a := e) (p := md f - 1) (by omega)
  have hm := em_lt (a := e) (p := md f - 1) (by omega)
  have hfix := tmod_fix (a := e) (p := md f - 1) (by omega)
  unfold spec_Power.f
  simp only [ev_Modulus, Option.bind_some, ev_Reduce h, hx, if_false, w64 (x := md f - 1) (by omega) (by omega), show ¬ (md f = 0) from by omega, show ¬ (md f - 1 = 0) from by omega]
  have hcast : e % (md f - 1) = (((e % (md f - 1)).toNat : Nat) : Int) := by omega
  by_cases c : Int.tmod e (md f - 1) < 0
  · rw [if_pos c] at hfix
    simp only [c, if_true, w64 (x := Int.tmod e (md f - 1) + md f) (by omega) (by omega), w64 (x := Int.tmod e (md f - 1) + md f - 1) (by omega) (by omega)]
    rw [show Int.tmod e (md f - 1) + md f - 1 = (((e % (md f - 1)).toNat : Nat) : Int) by omega]
    exact ev_PowerL hp _ hxe (by omega)
  · rw [if_neg c] at hfix
    simp only [c, if_false]
    rw [show Int.tmod e (md f - 1) = (((e % (md f - 1)).toNat : Nat) : Int) by omega]
    exact ev_PowerL hp _ hxe (by omega)
theorem ev_Power0 {f : Int} (h : 0 ≤ f ∧ f < 9) {x : Int} (hx : x % md f = 0) (e : Int) : Ev (fun k => spec_Power.f k f x e) (if e = 0 then 1 else if e < 0 then -1 else 0) := by
  have hp := pm_of h
  unfold Pm at hp
  unfold spec_Power.f
  simp only [ev_Modulus, Option.bind_some, ev_Reduce h, hx, if_true, show ¬ (md f = 0) from by omega, if_false]
  by_cases c : e = 0
  · simp only [c, if_true]; exact Ev.now _
  · by_cases c2 : e < 0
    · simp only [c, c2, if_true, if_false]; exact Ev.now _
    · simp only [c, c2, if_false]; exact Ev.now _

theorem ev_PowerX {f : Int} (h : 0 ≤ f ∧ f < 9) (x : Int) (e : Nat) : Ev (fun k => spec_Power.f k f x (e : Int)) (x ^ e % md f) := by
  have hp := pm_of h
  unfold Pm at hp
  rw [← epow_l]
  by_cases c : x % md f = 0
  · refine ev_to (ev_Power0 h c (e : Int)) ?_
    rw [c]
    by_cases he : e = 0
    · subst he; rw [if_pos (show ((0 : Nat) : Int) = 0 from rfl), Int.pow_zero, em_id (by omega) (by omega)]
    · rw [if_neg (by omega), if_neg (by omega)]
      obtain ⟨q, rfl⟩ : ∃ q, e = q + 1 := ⟨e - 1, by omega⟩
      rw [Int.pow_succ, Int.mul_zero, Int.zero_emod]
  · refine ev_to (ev_Power h c (e : Int)) ?_
    have e1 : ((e : Int) % (md f - 1)).toNat = e % (md f - 1).toNat := by
      have : (md f - 1) = (((md f - 1).toNat : Nat) : Int) := by omega
      rw [this, ← Int.natCast_emod, Int.toNat_natCast, Int.toNat_natCast]
    rw [e1, epow_l, pow_red h c, epow_l]

theorem sj_step {p s B q b V : Int} : ((s + q * (B % p) % p) % p + B * b * V) % p = (s + B * (q + b * V)) % p := by
  rw [eadd_l, emul_r, Int.add_assoc, ← eadd_r (a := s), eadd_l, eadd_r]
  congr 1
  rw [Int.mul_add, Int.mul_comm q B, Int.mul_assoc B b V]
theorem ev_sj2 {f b : Int} (h : 0 ≤ f ∧ f < 9) {P : List (List Int)} (hPl : P.length ≤ 64) {i : Nat} {N : Nat} (hi : i < N) (hN : N ≤ 512) (hP : ∀ r ∈ P, r.length = N) {out : List Int} (ho : out.length ≤ 512) {r : List Int × Bool}
    : ∀ n d : Nat, d + n = P.length → ∀ s : Int, 0 ≤ s → s < md f →
    Ev (fun k => spec_Rejoin.l1 k f P b (out ++ [(s + b ^ d * vl b (P.drop d) (i : Int)) % md f]) (wrap64 ((i : Int) + 1))) r →
    Ev (fun k => spec_Rejoin.l2 k f P b out (i : Int) s (d : Int)) r := by
  have hp := pm_of h
  unfold Pm at hp
  intro n
  induction n with
  | zero =>
    intro d e s h0 h1 hn
    refine ev_s ?_
    have g1 : ¬ ((d : Int) < (P.length : Int)) := by omega
    have g2 : out.length < 17592186044416 := by omega
    simp only [spec_Rejoin.l2, if_neg g1, if_pos g2]
    rw [List.drop_eq_nil_of_le (by omega)] at hn
    have e0 : (s + b ^ d * vl b [] (i : Int)) % md f = s := by
      show (s + b ^ d * 0) % md f = s
      rw [Int.mul_zero, Int.add_zero, em_id h0 h1]
    rw [e0] at hn
    exact hn
  | succ n ih =>
    intro d e s h0 h1 hn
    have hd : d < P.length := by omega
    refine ev_s ?_
    have g1 : ((d : Int) < (P.length : Int)) := by omega
    have g2 : (0 : Int) ≤ (d : Int) := by omega
    have g3 : (0 : Int) ≤ (i : Int) := by omega
    have hr := hP _ (List.getElem_mem hd)
    have g4 : ((i : Int) < ((P[d]).length : Int)) := by omega
    simp only [spec_Rejoin.l2, if_pos g1, if_pos g2, if_pos g3, rdL_at hd, if_pos g4]
    refine Ev.bind (ev_PowerX h b d) ?_
    refine Ev.bind (ev_c (ev_Mul h _ _)) ?_
    refine Ev.bind (ev_c (ev_Add h _ _)) ?_
    rw [w_succ (by omega)]
    have hm := em_lt (a := s + rd P[d] (i : Int) * (b ^ d % md f) % md f) (p := md f) (by omega)
    refine ih (d + 1) (by omega) _ hm.1 hm.2 ?_
    rw [List.drop_eq_getElem_cons hd] at hn
    have e1 : ((s + rd P[d] (i : Int) * (b ^ d % md f) % md f) % md f + b ^ (d + 1) * vl b (P.drop (d + 1)) (i : Int)) % md f = (s + b ^ d * vl b (P[d] :: P.drop (d + 1)) (i : Int)) % md f := by
      rw [Int.pow_succ]; exact sj_step
    rw [e1]
    exact hn
theorem ev_sj1 {f b : Int} (h : 0 ≤ f ∧ f < 9) {P : List (List Int)} (hP0 : 1 ≤ P.length) (hPl : P.length ≤ 64) (hN : (rd_L1 P 0).length ≤ 512) (hP : ∀ r ∈ P, r.length = (rd_L1 P 0).length) :
    ∀ n i : Nat, i + n = (rd_L1 P 0).length → ∀ out : List Int, out = (List.range i).map (fun (i : Nat) => vl b P (i : Int) % md f) →
    Ev (fun k => spec_Rejoin.l1 k f P b out (i : Int)) (rejS (md f) b (rd_L1 P 0).length P, true) := by
  have hp := pm_of h
  unfold Pm at hp
  have g0 : (0 : Int) < (P.length : Int) := by omega
  intro n
  induction n with
  | zero =>
    intro i e out ho
    refine ev_s ?_
    have g1 : ¬ ((i : Int) < ((rd_L1 P 0).length : Int)) := by omega
    simp only [spec_Rejoin.l1, if_pos g0, if_neg g1]
    rw [ho]
    unfold rejS
    rw [show i = (rd_L1 P 0).length by omega]
    exact Ev.now _
  | succ n ih =>
    intro i e out ho
    refine ev_s ?_
    have g1 : ((i : Int) < ((rd_L1 P 0).length : Int)) := by omega
    simp only [spec_Rejoin.l1, if_pos g0, if_pos g1]
    have hl : out.length = i := by rw [ho]; simp
    refine ev_sj2 h hPl (N := (rd_L1 P 0).length) (by omega) hN hP (by omega) P.length 0 (by omega) 0 (by omega) (by omega) ?_
    rw [w_succ (by omega), List.drop_zero, Int.pow_zero, Int.one_mul, Int.zero_add]
    refine ih (i + 1) (by omega) _ ?_
    rw [map_snoc, ho]
theorem ev_sj0_good {f b : Int} (h : 0 ≤ f ∧ f < 9) {P : List (List Int)} (hP : P.length ≤ 1048576) {r : List Int × Bool} (hn : Ev (fun k => spec_Rejoin.l1 k f P b [] 0) r) : ∀ n i : Nat, i + n = P.length → rowsOk f P (P.drop i) →
    Ev (fun k => spec_Rejoin.l0 k f P b (i : Int)) r := by
  intro n
  induction n with
  | zero =>
    intro i e hr
    refine ev_s ?_
    have g1 : ¬ ((i : Int) < (P.length : Int)) := by omega
    simp only [spec_Rejoin.l0, if_neg g1]; exact hn
  | succ n ih =>
    intro i e hr
    have hi : i < P.length := by omega
    rw [List.drop_eq_getElem_cons hi] at hr
    have h1 := hr _ List.mem_cons_self
    have h2 := ih (i + 1) (by omega) (fun r h => hr r (List.mem_cons_of_mem _ h))
    refine ev_s ?_
    have g1 : ((i : Int) < (P.length : Int)) := by omega
    have g2 : (0 : Int) ≤ (i : Int) := by omega
    have g3 : (0 : Int) < (P.length : Int) := by omega
    have n3 : ((P[i]).length : Int) = ((rd_L1 P 0).length : Int) := by rw [h1.2]
    simp only [spec_Rejoin.l0, if_pos g1, if_pos g2, if_pos g3, rdL_at hi]
    refine Ev.bind (ev_VectorOk h1.1) ?_
    simp only [if_true, if_pos n3, w_succ (n := i) (by omega)]
    exact h2
theorem ev_sj0_bad {f b : Int} {P : List (List Int)} (hP : P.length ≤ 1048576) : ∀ n i : Nat, i + n = P.length → ¬ rowsOk f P (P.drop i) →
    Ev (fun k => spec_Rejoin.l0 k f P b (i : Int)) ([], false) := by
  intro n
  induction n with
  | zero =>
    intro i e hr
    rw [List.drop_eq_nil_of_le (by omega)] at hr
    exact absurd (fun r h => by cases h) hr
  | succ n ih =>
    intro i e hr
    have hi : i < P.length := by omega
    rw [List.drop_eq_getElem_cons hi] at hr
    refine ev_s ?_
    have g1 : ((i : Int) < (P.length : Int)) := by omega
    have g2 : (0 : Int) ≤ (i : Int) := by omega
    have g3 : (0 : Int) < (P.length : Int) := by omega
    simp only [spec_Rejoin.l0, if_pos g1, if_pos g2, if_pos g3, rdL_at hi]
    by_cases hv : VecOk f P[i]
    · refine Ev.bind (ev_VectorOk hv) ?_
      simp only [if_true]
      by_cases n3 : ((P[i]).length : Int) = ((rd_L1 P 0).length : Int)
      · simp only [if_pos n3, w_succ (n := i) (by omega)]
        refine ih (i + 1) (by omega) (fun hh => hr ?_)
        intro r h
        rcases List.mem_cons.1 h with h | h
        · subst h; exact ⟨hv, by omega⟩
        · exact hh r h
      · simp only [if_neg n3]; exact Ev.now _
    · refine Ev.bind (ev_VectorOk_bad hv) ?_
      simp only [Bool.false_eq_true, if_false]
      exact Ev.now _
theorem ev_l08BaseR (b : Int) : spec_l08Base.f b = some (decide (2 ≤ b) && decide (b ≤ 65536)) := by
  unfold spec_l08Base.f
  rw [ev_l01In]; rfl
theorem ev_sRejoin {f : Int} {P : List (List Int)} {b : Int} (h : rjOk f P b) : Ev (fun k => spec_Rejoin.f k f P b) (rejS (md f) b (rd_L1 P 0).length P, true) := by
  obtain ⟨hr1, hr2⟩ := h.rows
  obtain ⟨h1, h2, h3, h4⟩ := h
  have hp := pm_of h3
  unfold Pm at hp
  unfold spec_Rejoin.f
  refine Ev.bind (ev_c (ev_Modulus f)) ?_
  have g0 : ¬ (md f = 0) := by omega
  simp only [if_neg g0]
  refine Ev.bind (ev_c (ev_l08BaseR b)) ?_
  simp only [decide_eq_true h2.1, decide_eq_true h2.2, Bool.and_self, if_true]
  refine Ev.bind (ev_c (ev_l01In _ 1 32)) ?_
  have k1 : (1 : Int) ≤ (P.length : Int) := by omega
  have k2 : (P.length : Int) ≤ 32 := by omega
  simp only [decide_eq_true k1, decide_eq_true k2, Bool.and_self, Bool.not_true]
  refine ev_s ?_
  simp only [spec_Rejoin.j0, Bool.false_eq_true, if_false]
  exact ev_sj0_good h3 (by omega) (ev_sj1 h3 (by omega) (by omega) hr1 (fun r hr => (hr2 r hr).1) _ 0 (Nat.zero_add _) [] rfl) P.length 0 (by omega) h4
theorem ev_sRejoin_bad {f : Int} {P : List (List Int)} {b : Int} (hP : P.length ≤ 1048576) (h : ¬ rjOk f P b) : Ev (fun k => spec_Rejoin.f k f P b) ([], false) := by
  have bad : Ev (fun k => spec_Rejoin.j0 k f P b true) ([], false) := by
    refine ev_s ?_
    simp only [spec_Rejoin.j0, if_true]; exact Ev.now _
  unfold spec_Rejoin.f
  refine Ev.bind (ev_c (ev_Modulus f)) ?_
  by_cases hf : 0 ≤ f ∧ f < 9
  · have hp := pm_of hf
    unfold Pm at hp
    have g0 : ¬ (md f = 0) := by omega
    simp only [if_neg g0]
    refine Ev.bind (ev_c (ev_l08BaseR b)) ?_
    by_cases hb : 2 ≤ b ∧ b ≤ 65536
    · simp only [decide_eq_true hb.1, decide_eq_true hb.2, Bool.and_self, if_true]
      refine Ev.bind (ev_c (ev_l01In _ 1 32)) ?_
      by_cases hc : (1 : Int) ≤ (P.length : Int) ∧ (P.length : Int) ≤ 32
      · simp only [decide_eq_true hc.1, decide_eq_true hc.2, Bool.and_self, Bool.not_true]
        refine ev_s ?_
        simp only [spec_Rejoin.j0, Bool.false_eq_true, if_false]
        exact ev_sj0_bad hP P.length 0 (by omega) (fun c => h ⟨by omega, hb, hf, c⟩)
      · have : (decide ((1 : Int) ≤ (P.length : Int)) && decide ((P.length : Int) ≤ 32)) = false := by
          rw [← Bool.not_eq_true, Bool.and_eq_true, decide_eq_true_eq, decide_eq_true_eq]
          exact hc
        simp only [this, Bool.not_false]
        exact bad
    · have : (decide (2 ≤ b) && decide (b ≤ 65536)) = false := by
        rw [← Bool.not_eq_true, Bool.and_eq_true, decide_eq_true_eq, decide_eq_true_eq]
        exact hb
      simp only [this, Bool.false_eq_true, if_false]
      exact bad
  · have g0 : md f = 0 := md_bad hf
    simp only [if_pos g0]
    exact bad

/-- Rows that are not too many and not too long. -/
def FewB (P : List (List Int)) : Prop := P.length ≤ 1048576 ∧ ∀ r ∈ P, r.length ≤ 1048576
theorem rd1B_at {P : List (List Int)} {i : Nat} (h : i < P.length) : rd_L1 P (i : Int) = P[i] := by
  unfold rd_L1
  rw [Int.toNat_natCast, List.getD_eq_getElem?_getD, List.getElem?_eq_getElem h]; rfl
theorem rd1B_mid (D : List (List Int)) (q : List Int) (L : List (List Int)) : rd_L1 (D ++ q :: L) (D.length : Int) = q := by
  rw [rd1B_at (by rw [List.length_append, List.length_cons]; omega)]
  simp
theorem setB_mid (D : List (List Int)) (q q' : List Int) (L : List (List Int)) : (D ++ q :: L).set D.length q' = (D ++ [q']) ++ L := by
  rw [List.set_append_right _ _ (Nat.le_refl _), Nat.sub_self, List.set_cons_zero, List.append_assoc]
  rfl
theorem midB (D : List (List Int)) (q : List Int) (L : List (List Int)) : (D ++ [q]) ++ L = D ++ q :: L := by rw [List.append_assoc]; rfl
theorem ev_eqIntSSB {P : List (List Int)} (h : FewB P) : Ev (fun k => laws_eqIntSS.f k P P) true := by
  have key : ∀ (n i : Nat), i + n = P.length → Ev (fun k => laws_eqIntSS.l0 k P P (i : Int)) true := by
    have hP := h.1
    intro n
    induction n with
    | zero =>
      intro i e
      refine ev_s ?_
      have g1 : ¬ ((i : Int) < (P.length : Int)) := by omega
      simp only [laws_eqIntSS.l0, if_neg g1]; exact Ev.now _
    | succ n ih =>
      intro i e
      refine ev_s ?_
      have hi : i < P.length := by omega
      have g1 : ((i : Int) < (P.length : Int)) := by omega
      have g2 : (0 : Int) ≤ (i : Int) := by omega
      have hr := h.2 _ (List.getElem_mem hi)
      simp only [laws_eqIntSS.l0, if_pos g1, if_pos g2, rd1B_at hi]
      refine Ev.bind (ev_eqIntS _ (by omega)) ?_
      simp only [if_true, w_succ (n := i) (by omega)]
      exact ih (i + 1) (by omega)
  unfold laws_eqIntSS.f
  simp only [if_true]
  exact key P.length 0 (by omega)
theorem ev_markGB : ∀ (L D : List (List Int)) (m : Int), (∀ r ∈ L, r.length ≤ 1048576) → D.length + L.length ≤ 1048576 → 0 ≤ m → m + 1048576 * L.length ≤ 1152921504606846976 →
    ∃ t M, Ev (fun k => laws_markIntSS.g k (D ++ L) m (D.length : Int)) (t, M) ∧ 0 ≤ t
  | [], D, m, hr, hl, h0, h1 => by
    refine ⟨m, D ++ [], ?_, h0⟩
    refine ev_s ?_
    have g1 : ¬ ((D.length : Int) < ((D ++ ([] : List (List Int))).length : Int)) := by simp
    simp only [laws_markIntSS.g, if_neg g1]
    exact Ev.now _
  | q :: L, D, m, hr, hl, h0, h1 => by
    have hq := hr q List.mem_cons_self
    rw [List.length_cons] at hl h1
    obtain ⟨t, M, hE, ht⟩ := ev_markGB L (D ++ [marks q.length m]) (m + q.length) (fun r h => hr r (List.mem_cons_of_mem _ h)) (by rw [List.length_append]; simp; omega) (by omega) (by omega)
    refine ⟨t, M, ?_, ht⟩
    refine ev_s ?_
    have g1 : ((D.length : Int) < ((D ++ q :: L).length : Int)) := by rw [List.length_append, List.length_cons]; omega
    have g2 : (0 : Int) ≤ (D.length : Int) := by omega
    simp only [laws_markIntSS.g, if_pos g1, if_pos g2, rd1B_mid, Int.toNat_natCast]
    refine Ev.bind (ev_mark q m (by omega) h0 (by omega)) ?_
    rw [setB_mid, w_succ (by omega)]
    have e1 : (D ++ [marks q.length m]).length = D.length + 1 := by simp
    rw [e1] at hE
    exact hE
theorem ev_markSSB {P : List (List Int)} (h : FewB P) : ∃ t, Ev (fun k => laws_markIntSS.f k P 1) t ∧ 0 ≤ t := by
  have hP := h.1
  obtain ⟨t, M, ⟨K, hK⟩, ht⟩ := ev_markGB P [] 1 h.2 (by simp; omega) (by omega) (by omega)
  refine ⟨t, ⟨K, fun k hk => ?_⟩, ht⟩
  unfold laws_markIntSS.f
  have := hK k hk
  simp only [List.nil_append, List.length_nil] at this
  show Option.map Prod.fst (laws_markIntSS.g k P 1 ((0 : Nat) : Int)) = _
  rw [this]; rfl
theorem ev_szG : ∀ (L D : List (List Int)) (m : Int), (∀ r ∈ L, r.length ≤ maxLen) → D.length + L.length ≤ 1048576 → 0 ≤ m → m ≤ 1048576 →
    ∃ t, Ev (fun k => laws_szIntSS.l0 k (D ++ L) m (D.length : Int)) t ∧ (t < 0 ∨ ∀ r ∈ L, r.length ≤ 1048576)
  | [], D, m, hr, hl, h0, h1 => by
    refine ⟨m, ?_, .inr (fun r h => by cases h)⟩
    refine ev_s ?_
    have g1 : ¬ ((D.length : Int) < ((D ++ ([] : List (List Int))).length : Int)) := by simp
    simp only [laws_szIntSS.l0, if_neg g1]
    exact Ev.now _
  | q :: L, D, m, hr, hl, h0, h1 => by
    have hq := hr q List.mem_cons_self
    unfold maxLen at hq
    rw [List.length_cons] at hl
    have g1 : ((D.length : Int) < ((D ++ q :: L).length : Int)) := by rw [List.length_append, List.length_cons]; omega
    have g2 : (0 : Int) ≤ (D.length : Int) := by omega
    have ew : wrap64 (m - (q.length : Int)) = m - (q.length : Int) := w64 (by omega) (by omega)
    by_cases c : m - (q.length : Int) < 0
    · refine ⟨-1, ?_, .inl (by omega)⟩
      refine ev_s ?_
      simp only [laws_szIntSS.l0, laws_szIntS.f, if_pos g1, if_pos g2, rd1B_mid, ew, if_pos c]
      exact Ev.now _
    · obtain ⟨t, hE, ht⟩ := ev_szG L (D ++ [q]) (m - (q.length : Int)) (fun r h => hr r (List.mem_cons_of_mem _ h)) (by rw [List.length_append]; simp; omega) (by omega) (by omega)
      refine ⟨t, ?_, ht.imp id (fun h r hh => ?_)⟩
      · refine ev_s ?_
        have e1 : (D ++ [q]).length = D.length + 1 := by simp
        rw [e1, midB] at hE
        simp only [laws_szIntSS.l0, laws_szIntS.f, if_pos g1, if_pos g2, rd1B_mid, ew, if_neg c, Option.bind_some]
        rw [w_succ (by omega)]
        exact hE
      · rcases List.mem_cons.1 hh with hh | hh
        · subst hh; omega
        · exact h r hh
theorem ev_szIntSS (P : List (List Int)) (hl : P.length ≤ maxLen) (hr : ∀ r ∈ P, r.length ≤ maxLen) : ∃ t, Ev (fun k => laws_szIntSS.f k P 1048576) t ∧ (t < 0 ∨ FewB P) := by
  have hl' := hl
  unfold maxLen at hl'
  have ew : wrap64 (1048576 - (P.length : Int)) = 1048576 - (P.length : Int) := w64 (by omega) (by omega)
  by_cases c : 1048576 - (P.length : Int) < 0
  · refine ⟨-1, ?_, .inl (by omega)⟩
    unfold laws_szIntSS.f
    simp only [ew, if_pos c]
    exact Ev.now _
  · obtain ⟨t, hE, ht⟩ := ev_szG P [] (1048576 - (P.length : Int)) hr (by simp; omega) (by omega) (by omega)
    refine ⟨t, ?_, ht.imp id (fun h => ⟨by omega, h⟩)⟩
    unfold laws_szIntSS.f
    simp only [ew, if_neg c]
    exact hE
theorem ev_toSSG : ∀ (L D : List (List Int)), (∀ r ∈ L, r.length ≤ 1048576) → D.length + L.length ≤ 1048576 →
    Ev (fun k => laws_toIntSS.l0 k (D ++ L) (D ++ List.replicate L.length []) (D.length : Int)) (D ++ L)
  | [], D, hr, hl => by
    refine ev_s ?_
    have g1 : ¬ ((D.length : Int) < ((D ++ ([] : List (List Int))).length : Int)) := by simp
    simp only [laws_toIntSS.l0, if_neg g1]
    exact Ev.now _
  | q :: L, D, hr, hl => by
    have hq := hr q List.mem_cons_self
    rw [List.length_cons] at hl
    have hh := ev_toSSG L (D ++ [q]) (fun r h => hr r (List.mem_cons_of_mem _ h)) (by rw [List.length_append]; simp; omega)
    have e1 : (D ++ [q]).length = D.length + 1 := by simp
    rw [e1, midB] at hh
    have g1 : ((D.length : Int) < ((D ++ q :: L).length : Int)) := by rw [List.length_append, List.length_cons]; omega
    have g2 : (0 : Int) ≤ (D.length : Int) := by omega
    have er : List.replicate (q :: L).length ([] : List Int) = [] :: List.replicate L.length [] := rfl
    rw [er]
    have g3 : ((D.length : Int) < ((D ++ [] :: List.replicate L.length ([] : List Int)).length : Int)) := by rw [List.length_append, List.length_cons]; omega
    refine ev_s ?_
    simp only [laws_toIntSS.l0, if_pos g1, if_pos g2, if_pos g3, rd1B_mid, Int.toNat_natCast]
    refine Ev.bind (ev_toIntS q (by omega)) ?_
    rw [setB_mid, w_succ (by omega)]
    exact hh
theorem ev_toIntSS {P : List (List Int)} (h : FewB P) : Ev (fun k => laws_toIntSS.f k P) P := by
  have hP := h.1
  have g1 : (0 : Int) ≤ (P.length : Int) := by omega
  have g2 : P.length ≤ 11728124029610 := by omega
  unfold laws_toIntSS.f
  simp only [if_pos g1, Int.toNat_natCast, if_pos g2]
  exact ev_toSSG P [] h.2 (by simp; omega)

theorem FnExactRejoin : laws_FnExactRejoin.Pure := by
  intro f P b hl hr
  refine Ev.rounds ?_
  unfold laws_FnExactRejoin.f
  obtain ⟨t, hsz, hF⟩ := ev_szIntSS P hl hr
  refine Ev.bind hsz ?_
  by_cases ht : t < 0
  · simp only [if_pos ht]; exact Ev.now _
  simp only [if_neg ht]
  have hF : FewB P := hF.resolve_left ht
  have hP := hF.1
  obtain ⟨R1, R2, hR1, hR2, hRl⟩ : ∃ (R1 : List Int) (R2 : Bool), Ev (fun k => spec_Rejoin.f k f P b) (R1, R2) ∧ Ev (fun k => impl_Rejoin.f k f P b) (R1, R2) ∧ R1.length ≤ 1048576 := by
    by_cases h : rjOk f P b
    · exact ⟨_, _, ev_sRejoin h, ev_iRejoin h, by have := h.rows.1; unfold rejS; rw [List.length_map, List.length_range]; omega⟩
    · exact ⟨_, _, ev_sRejoin_bad hP h, ev_iRejoin_bad hP h, by simp⟩
  obtain ⟨m, hM, hm⟩ := ev_markSSB hF
  have nm : ¬ (m < 0) := by omega
  have nR : ¬ ((1 : Int) + (R1.length : Int) < 0) := by omega
  refine Ev.bind (ev_toIntSS hF) ?_
  refine Ev.bind hR1 ?_
  refine Ev.bind (ev_toIntSS hF) ?_
  refine Ev.bind hR2 ?_
  refine Ev.bind (ev_eqIntS R1 (by omega)) ?_
  simp only [if_true, bne_self_eq_false]
  refine ev_s ?_
  simp only [laws_FnExactRejoin.j0, Bool.false_eq_true, if_false]
  refine Ev.bind (ev_toIntSS hF) ?_
  refine Ev.bind (ev_eqIntSSB hF) ?_
  simp only [if_true]
  refine Ev.bind hM ?_
  simp only [if_neg nm]
  refine Ev.bind (ev_eqIntS R1 (by omega)) ?_
  simp only [if_true, bne_self_eq_false]
  refine ev_s ?_
  simp only [laws_FnExactRejoin.j1, Bool.false_eq_true, if_false]
  refine Ev.bind (ev_mark R1 1 (by omega) (by omega) (by omega)) ?_
  refine Ev.bind (ev_held R1.length 1 (by omega) (by omega) (by omega)) ?_
  simp only [if_neg nR, if_true]
  refine Ev.bind (ev_toIntSS hF) ?_
  refine Ev.bind hR2 ?_
  refine Ev.bind (ev_eqIntS R1 (by omega)) ?_
  simp only [if_true, bne_self_eq_false]
  refine ev_s ?_
  simp only [laws_FnExactRejoin.j2, Bool.false_eq_true, if_false]
  refine Ev.bind (ev_held R1.length 1 (by omega) (by omega) (by omega)) ?_
  simp only [if_neg nR, if_true]
  exact Ev.now _

end Go.Proofs.Ytgjogfohknjpmaa.Pure
