/- FnExactEncodeWord returns true for every field number and two lists: both give the same word. -/
import Derived.Test.YthdmhmhcmokieaaPFnExactEncodeWordx6
import Derived.Test.YthdmhmhcmokieaaGB
import Derived.Test.YthdmhmhcmokieaaGK
set_option linter.unusedVariables false
set_option linter.unusedSimpArgs false
namespace Go.Proofs.Ythdmhmhcmokieaa.Pure
open Go.RowKit Go.Proofs.Ythdmhmhcmokieaa.PFnExactEncodeWord Go.Proofs.YthdmhmhcmokieaaW.PrintWords Go.Proofs.YthdmhmhcmokieaaW.PrintLast Go.Proofs.YthdmhmhcmokieaaW.PrintMore G7
theorem ev_toIntS (l : List Int) (hl : l.length ≤ 35184372088832) : Ev (fun k => laws_toIntS.f k l) l := by
  have key : ∀ (d i : Nat) (out : List Int), i + d = l.length → out.length = l.length → (∀ j : Nat, j < i → rd out (j : Int) = rd l (j : Int)) → Ev (fun k => laws_toIntS.l0 k l out (i : Int)) l := by
    intro d
    induction d with
    | zero =>
      intro i out hi ho hx
      refine ev_s ?_
      have h1 : ¬ ((i : Int) < (l.length : Int)) := by omega
      simp only [laws_toIntS.l0, h1, if_false]
      rw [ext_rd ho (fun j hj => hx j (by omega))]
      exact Ev.now _
    | succ d ih =>
      intro i out hi ho hx
      refine ev_s ?_
      have h1 : (i : Int) < (l.length : Int) := by omega
      have h2 : (0 : Int) ≤ (i : Int) := by omega
      have h3 : (i : Int) < (out.length : Int) := by omega
      simp only [laws_toIntS.l0, h1, h2, h3, if_true, w_succ (n := i) (by omega), Int.toNat_natCast]
      refine ih (i + 1) _ (by omega) (by rw [List.length_set]; exact ho) (fun j hj => ?_)
      by_cases c : i = j
      · subst c; rw [rd_set_eq (by omega)]
      · rw [rd_set_ne c]; exact hx j (by omega)
  unfold laws_toIntS.f
  have h1 : (0 : Int) ≤ (l.length : Int) := by omega
  simp only [h1, if_true, Int.toNat_natCast, hl]
  exact key l.length 0 _ (by omega) (by simp) (fun j hj => by omega)

theorem ev_eqIntS (l : List Int) (hl : l.length ≤ 35184372088832) : Ev (fun k => laws_eqIntS.f k l l) true := by
  have key : ∀ (d i : Nat), i + d = l.length → Ev (fun k => laws_eqIntS.l0 k l l (i : Int)) true := by
    intro d
    induction d with
    | zero =>
      intro i hi
      refine ev_s ?_
      have h1 : ¬ ((i : Int) < (l.length : Int)) := by omega
      simp only [laws_eqIntS.l0, h1, if_false]
      exact Ev.now _
    | succ d ih =>
      intro i hi
      refine ev_s ?_
      have h1 : (i : Int) < (l.length : Int) := by omega
      have h2 : (0 : Int) ≤ (i : Int) := by omega
      simp only [laws_eqIntS.l0, h1, h2, if_true, w_succ (n := i) (by omega)]
      exact ih (i + 1) (by omega)
  unfold laws_eqIntS.f
  simp only [if_true]
  exact key l.length 0 (by omega)

/-- What markIntS leaves. -/
def marks (n : Nat) (m : Int) : List Int := (List.range n).map (fun i => m + (i : Nat))
theorem marks_len (n : Nat) (m : Int) : (marks n m).length = n := by simp [marks]
theorem marks_rd {n i : Nat} (m : Int) (h : i < n) : rd (marks n m) (i : Int) = m + i := by unfold marks; rw [rd_map _ h]
theorem ev_mark (l : List Int) (m : Int) (hl : l.length ≤ 35184372088832) (h0 : 0 ≤ m) (h1 : m ≤ 4611686018427387904) : Ev (fun k => laws_markIntS.f k l m) (m + l.length, marks l.length m) := by
  have key : ∀ (d i : Nat) (out : List Int), i + d = l.length → out.length = l.length → (∀ j : Nat, j < i → rd out (j : Int) = m + j) → Ev (fun k => laws_markIntS.l0 k out (m + i) (i : Int)) (m + l.length, marks l.length m) := by
    intro d
    induction d with
    | zero =>
      intro i out hi ho hx
      refine ev_s ?_
      have g1 : ¬ ((i : Int) < (out.length : Int)) := by omega
      simp only [laws_markIntS.l0, g1, if_false]
      have e : out = marks l.length m := ext_rd (by rw [marks_len, ho]) (fun j hj => by rw [marks_rd m (by omega)]; exact hx j (by omega))
      rw [e, show i = l.length by omega]
      exact Ev.now _
    | succ d ih =>
      intro i out hi ho hx
      refine ev_s ?_
      have g1 : (i : Int) < (out.length : Int) := by omega
      have g2 : (0 : Int) ≤ (i : Int) := by omega
      simp only [laws_markIntS.l0, g1, g2, if_true, w_succ (n := i) (by omega), Int.toNat_natCast, w64 (x := m + (i : Int) + 1) (by omega) (by omega)]
      rw [show m + (i : Int) + 1 = m + ((i + 1 : Nat) : Int) by omega]
      refine ih (i + 1) _ (by omega) (by rw [List.length_set]; exact ho) (fun j hj => ?_)
      by_cases c : i = j
      · subst c; rw [rd_set_eq (by omega)]
      · rw [rd_set_ne c]; exact hx j (by omega)
  unfold laws_markIntS.f
  have := key l.length 0 l (by omega) rfl (fun j hj => by omega)
  simpa using this
theorem ev_held (n : Nat) (m : Int) (hl : n ≤ 35184372088832) (h0 : 0 ≤ m) (h1 : m ≤ 4611686018427387904) : Ev (fun k => laws_heldIntS.f k (marks n m) m) (m + n) := by
  have key : ∀ (d i : Nat), i + d = n → Ev (fun k => laws_heldIntS.l0 k (marks n m) (m + i) (i : Int)) (m + n) := by
    intro d
    induction d with
    | zero =>
      intro i hi
      refine ev_s ?_
      have g1 : ¬ ((i : Int) < ((marks n m).length : Int)) := by rw [marks_len]; omega
      simp only [laws_heldIntS.l0, g1, if_false]
      rw [show i = n by omega]
      exact Ev.now _
    | succ d ih =>
      intro i hi
      refine ev_s ?_
      have g1 : (i : Int) < ((marks n m).length : Int) := by rw [marks_len]; omega
      have g2 : (0 : Int) ≤ (i : Int) := by omega
      simp only [laws_heldIntS.l0, g1, g2, if_true, marks_rd m (show i < n by omega), w_succ (n := i) (by omega), w64 (x := m + (i : Int) + 1) (by omega) (by omega)]
      rw [show m + (i : Int) + 1 = m + ((i + 1 : Nat) : Int) by omega]
      exact ih (i + 1) (by omega)
  unfold laws_heldIntS.f
  have := key n 0 (by omega)
  simpa using this

theorem ev_l01In (x a b : Int) : spec_l01In.f x a b = some (decide (a ≤ x) && decide (x ≤ b)) := by
  unfold spec_l01In.f
  by_cases h : a ≤ x
  · rw [if_pos h, decide_eq_true h, Bool.true_and]
  · rw [if_neg h, decide_eq_false h, Bool.false_and]

theorem ev_Modulus (f : Int) : spec_Modulus.f f = some (md f) := by
  unfold spec_Modulus.f md
  by_cases h0 : f = 0
  · rw [if_pos h0, if_pos h0]
  rw [if_neg h0, if_neg h0]
  by_cases h1 : f = 1
  · rw [if_pos h1, if_pos h1]
  rw [if_neg h1, if_neg h1]
  by_cases h2 : f = 2
  · rw [if_pos h2, if_pos h2]
  rw [if_neg h2, if_neg h2]
  by_cases h3 : f = 3
  · rw [if_pos h3, if_pos h3]
  rw [if_neg h3, if_neg h3]
  by_cases h4 : f = 4
  · rw [if_pos h4, if_pos h4]
  rw [if_neg h4, if_neg h4]
  by_cases h5 : f = 5
  · rw [if_pos h5, if_pos h5]
  rw [if_neg h5, if_neg h5]
  by_cases h6 : f = 6
  · rw [if_pos h6, if_pos h6]
  rw [if_neg h6, if_neg h6]
  by_cases h7 : f = 7
  · rw [if_pos h7, if_pos h7]
  rw [if_neg h7, if_neg h7]
  by_cases h8 : f = 8
  · rw [if_pos h8, if_pos h8]
  rw [if_neg h8, if_neg h8]

theorem ev_l03Elements {f : Int} (h : 0 ≤ f ∧ f < 9) (l : List Int) (hl : l.length ≤ 35184372088832) : Ev (fun k => spec_l03Elements.f k f l) (elB (md f) l) := by
  have hp := pm_of h
  unfold Pm at hp
  have key : ∀ (d i : Nat), i + d = l.length → Ev (fun k => spec_l03Elements.l0 k l (md f) (i : Int)) (elB (md f) (l.drop i)) := by
    intro d
    induction d with
    | zero =>
      intro i hi
      refine ev_s ?_
      have h1 : ¬ ((i : Int) < (l.length : Int)) := by omega
      simp only [spec_l03Elements.l0, h1, if_false]
      rw [List.drop_of_length_le (by omega)]
      exact Ev.now _
    | succ d ih =>
      intro i hi
      refine ev_s ?_
      have h1 : (i : Int) < (l.length : Int) := by omega
      have h2 : (0 : Int) ≤ (i : Int) := by omega
      simp only [spec_l03Elements.l0, h1, h2, if_true, w_succ (n := i) (by omega), w64 (x := md f - 1) (by omega) (by omega), ev_l01In, Option.bind_some]
      rw [elB_drop (by omega)]
      rw [show decide (rd l (i : Int) < md f) = decide (rd l (i : Int) ≤ md f - 1) from decide_eq_decide.2 (by omega)]
      by_cases c : (decide (0 ≤ rd l (i : Int)) && decide (rd l (i : Int) ≤ md f - 1)) = true
      · simp only [c, if_true, Bool.true_and]
        exact ih (i + 1) (by omega)
      · simp only [Bool.not_eq_true] at c
        simp only [c, Bool.false_and, Bool.false_eq_true, if_false]
        exact Ev.now _
  unfold spec_l03Elements.f
  simp only [ev_Modulus, Option.bind_some]
  have h0 : ¬ (md f = 0) := by omega
  simp only [h0, if_false]
  exact key l.length 0 (by omega)
theorem ev_l03Elements_bad {f : Int} (h : ¬ (0 ≤ f ∧ f < 9)) (l : List Int) : Ev (fun k => spec_l03Elements.f k f l) false := by
  unfold spec_l03Elements.f
  simp only [ev_Modulus, Option.bind_some, md_bad h, if_true]
  exact Ev.now _

theorem ev_PolyOk {f : Int} {l : List Int} (h : PolyV f l) : Ev (fun k => spec_PolyOk.f k f l) true := by
  obtain ⟨hf, h1, h2, h3⟩ := h
  unfold spec_PolyOk.f
  have g1 : ¬ ((l.length : Int) > 400) := by omega
  simp only [g1, if_false]
  refine Ev.bind (ev_l03Elements hf l (by omega)) ?_
  simp only [elB_iff.2 h2, if_true]
  by_cases g2 : (l.length : Int) = 0
  · simp only [g2, if_true]; exact Ev.now _
  · have ew : wrap64 ((l.length : Int) - 1) = ((l.length - 1 : Nat) : Int) := by rw [w64 (by omega) (by omega)]; omega
    have g3 : (0 : Int) ≤ ((l.length - 1 : Nat) : Int) := by omega
    have g4 : ((l.length - 1 : Nat) : Int) < (l.length : Int) := by omega
    simp only [g2, ew, g3, g4, if_true, if_false]
    rw [show (rd l ((l.length - 1 : Nat) : Int) != 0) = true from bne_iff_ne.2 (h3 (by omega))]
    exact Ev.now _
theorem ev_PolyOk_bad {f : Int} {l : List Int} (h : ¬ PolyV f l) : Ev (fun k => spec_PolyOk.f k f l) false := by
  unfold spec_PolyOk.f
  by_cases g1 : (l.length : Int) > 400
  · simp only [g1, if_true]; exact Ev.now _
  simp only [g1, if_false]
  by_cases hf : 0 ≤ f ∧ f < 9
  · refine Ev.bind (ev_l03Elements hf l (by omega)) ?_
    cases he : elB (md f) l with
    | false => simp only [Bool.false_eq_true, if_false]; exact Ev.now _
    | true =>
      simp only [if_true]
      have h2 := elB_iff.1 he
      by_cases g2 : (l.length : Int) = 0
      · exact absurd ⟨hf, by omega, h2, fun c => by omega⟩ h
      · have ew : wrap64 ((l.length : Int) - 1) = ((l.length - 1 : Nat) : Int) := by rw [w64 (by omega) (by omega)]; omega
        have g3 : (0 : Int) ≤ ((l.length - 1 : Nat) : Int) := by omega
        have g4 : ((l.length - 1 : Nat) : Int) < (l.length : Int) := by omega
        simp only [g2, ew, g3, g4, if_true, if_false]
        have : (rd l ((l.length - 1 : Nat) : Int) != 0) = false := by
          rw [← Bool.not_eq_true, bne_iff_ne]
          intro c
          exact h ⟨hf, by omega, h2, fun _ => c⟩
        rw [this]; exact Ev.now _
  · refine Ev.bind (ev_l03Elements_bad hf l) ?_
    simp only [Bool.false_eq_true, if_false]; exact Ev.now _

theorem ev_Reduce {f : Int} (h : 0 ≤ f ∧ f < 9) (x : Int) : spec_Reduce.f f x = some (x % md f) := by
  have hp := pm_of h
  unfold Pm at hp
  unfold spec_Reduce.f
  rw [ev_Modulus]
  simp only [Option.bind_some]
  rw [if_neg (by omega)]
  have hb := tmod_bounds (a := x) (p := md f) (by omega)
  rw [w64 (by omega) (by omega), ← tmod_fix (a := x) (p := md f) (by omega)]
  by_cases c : Int.tmod x (md f) < 0
  · rw [if_pos c, if_pos c]
  · rw [if_neg c, if_neg c]
theorem ev_Reduce_bad {f : Int} (h : ¬ (0 ≤ f ∧ f < 9)) (x : Int) : spec_Reduce.f f x = some (-1) := by
  unfold spec_Reduce.f
  rw [ev_Modulus]
  simp only [Option.bind_some]
  rw [if_pos (md_bad h)]

theorem ev_PowerL {p : Int} (hp : Pm p) : ∀ (e : Nat) {a : Int}, (0 ≤ a ∧ a < p) → e < 4611686018427387904 → Ev (fun k => spec_Power.j0 k p a (e : Int)) (a ^ e % p) := by
  have hpp := hp
  unfold Pm at hpp
  have key : ∀ (n e : Nat), e ≤ n → e < 4611686018427387904 → ∀ a out : Int, (0 ≤ a ∧ a < p) → (0 ≤ out ∧ out < p) → Ev (fun k => spec_Power.l0 k p a (e : Int) out) (out * a ^ e % p) := by
    intro n
    induction n with
    | zero =>
      intro e he _ a out ha ho
      obtain rfl : e = 0 := by omega
      refine ev_s ?_
      have h1 : ¬ (((0 : Nat) : Int) > 0) := by omega
      simp only [spec_Power.l0, h1, if_false]
      rw [Int.pow_zero, Int.mul_one, em_id ho.1 ho.2]
      exact Ev.now _
    | succ n ih =>
      intro e he hb a out ha ho
      by_cases h0 : e = 0
      · subst h0
        exact ih 0 (by omega) hb a out ha ho
      · refine ev_s ?_
        have h1 : (e : Int) > 0 := by omega
        have h2 : Int.tmod (e : Int) 2 = ((e % 2 : Nat) : Int) := by rw [tmod_nn (by omega)]; omega
        have h3 : wrap64 (Int.tdiv (e : Int) 2) = ((e / 2 : Nat) : Int) := by
          rw [Int.tdiv_eq_ediv_of_nonneg (by omega), w64 (by omega) (by omega)]; omega
        have haa := em_lt (a := a * a) hp.pos
        have hp0 : ¬ (p = 0) := by omega
        have b1 := mul_lt_big ha.1 ha.2 ha.1 ha.2 hpp.2
        have b2 := mul_lt_big ho.1 ho.2 ha.1 ha.2 hpp.2
        simp only [spec_Power.l0, h1, if_true, h2, h3, hp0, if_false, w64 (x := a * a) (by omega) (by omega), w64 (x := out * a) (by omega) (by omega), tmod_nn b1.1, tmod_nn b2.1]
        by_cases c : e % 2 = 1
        · have hoa := em_lt (a := out * a) hp.pos
          simp only [c, Int.natCast_one, if_true]
          refine ev_to (ih (e / 2) (by omega) (by omega) (a * a % p) (out * a % p) haa hoa) ?_
          have e1 : (out * a % p) * (a * a % p) ^ (e / 2) % p = (out * a) * (a * a) ^ (e / 2) % p := emul (Int.emod_emod _ _) (epow_l _)
          rw [e1, ipow2, Int.mul_assoc, ← Int.pow_succ']
          congr 3; omega
        · have c0 : e % 2 = 0 := by omega
          simp only [c0, show ¬ (((0 : Nat) : Int) = 1) from by omega, if_false]
          refine ev_to (ih (e / 2) (by omega) (by omega) (a * a % p) out haa ho) ?_
          have e1 : out * (a * a % p) ^ (e / 2) % p = out * (a * a) ^ (e / 2) % p := emul rfl (epow_l _)
          rw [e1, ipow2]
          congr 3; omega
  intro e a ha he
  refine ev_s ?_
  simp only [spec_Power.j0]
  refine ev_to (key e e (Nat.le_refl _) he a 1 ha (by omega)) ?_
  rw [Int.one_mul]
theorem ev_Power {f : Int} (h : 0 ≤ f ∧ f < 9) {x : Int} (hx : x % md f ≠ 0) (e : Int) : Ev (fun k => spec_Power.f k f x e) ((x % md f) ^ (e % (md f - 1)).toNat % md f) := by
  have hp := pm_of h
  have hpp := hp
  unfold Pm at hpp
  have hxe := em_lt (a := x) hp.pos
  have hb := tmod_bounds (a := e) (p := md f - 1) (by omega)
  have hm := em_lt (a := e) (p := md f - 1) (by omega)
  have hfix := tmod_fix (a := e) (p := md f - 1) (by omega)
  unfold spec_Power.f
  simp only [ev_Modulus, Option.bind_some, ev_Reduce h, hx, if_false, w64 (x := md f - 1) (by omega) (by omega), show ¬ (md f = 0) from by omega, show ¬ (md f - 1 = 0) from by omega]
  have hcast : e % (md f - 1) = (((e % (md f - 1)).toNat : Nat) : Int) := by omega
  by_cases c : Int.tmod e (md f - 1) < 0
  · rw [if_pos c] at hfix
    simp only [c, if_true, w64 (x := Int.tmod e (md f - 1) + md f) (by omega) (by omega), w64 (x := Int.tmod e (md f - 1) + md f - 1) (by omega) (by omega)]
    rw [show Int.tmod e (md f - 1) + md f - 1 = (((e % (md f - 1)).toNat : Nat) : Int) by omega]
    exact ev_PowerL hp _ hxe (by omega)
  · rw [if_neg c] at hfix
    simp only [c, if_false]
    rw [show Int.tmod e (md f - 1) = (((e % (md f - 1)).toNat : Nat) : Int) by omega]
    exact ev_PowerL hp _ hxe (by omega)
theorem ev_Power0 {f : Int} (h : 0 ≤ f ∧ f < 9) {x : Int} (hx : x % md f = 0) (e : Int) : Ev (fun k => spec_Power.f k f x e) (if e = 0 then 1 else if e < 0 then -1 else 0) := by
  have hp := pm_of h
  unfold Pm at hp
  unfold spec_Power.f
  simp only [ev_Modulus, Option.bind_some, ev_Reduce h, hx, if_true, show ¬ (md f = 0) from by omega, if_false]
  by_cases c : e = 0
  · simp only [c, if_true]; exact Ev.now _
  · by_cases c2 : e < 0
    · simp only [c, c2, if_true, if_false]; exact Ev.now _
    · simp only [c, c2, if_false]; exact Ev.now _

theorem ev_PowerN {f : Int} (h : 0 ≤ f ∧ f < 9) {x : Int} (hx : 0 ≤ x ∧ x < md f) (e : Nat) : Ev (fun k => spec_Power.f k f x (e : Int)) (x ^ e % md f) := by
  have hp := pm_of h
  unfold Pm at hp
  by_cases c : x % md f = 0
  · refine ev_to (ev_Power0 h c (e : Int)) ?_
    rw [em_id hx.1 hx.2] at c
    subst c
    by_cases he : e = 0
    · subst he; rw [if_pos (show ((0 : Nat) : Int) = 0 from rfl), Int.pow_zero, em_id (by omega) (by omega)]
    · rw [if_neg (by omega), if_neg (by omega)]
      obtain ⟨q, rfl⟩ : ∃ q, e = q + 1 := ⟨e - 1, by omega⟩
      rw [Int.pow_succ, Int.mul_zero, Int.zero_emod]
  · refine ev_to (ev_Power h c (e : Int)) ?_
    have e1 : ((e : Int) % (md f - 1)).toNat = e % (md f - 1).toNat := by
      have : (md f - 1) = (((md f - 1).toNat : Nat) : Int) := by omega
      rw [this, ← Int.natCast_emod, Int.toNat_natCast, Int.toNat_natCast]
    rw [e1, epow_l, pow_red h c]

theorem ev_Mul {f : Int} (h : 0 ≤ f ∧ f < 9) (x y : Int) : spec_Mul.f f x y = some ((x * y) % md f) := by
  have hp := pm_of h
  have hb := hp
  unfold Pm at hp
  have hx := em_lt (a := x) (p := md f) (by omega)
  have hy := em_lt (a := y) (p := md f) (by omega)
  have hxy := mul_lt_big hx.1 hx.2 hy.1 hy.2 hp.2
  unfold spec_Mul.f
  rw [ev_Modulus]
  simp only [Option.bind_some, ev_Reduce h]
  rw [if_neg (by omega), w64 (by omega) (by omega), emul_l, emul_r]

theorem ev_Add {f : Int} (h : 0 ≤ f ∧ f < 9) (x y : Int) : spec_Add.f f x y = some ((x + y) % md f) := by
  have hp := pm_of h
  unfold Pm at hp
  have hx := em_lt (a := x) (p := md f) (by omega)
  have hy := em_lt (a := y) (p := md f) (by omega)
  unfold spec_Add.f
  rw [ev_Modulus]
  simp only [Option.bind_some, ev_Reduce h]
  rw [if_neg (by omega), w64 (by omega) (by omega), eadd_l, eadd_r]

theorem ev_EvalPoly {f : Int} {l : List Int} (h : PolyV f l) {x : Int} (hx : 0 ≤ x ∧ x < md f) : Ev (fun k => spec_EvalPoly.f k f l x) (evP l x % md f) := by
  have hf := h.1
  have key : ∀ (d i : Nat), i + d = l.length → Ev (fun k => spec_EvalPoly.l0 k f l x (sm i (fun i => rd l (i : Int) * x ^ i) % md f) (i : Int)) (evP l x % md f) := by
    intro d
    induction d with
    | zero =>
      intro i hi
      refine ev_s ?_
      have g1 : ¬ ((i : Int) < (l.length : Int)) := by omega
      simp only [spec_EvalPoly.l0, g1, if_false]
      rw [show i = l.length by omega]; exact Ev.now _
    | succ d ih =>
      intro i hi
      refine ev_s ?_
      have hb := h.2.1
      have g1 : (i : Int) < (l.length : Int) := by omega
      have g2 : (0 : Int) ≤ (i : Int) := by omega
      simp only [spec_EvalPoly.l0, g1, g2, if_true]
      refine Ev.bind (ev_PowerN hf hx i) ?_
      simp only [ev_Mul hf, ev_Add hf, Option.bind_some, w_succ (n := i) (by omega), eadd_l, eadd_r]
      have hs := ih (i + 1) (by omega)
      rw [sm_succ] at hs
      rw [eadd rfl (emul_r (p := md f) (a := rd l (i : Int)) (b := x ^ i))]
      exact hs
  unfold spec_EvalPoly.f
  refine Ev.bind (ev_PolyOk h) ?_
  simp only [if_true]
  have := key l.length 0 (by omega)
  rw [sm_zero, Int.zero_emod] at this
  exact this

theorem ev_l01Copy (l : List Int) (hl : l.length ≤ 17592186044416) : Ev (fun k => spec_l01Copy.f k l) l := by
  have key : ∀ (d i : Nat), i + d = l.length → Ev (fun k => spec_l01Copy.l0 k l (l.take i) (i : Int)) l := by
    intro d
    induction d with
    | zero =>
      intro i hi
      refine ev_s ?_
      have g1 : ¬ ((i : Int) < (l.length : Int)) := by omega
      simp only [spec_l01Copy.l0, g1, if_false]
      rw [List.take_of_length_le (by omega)]; exact Ev.now _
    | succ d ih =>
      intro i hi
      refine ev_s ?_
      have g1 : (i : Int) < (l.length : Int) := by omega
      have g2 : (0 : Int) ≤ (i : Int) := by omega
      have g3 : (l.take i).length < 17592186044416 := by rw [List.length_take]; omega
      simp only [spec_l01Copy.l0, g1, g2, g3, if_true, w_succ (n := i) (by omega)]
      rw [rd_at (show i < l.length by omega), List.take_append_getElem (show i < l.length by omega)]
      exact ih (i + 1) (by omega)
  exact key l.length 0 (by omega)

theorem ev_l03Cut (l : List Int) (hl : l.length ≤ 100000) : Ev (fun k => spec_l03Cut.f k l) (cutS l) := by
  have key : ∀ n, n ≤ l.length → Ev (fun k => spec_l03Cut.l0 k l (n : Int)) (cutN l n) := by
    intro n
    induction n with
    | zero =>
      intro hn
      refine ev_s ?_
      have g1 : ¬ (((0 : Nat) : Int) > 0) := by omega
      have g2 : (0 : Int) ≤ ((0 : Nat) : Int) := by omega
      have g3 : ((0 : Nat) : Int) ≤ (l.length : Int) := by omega
      simp only [spec_l03Cut.l0, g1, g2, g3, if_true, if_false, Int.toNat_natCast]
      refine Ev.bind (ev_l01Copy _ (by simp)) ?_
      exact Ev.now _
    | succ n ih =>
      intro hn
      refine ev_s ?_
      have g1 : ((n + 1 : Nat) : Int) > 0 := by omega
      have ew : wrap64 (((n + 1 : Nat) : Int) - 1) = (n : Int) := by rw [w64 (by omega) (by omega)]; omega
      have g2 : (0 : Int) ≤ (n : Int) := by omega
      have g3 : (n : Int) < (l.length : Int) := by omega
      unfold cutN
      by_cases c : rd l (n : Int) = 0
      · simp only [spec_l03Cut.l0, g1, ew, g2, g3, c, if_true]
        exact ih (by omega)
      · have g4 : (0 : Int) ≤ ((n + 1 : Nat) : Int) := by omega
        have g5 : ((n + 1 : Nat) : Int) ≤ (l.length : Int) := by omega
        simp only [spec_l03Cut.l0, g1, ew, g2, g3, g4, g5, c, if_true, if_false, Int.toNat_natCast]
        refine Ev.bind (ev_l01Copy _ (by simp; omega)) ?_
        exact Ev.now _
  exact key l.length (Nat.le_refl _)

theorem ev_eval {p : Int} (hp : Pm p) (g t : Int) {l : List Int} (hl : l.length ≤ 512) (he : El p l) {x : Int} (hx : 0 ≤ x ∧ x < p) : Ev (fun k => impl_field_eval.f k p g t l x) (evP l x % p) := by
  have hpp := hp
  unfold Pm at hpp
  have key : ∀ (i d : Nat), i + d = l.length → Ev (fun k => impl_field_eval.l0 k l x (hzP l x i d % p) ((i : Int) - 1) p g t) (evP l x % p) := by
    intro i
    induction i with
    | zero =>
      intro d hd
      refine ev_s ?_
      have g1 : ¬ (((0 : Nat) : Int) - 1 ≥ 0) := by omega
      simp only [impl_field_eval.l0, g1, if_false]
      rw [show d = l.length by omega, hzP_all]; exact Ev.now _
    | succ i ih =>
      intro d hd
      refine ev_s ?_
      rw [show ((i + 1 : Nat) : Int) - 1 = (i : Int) by omega]
      have g1 : (i : Int) ≥ 0 := by omega
      have g2 : (0 : Int) ≤ (i : Int) := by omega
      have g3 : (i : Int) < (l.length : Int) := by omega
      have g4 : ¬ (p = 0) := by omega
      have hz := em_lt (a := hzP l x (i + 1) d) hp.pos
      have hm := mul_lt_big hz.1 hz.2 hx.1 hx.2 hpp.2
      have hr := he.rd hp.pos (i : Int)
      simp only [impl_field_eval.l0, g1, g2, g3, g4, if_true, if_false, w64 (x := hzP l x (i + 1) d % p * x) (by omega) (by omega)]
      rw [w64 (x := hzP l x (i + 1) d % p * x + rd l (i : Int)) (by omega) (by omega), tmod_nn (by omega), w64 (by omega) (by omega)]
      have hs := ih (d + 1) (by omega)
      rw [hzP_step] at hs
      rw [eadd (emul_l (p := p) (a := hzP l x (i + 1) d) (b := x)) rfl]
      exact hs
  unfold impl_field_eval.f
  have := key l.length 0 (by omega)
  rw [w64 (by omega) (by omega)]
  exact this

theorem ev_evalMany {p : Int} (hp : Pm p) (g t : Int) {l m : List Int} (hl : l.length ≤ 512) (he : El p l) (hm : m.length ≤ 512) (hme : El p m) : Ev (fun k => impl_field_evalMany.f k p g t l m) ((List.range m.length).map (fun (i : Nat) => evP l (rd m (i : Int)) % p)) := by
  have key : ∀ (d i : Nat) (out : List Int), i + d = m.length → out = (List.range i).map (fun (i : Nat) => evP l (rd m (i : Int)) % p) → Ev (fun k => impl_field_evalMany.l0 k l out m (m.length : Int) (i : Int) p g t) ((List.range m.length).map (fun (i : Nat) => evP l (rd m (i : Int)) % p)) := by
    intro d
    induction d with
    | zero =>
      intro i out hi ho
      refine ev_s ?_
      have g1 : ¬ ((i : Int) < (m.length : Int)) := by omega
      simp only [impl_field_evalMany.l0, g1, if_false]
      rw [ho, show i = m.length by omega]; exact Ev.now _
    | succ d ih =>
      intro i out hi ho
      refine ev_s ?_
      have g1 : (i : Int) < (m.length : Int) := by omega
      have g2 : (0 : Int) ≤ (i : Int) := by omega
      have g3 : out.length < 17592186044416 := by subst ho; simp; omega
      simp only [impl_field_evalMany.l0, g1, g2, if_true]
      refine Ev.bind (ev_eval hp g t hl he (hme.rd hp.pos (i : Int))) ?_
      simp only [g3, if_true, w_succ (n := i) (by omega)]
      exact ih (i + 1) _ (by omega) (by rw [map_snoc, ho])
  exact key m.length 0 [] (by omega) rfl

def hasB (m : List Int) (x : Int) : Bool := m.any (fun y => decide (y = x))
theorem hasB_drop {l : List Int} {x : Int} {i : Nat} (h : i < l.length) : hasB (l.drop i) x = (decide (rd l (i : Int) = x) || hasB (l.drop (i + 1)) x) := by
  rw [drop_cons h]; rfl
def allB (l : List Int) : Nat → Nat → Bool
  | _, 0 => true
  | i, d + 1 => !hasB (l.take i) (rd l (i : Int)) && allB l (i + 1) d
/-- Points of a field. -/
def PtsOk (f : Int) (l : List Int) : Prop := (0 ≤ f ∧ f < 9) ∧ 1 ≤ l.length ∧ l.length ≤ 40 ∧ El (md f) l ∧ allB l 0 l.length = true

theorem ev_l01Has (m : List Int) (x : Int) (hm : m.length ≤ 35184372088832) : Ev (fun k => spec_l01Has.f k m x) (hasB m x) := by
  have key : ∀ (d i : Nat), i + d = m.length → Ev (fun k => spec_l01Has.l0 k m x (i : Int)) (hasB (m.drop i) x) := by
    intro d
    induction d with
    | zero =>
      intro i hi
      refine ev_s ?_
      have h1 : ¬ ((i : Int) < (m.length : Int)) := by omega
      simp only [spec_l01Has.l0, h1, if_false]
      rw [List.drop_of_length_le (by omega)]; exact Ev.now _
    | succ d ih =>
      intro i hi
      refine ev_s ?_
      have h1 : (i : Int) < (m.length : Int) := by omega
      have h2 : (0 : Int) ≤ (i : Int) := by omega
      rw [hasB_drop (by omega)]
      by_cases c : rd m (i : Int) = x
      · simp only [spec_l01Has.l0, h1, h2, c, if_true, decide_true, Bool.true_or]; exact Ev.now _
      · simp only [spec_l01Has.l0, h1, h2, c, if_true, if_false, decide_false, Bool.false_or, w_succ (n := i) (by omega)]
        exact ih (i + 1) (by omega)
  exact key m.length 0 (by omega)
theorem ev_PointsL (l : List Int) (hl : l.length ≤ 40) : ∀ (d i : Nat), i + d = l.length → Ev (fun k => spec_PointsOk.l0 k l (i : Int)) (allB l i d) := by
  intro d
  induction d with
  | zero =>
    intro i hi
    refine ev_s ?_
    have h1 : ¬ ((i : Int) < (l.length : Int)) := by omega
    simp only [spec_PointsOk.l0, h1, if_false]; exact Ev.now _
  | succ d ih =>
    intro i hi
    refine ev_s ?_
    have h1 : (i : Int) < (l.length : Int) := by omega
    have h2 : (0 : Int) ≤ (i : Int) := by omega
    have h3 : (i : Int) ≤ (l.length : Int) := by omega
    simp only [spec_PointsOk.l0, h1, h2, h3, if_true, Int.toNat_natCast]
    refine Ev.bind (ev_l01Has _ _ (by simp; omega)) ?_
    unfold allB
    cases hh : hasB (l.take i) (rd l (i : Int)) with
    | true => simp only [if_true, Bool.not_true, Bool.false_and]; exact Ev.now _
    | false =>
      simp only [Bool.false_eq_true, if_false, Bool.not_false, Bool.true_and, w_succ (n := i) (by omega)]
      exact ih (i + 1) (by omega)
theorem ev_PointsOk {f : Int} {l : List Int} (h : PtsOk f l) : Ev (fun k => spec_PointsOk.f k f l) true := by
  obtain ⟨hf, h1, h2, he, hp⟩ := h
  unfold spec_PointsOk.f
  simp only [ev_l01In, Option.bind_some, show decide ((1 : Int) ≤ (l.length : Int)) = true from decide_eq_true (by omega), show decide ((l.length : Int) ≤ 40) = true from decide_eq_true (by omega), Bool.and_self, if_true]
  refine Ev.bind (ev_l03Elements hf l (by omega)) ?_
  rw [elB_iff.2 he]
  refine ev_s ?_
  simp only [spec_PointsOk.j0, Bool.not_true, Bool.false_eq_true, if_false]
  exact ev_to (ev_PointsL l h2 l.length 0 (by omega)) hp
theorem ev_PointsOk_bad {f : Int} {l : List Int} (h : ¬ PtsOk f l) : Ev (fun k => spec_PointsOk.f k f l) false := by
  unfold spec_PointsOk.f
  simp only [ev_l01In, Option.bind_some]
  by_cases c : (1 : Int) ≤ (l.length : Int) ∧ (l.length : Int) ≤ 40
  · simp only [decide_eq_true c.1, decide_eq_true c.2, Bool.and_self, if_true]
    by_cases hf : 0 ≤ f ∧ f < 9
    · refine Ev.bind (ev_l03Elements hf l (by omega)) ?_
      refine ev_s ?_
      cases he : elB (md f) l with
      | true =>
        simp only [spec_PointsOk.j0, Bool.not_true, Bool.false_eq_true, if_false]
        refine ev_to (ev_PointsL l (by omega) l.length 0 (by omega)) ?_
        rw [← Bool.not_eq_true]
        intro hp
        exact h ⟨hf, by omega, by omega, elB_iff.1 he, hp⟩
      | false => simp only [spec_PointsOk.j0, Bool.not_false, if_true]; exact Ev.now _
    · refine Ev.bind (ev_l03Elements_bad hf l) ?_
      refine ev_s ?_
      simp only [spec_PointsOk.j0, Bool.not_false, if_true]; exact Ev.now _
  · have e : (decide ((1 : Int) ≤ (l.length : Int)) && decide ((l.length : Int) ≤ 40)) = false := by
      rw [← Bool.not_eq_true, Bool.and_eq_true, decide_eq_true_eq, decide_eq_true_eq]; exact c
    simp only [e, Bool.false_eq_true, if_false]
    refine ev_s ?_
    simp only [spec_PointsOk.j0, if_true]; exact Ev.now _

theorem ev_fieldOf {f : Int} (h : 0 ≤ f ∧ f < 9) : impl_fieldOf.f f = some (md f, gn f, tp f, true) := by
  rcases fcases h.1 h.2 with e | e | e | e | e | e | e | e | e <;> subst e <;> rfl
theorem ev_fieldOf_bad {f : Int} (h : ¬ (0 ≤ f ∧ f < 9)) : impl_fieldOf.f f = some (0, 0, 0, false) := by
  unfold impl_fieldOf.f
  by_cases c : f < 0
  · rw [if_pos c]
  · rw [if_neg c, if_pos (by omega)]

theorem ev_areElements (p g t : Int) (l : List Int) (hl : l.length ≤ 35184372088832) : Ev (fun k => impl_field_areElements.f k p g t l) (elB p l) := by
  have key : ∀ (d i : Nat), i + d = l.length → Ev (fun k => impl_field_areElements.l0 k l (l.length : Int) (i : Int) p g t) (elB p (l.drop i)) := by
    intro d
    induction d with
    | zero =>
      intro i hi
      refine ev_s ?_
      have h1 : ¬ ((i : Int) < (l.length : Int)) := by omega
      simp only [impl_field_areElements.l0, h1, if_false]
      rw [List.drop_of_length_le (by omega)]
      exact Ev.now _
    | succ d ih =>
      intro i hi
      refine ev_s ?_
      have h1 : (i : Int) < (l.length : Int) := by omega
      have h2 : (0 : Int) ≤ (i : Int) := by omega
      simp only [impl_field_areElements.l0, h1, h2, if_true, w_succ (n := i) (by omega)]
      rw [elB_drop (by omega)]
      by_cases c1 : rd l (i : Int) < 0
      · simp only [c1, if_true, show decide (0 ≤ rd l (i : Int)) = false from decide_eq_false (by omega), Bool.false_and]
        exact Ev.now _
      · by_cases c2 : rd l (i : Int) ≥ p
        · simp only [c1, c2, if_true, if_false, show decide (rd l (i : Int) < p) = false from decide_eq_false (by omega), Bool.false_and, Bool.and_false]
          exact Ev.now _
        · simp only [c1, c2, if_false, show decide (0 ≤ rd l (i : Int)) = true from decide_eq_true (by omega), show decide (rd l (i : Int) < p) = true from decide_eq_true (by omega), Bool.true_and]
          exact ih (i + 1) (by omega)
  exact key l.length 0 (by omega)

theorem ev_pointL {p g t : Int} (l : List Int) (hl : l.length ≤ 40) : ∀ (d i : Nat), i + d = l.length → Ev (fun k => impl_pointField.l0 k l l (l.length : Int) (i : Int) p g t) (if allB l i d then (p, g, t, true) else (0, 0, 0, false)) := by
  have inner : ∀ (i : Nat) (r : Int × Int × Int × Bool), i < l.length → ∀ (d j : Nat), j + d = (l.take i).length →
      (hasB ((l.take i).drop j) (rd l (i : Int)) = false → Ev (fun k => impl_pointField.l0 k l l (l.length : Int) ((i + 1 : Nat) : Int) p g t) r) → (hasB ((l.take i).drop j) (rd l (i : Int)) = true → r = (0, 0, 0, false)) →
      Ev (fun k => impl_pointField.l1 k l (rd l (i : Int)) l (l.length : Int) (i : Int) (l.take i) ((l.take i).length : Int) (j : Int) p g t) r := by
    intro i r hi d
    induction d with
    | zero =>
      intro j hj h1 h2
      refine ev_s ?_
      have g1 : ¬ ((j : Int) < ((l.take i).length : Int)) := by omega
      simp only [impl_pointField.l1, g1, if_false, w_succ (n := i) (by omega)]
      exact h1 (by rw [List.drop_of_length_le (by omega)]; rfl)
    | succ d ih =>
      intro j hj h1 h2
      refine ev_s ?_
      have g1 : (j : Int) < ((l.take i).length : Int) := by omega
      have g2 : (0 : Int) ≤ (j : Int) := by omega
      have hjl : j < (l.take i).length := by omega
      have hlen : (l.take i).length ≤ l.length := by rw [List.length_take]; omega
      by_cases c : rd l (i : Int) = rd (l.take i) (j : Int)
      · rw [h2 (by rw [hasB_drop hjl, decide_eq_true c.symm, Bool.true_or])]
        simp only [impl_pointField.l1, g1, g2, if_true]
        simp only [c, if_true]; exact Ev.now _
      · simp only [impl_pointField.l1, g1, g2, if_true, w_succ (n := j) (by omega)]
        simp only [c, if_false]
        have e : hasB ((l.take i).drop j) (rd l (i : Int)) = hasB ((l.take i).drop (j + 1)) (rd l (i : Int)) := by
          rw [hasB_drop hjl, decide_eq_false (fun h => c h.symm), Bool.false_or]
        rw [e] at h1 h2
        exact ih (j + 1) (by omega) h1 h2
  intro d
  induction d with
  | zero =>
    intro i hi
    refine ev_s ?_
    have h1 : ¬ ((i : Int) < (l.length : Int)) := by omega
    simp only [impl_pointField.l0, h1, if_false, allB, if_true]; exact Ev.now _
  | succ d ih =>
    intro i hi
    refine ev_s ?_
    have h1 : (i : Int) < (l.length : Int) := by omega
    have h2 : (0 : Int) ≤ (i : Int) := by omega
    have h3 : (i : Int) ≤ (l.length : Int) := by omega
    simp only [impl_pointField.l0, h1, h2, h3, if_true, Int.toNat_natCast]
    refine inner i _ (by omega) (l.take i).length 0 (by omega) ?_ ?_
    · intro hh
      rw [List.drop_zero] at hh
      unfold allB
      rw [hh]
      simp only [Bool.not_false, Bool.true_and]
      exact ih (i + 1) (by omega)
    · intro hh
      rw [List.drop_zero] at hh
      unfold allB
      rw [hh]; rfl
theorem ev_pointField {f : Int} {l : List Int} (h : PtsOk f l) : Ev (fun k => impl_pointField.f k f l) (md f, gn f, tp f, true) := by
  obtain ⟨hf, h1, h2, he, hp⟩ := h
  unfold impl_pointField.f
  have n1 : ¬ ((l.length : Int) < 1) := by omega
  have n2 : ¬ ((l.length : Int) > 40) := by omega
  simp only [ev_fieldOf hf, Option.bind_some, if_true, n1, n2, if_false]
  refine Ev.bind (ev_areElements _ _ _ l (by omega)) ?_
  rw [elB_iff.2 he]
  refine ev_s ?_
  simp only [impl_pointField.j0, Bool.not_true, Bool.false_eq_true, if_false]
  exact ev_to (ev_pointL l h2 l.length 0 (by omega)) (by rw [hp]; rfl)
theorem ev_pointField_bad {f : Int} {l : List Int} (h : ¬ PtsOk f l) : Ev (fun k => impl_pointField.f k f l) (0, 0, 0, false) := by
  unfold impl_pointField.f
  have bad : ∀ p g t : Int, Ev (fun k => impl_pointField.j0 k l true p g t) (0, 0, 0, false) := fun p g t => by
    refine ev_s ?_
    simp only [impl_pointField.j0, if_true]; exact Ev.now _
  by_cases hf : 0 ≤ f ∧ f < 9
  · simp only [ev_fieldOf hf, Option.bind_some, if_true]
    by_cases n1 : (l.length : Int) < 1
    · simp only [n1, if_true]; exact bad _ _ _
    by_cases n2 : (l.length : Int) > 40
    · simp only [n1, n2, if_true, if_false]; exact bad _ _ _
    simp only [n1, n2, if_false]
    refine Ev.bind (ev_areElements _ _ _ l (by omega)) ?_
    cases he : elB (md f) l with
    | true =>
      refine ev_s ?_
      simp only [impl_pointField.j0, Bool.not_true, Bool.false_eq_true, if_false]
      refine ev_to (ev_pointL l (by omega) l.length 0 (by omega)) ?_
      rw [if_neg]
      intro hp
      exact h ⟨hf, by omega, by omega, elB_iff.1 he, hp⟩
    | false => exact bad _ _ _
  · simp only [ev_fieldOf_bad hf, Option.bind_some, Bool.false_eq_true, if_false]; exact bad _ _ _

def CodeOk (f : Int) (l m : List Int) : Prop := PtsOk f l ∧ l.length ≤ 10 ∧ 1 ≤ m.length ∧ m.length ≤ l.length
theorem ev_l07Code {f : Int} {l m : List Int} (h : CodeOk f l m) : Ev (fun k => spec_l07Code.f k f l (m.length : Int)) true := by
  obtain ⟨h1, h2, h3, h4⟩ := h
  unfold spec_l07Code.f
  have g1 : (l.length : Int) ≤ 10 := by omega
  simp only [g1, if_true]
  refine Ev.bind (ev_PointsOk h1) ?_
  simp only [if_true, ev_l01In, Option.bind_some, show decide ((1 : Int) ≤ (m.length : Int)) = true from decide_eq_true (by omega), show decide ((m.length : Int) ≤ (l.length : Int)) = true from decide_eq_true (by omega), Bool.and_self]
  exact Ev.now _
theorem ev_l07Code_bad {f : Int} {l m : List Int} (h : ¬ CodeOk f l m) : Ev (fun k => spec_l07Code.f k f l (m.length : Int)) false := by
  unfold spec_l07Code.f
  by_cases g1 : (l.length : Int) ≤ 10
  · simp only [g1, if_true]
    by_cases h1 : PtsOk f l
    · refine Ev.bind (ev_PointsOk h1) ?_
      have : (decide ((1 : Int) ≤ (m.length : Int)) && decide ((m.length : Int) ≤ (l.length : Int))) = false := by
        rw [← Bool.not_eq_true, Bool.and_eq_true, decide_eq_true_eq, decide_eq_true_eq]
        intro c
        exact h ⟨h1, by omega, by omega, by omega⟩
      simp only [if_true, ev_l01In, Option.bind_some, this]
      exact Ev.now _
    · refine Ev.bind (ev_PointsOk_bad h1) ?_
      simp only [Bool.false_eq_true, if_false]; exact Ev.now _
  · simp only [g1, if_false]; exact Ev.now _
theorem ev_codeField {f : Int} {l m : List Int} (h : CodeOk f l m) : Ev (fun k => impl_codeField.f k f l (m.length : Int)) (md f, gn f, tp f, true) := by
  obtain ⟨h1, h2, h3, h4⟩ := h
  unfold impl_codeField.f
  refine Ev.bind (ev_pointField h1) ?_
  have g1 : ¬ ((l.length : Int) > 10) := by omega
  have g2 : ¬ ((m.length : Int) < 1) := by omega
  have g3 : ¬ ((m.length : Int) > (l.length : Int)) := by omega
  simp only [if_true, g1, g2, g3, if_false]; exact Ev.now _
theorem ev_codeField_bad {f : Int} {l m : List Int} (h : ¬ CodeOk f l m) : Ev (fun k => impl_codeField.f k f l (m.length : Int)) (0, 0, 0, false) := by
  unfold impl_codeField.f
  by_cases h1 : PtsOk f l
  · refine Ev.bind (ev_pointField h1) ?_
    by_cases g1 : (l.length : Int) > 10
    · simp only [if_true, g1]; exact Ev.now _
    by_cases g2 : (m.length : Int) < 1
    · simp only [if_true, g1, g2, if_false]; exact Ev.now _
    by_cases g3 : (m.length : Int) > (l.length : Int)
    · simp only [if_true, g1, g2, g3, if_false]; exact Ev.now _
    exact absurd ⟨h1, by omega, by omega, by omega⟩ h
  · refine Ev.bind (ev_pointField_bad h1) ?_
    simp only [Bool.false_eq_true, if_false]; exact Ev.now _
theorem ev_EncodeWord_run {f : Int} {l m : List Int} (hf : 0 ≤ f ∧ f < 9) (hl : l.length ≤ 40) (hle : El (md f) l) (hm : m.length ≤ 40) (hme : El (md f) m) : ∀ (d i : Nat) (out : List Int), i + d = l.length → out = (List.range i).map (fun (i : Nat) => evP m (rd l (i : Int)) % md f) → Ev (fun k => spec_EncodeWord.l0 k f l m out (i : Int)) ((List.range l.length).map (fun (i : Nat) => evP m (rd l (i : Int)) % md f)) := by
  intro d
  induction d with
  | zero =>
    intro i out hi ho
    refine ev_s ?_
    have g1 : ¬ ((i : Int) < (l.length : Int)) := by omega
    simp only [spec_EncodeWord.l0, g1, if_false]
    rw [ho, show i = l.length by omega]; exact Ev.now _
  | succ d ih =>
    intro i out hi ho
    refine ev_s ?_
    have g1 : (i : Int) < (l.length : Int) := by omega
    have g2 : (0 : Int) ≤ (i : Int) := by omega
    have g3 : out.length < 17592186044416 := by subst ho; simp; omega
    simp only [spec_EncodeWord.l0, g1, if_true]
    refine Ev.bind (ev_l03Cut m (by omega)) ?_
    simp only [g2, if_true]
    refine Ev.bind (ev_EvalPoly (cutS_poly hf (by omega) hme) (hle.rd (pm_of hf).pos (i : Int))) ?_
    simp only [g3, if_true, w_succ (n := i) (by omega), cutS_ev]
    exact ih (i + 1) _ (by omega) (by rw [map_snoc, ho])
theorem FnExactEncodeWord : laws_FnExactEncodeWord.Pure := by
  intro f l m hf hl hl8 hwl hm hm8 hwm
  refine Ev.rounds ?_
  unfold laws_FnExactEncodeWord.f
  by_cases hbig : (l.length : Int) > 1048576
  · simp only [hbig, if_true]; exact Ev.now _
  by_cases hbig2 : (m.length : Int) > 1048576
  · simp only [hbig, hbig2, if_true, if_false]; exact Ev.now _
  simp only [hbig, hbig2, if_false]
  have hll : l.length ≤ 35184372088832 := by omega
  have hlm : m.length ≤ 35184372088832 := by omega
  obtain ⟨R, hR1, hR2, hRl⟩ : ∃ R, Ev (fun k => spec_EncodeWord.f k f l m) R ∧ Ev (fun k => impl_EncodeWord.f k f l m) R ∧ R.length ≤ 1048576 := by
    have sbad : Ev (fun k => spec_EncodeWord.j0 k f l m [] true) [] := by
      refine ev_s ?_
      simp only [spec_EncodeWord.j0, if_true]; exact Ev.now _
    by_cases h : CodeOk f l m
    · have hc := h
      obtain ⟨⟨hf9, _, _, hle, _⟩, h10, h1, hml⟩ := h
      cases he : elB (md f) m with
      | true =>
        have hme := elB_iff.1 he
        refine ⟨(List.range l.length).map (fun (i : Nat) => evP m (rd l (i : Int)) % md f), ?_, ?_, ?_⟩
        · unfold spec_EncodeWord.f
          simp only [Option.bind_some]
          refine Ev.bind (ev_l07Code hc) ?_
          simp only [if_true]
          refine Ev.bind (ev_l03Elements hf9 m hlm) ?_
          rw [he]
          refine ev_s ?_
          simp only [spec_EncodeWord.j0, Bool.not_true, Bool.false_eq_true, if_false]
          exact ev_EncodeWord_run hf9 (by omega) hle (by omega) hme l.length 0 [] (by omega) rfl
        · unfold impl_EncodeWord.f
          refine Ev.bind (ev_codeField hc) ?_
          simp only [if_true]
          refine Ev.bind (ev_areElements _ _ _ m hlm) ?_
          simp only [he, if_true]
          refine Ev.bind (ev_evalMany (pm_of hf9) _ _ (by omega) hme (by omega) hle) ?_
          exact Ev.now _
        · simp; omega
      | false =>
        refine ⟨[], ?_, ?_, by simp⟩
        · unfold spec_EncodeWord.f
          simp only [Option.bind_some]
          refine Ev.bind (ev_l07Code hc) ?_
          simp only [if_true]
          refine Ev.bind (ev_l03Elements hf9 m hlm) ?_
          rw [he]; exact sbad
        · unfold impl_EncodeWord.f
          refine Ev.bind (ev_codeField hc) ?_
          simp only [if_true]
          refine Ev.bind (ev_areElements _ _ _ m hlm) ?_
          simp only [he, Bool.false_eq_true, if_false]; exact Ev.now _
    · refine ⟨[], ?_, ?_, by simp⟩
      · unfold spec_EncodeWord.f
        simp only [Option.bind_some]
        refine Ev.bind (ev_l07Code_bad h) ?_
        simp only [Bool.false_eq_true, if_false]; exact sbad
      · unfold impl_EncodeWord.f
        refine Ev.bind (ev_codeField_bad h) ?_
        simp only [Bool.false_eq_true, if_false]; exact Ev.now _
  have nR : ¬ ((1 : Int) + (R.length : Int) < 0) := by omega
  have nL : ¬ ((1 : Int) + (l.length : Int) + (m.length : Int) < 0) := by omega
  repeat first
    | exact Ev.now _
    | refine Ev.bind hR1 ?_
    | refine Ev.bind hR2 ?_
    | refine Ev.bind (ev_toIntS l hll) ?_
    | refine Ev.bind (ev_toIntS m hlm) ?_
    | refine Ev.bind (ev_eqIntS l (by omega)) ?_
    | refine Ev.bind (ev_eqIntS m (by omega)) ?_
    | refine Ev.bind (ev_eqIntS R (by omega)) ?_
    | refine Ev.bind (ev_mark l (1) (by omega) (by omega) (by omega)) ?_
    | refine Ev.bind (ev_mark m (1 + (l.length : Int)) (by omega) (by omega) (by omega)) ?_
    | refine Ev.bind (ev_mark R 1 (by omega) (by omega) (by omega)) ?_
    | refine Ev.bind (ev_held R.length 1 (by omega) (by omega) (by omega)) ?_
    | simp only [if_true, nR, nL, if_false, bne_self_eq_false, Bool.false_eq_true, Bool.not_true]
    | (refine ev_s ?_; simp only [laws_FnExactEncodeWord.j0])

end Go.Proofs.Ythdmhmhcmokieaa.Pure
