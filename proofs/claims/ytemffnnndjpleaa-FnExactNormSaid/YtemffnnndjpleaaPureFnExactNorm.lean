/- FnExactNorm returns true for every field number and list: both norms are the same number. -/
import Derived.Test.YtemffnnndjpleaaPFnExactNormx6
import Derived.Test.YtemffnnndjpleaaGB
import Derived.Test.YtemffnnndjpleaaGN
set_option linter.unusedVariables false
set_option linter.unusedSimpArgs false
namespace Go.Proofs.Ytemffnnndjpleaa.Pure
open Go.RowKit Go.Proofs.Ytemffnnndjpleaa.PFnExactNorm Go.Proofs.YtemffnnndjpleaaW.PrintWords Go.Proofs.YtemffnnndjpleaaW.PrintLast Go.Proofs.YtemffnnndjpleaaW.PrintMore G7
theorem ev_toIntS (l : List Int) (hl : l.length ≤ 35184372088832) : Ev (fun k => laws_toIntS.f k l) l := by
  have key : ∀ (d i : Nat) (out : List Int), i + d = l.length → out.length = l.length → (∀ j : Nat, j < i → rd out (j : Int) = rd l (j : Int)) → Ev (fun k => laws_toIntS.l0 k l out (i : Int)) l := by
    intro d
    induction d with
    | zero =>
      intro i out hi ho hx
      refine ev_s ?_
      have h1 : ¬ ((i : Int) < (l.length : Int)) := by omega
      simp only [laws_toIntS.l0, h1, if_false]
      rw [ext_rd ho (fun j hj => hx j (by omega))]
      exact Ev.now _
    | succ d ih =>
      intro i out hi ho hx
      refine ev_s ?_
      have h1 : (i : Int) < (l.length : Int) := by omega
      have h2 : (0 : Int) ≤ (i : Int) := by omega
      have h3 : (i : Int) < (out.length : Int) := by omega
      simp only [laws_toIntS.l0, h1, h2, h3, if_true, w_succ (n := i) (by omega), Int.toNat_natCast]
      refine ih (i + 1) _ (by omega) (by rw [List.length_set]; exact ho) (fun j hj => ?_)
      by_cases c : i = j
      · subst c; rw [rd_set_eq (by omega)]
      · rw [rd_set_ne c]; exact hx j (by omega)
  unfold laws_toIntS.f
  have h1 : (0 : Int) ≤ (l.length : Int) := by omega
  simp only [h1, if_true, Int.toNat_natCast, hl]
  exact key l.length 0 _ (by omega) (by simp) (fun j hj => by omega)

theorem ev_eqIntS (l : List Int) (hl : l.length ≤ 35184372088832) : Ev (fun k => laws_eqIntS.f k l l) true := by
  have key : ∀ (d i : Nat), i + d = l.length → Ev (fun k => laws_eqIntS.l0 k l l (i : Int)) true := by
    intro d
    induction d with
    | zero =>
      intro i hi
      refine ev_s ?_
      have h1 : ¬ ((i : Int) < (l.length : Int)) := by omega
      simp only [laws_eqIntS.l0, h1, if_false]
      exact Ev.now _
    | succ d ih =>
      intro i hi
      refine ev_s ?_
      have h1 : (i : Int) < (l.length : Int) := by omega
      have h2 : (0 : Int) ≤ (i : Int) := by omega
      simp only [laws_eqIntS.l0, h1, h2, if_true, w_succ (n := i) (by omega)]
      exact ih (i + 1) (by omega)
  unfold laws_eqIntS.f
  simp only [if_true]
  exact key l.length 0 (by omega)

theorem ev_LogOf (n : Int) : Ev (fun k => spec_LogOf.f k n) (lg n) := by
  have key : ∀ (d c : Nat), c + d = 10 → Ev (fun k => spec_LogOf.l0 k n (c : Int)) (lgA n d c) := by
    intro d
    induction d with
    | zero =>
      intro c hc
      refine ev_s ?_
      have h1 : ¬ ((c : Int) ≤ 9) := by omega
      simp only [spec_LogOf.l0, h1, if_false]; exact Ev.now _
    | succ d ih =>
      intro c hc
      refine ev_s ?_
      have h1 : (c : Int) ≤ 9 := by omega
      have h2 : (0 : Int) ≤ (c : Int) := by omega
      simp only [spec_LogOf.l0, h1, u64_id (x := (c : Int)) (by omega) (by omega), h2, if_true, shl1 (c := c) (by omega), w_succ (n := c) (by omega)]
      unfold lgA
      by_cases h : n = ((2 ^ c : Nat) : Int)
      · rw [if_pos h]; simp only [if_pos h]; exact Ev.now _
      · rw [if_neg h]; simp only [if_neg h]; exact ih (c + 1) (by omega)
  exact key 10 0 rfl

theorem ev_Modulus (f : Int) : spec_Modulus.f f = some (md f) := by
  unfold spec_Modulus.f md
  by_cases h0 : f = 0
  · rw [if_pos h0, if_pos h0]
  rw [if_neg h0, if_neg h0]
  by_cases h1 : f = 1
  · rw [if_pos h1, if_pos h1]
  rw [if_neg h1, if_neg h1]
  by_cases h2 : f = 2
  · rw [if_pos h2, if_pos h2]
  rw [if_neg h2, if_neg h2]
  by_cases h3 : f = 3
  · rw [if_pos h3, if_pos h3]
  rw [if_neg h3, if_neg h3]
  by_cases h4 : f = 4
  · rw [if_pos h4, if_pos h4]
  rw [if_neg h4, if_neg h4]
  by_cases h5 : f = 5
  · rw [if_pos h5, if_pos h5]
  rw [if_neg h5, if_neg h5]
  by_cases h6 : f = 6
  · rw [if_pos h6, if_pos h6]
  rw [if_neg h6, if_neg h6]
  by_cases h7 : f = 7
  · rw [if_pos h7, if_pos h7]
  rw [if_neg h7, if_neg h7]
  by_cases h8 : f = 8
  · rw [if_pos h8, if_pos h8]
  rw [if_neg h8, if_neg h8]

theorem ev_TwoPower (f : Int) : Ev (fun k => spec_TwoPower.f k f) (tp f) := by
  unfold spec_TwoPower.f
  simp only [ev_Modulus, Option.bind_some]
  by_cases h : 0 ≤ f ∧ f < 9
  · have hp := pm_of h
    unfold Pm at hp
    obtain ⟨e1, e2, e3, e4, e5⟩ := oddP_spec h
    simp only [show ¬ (md f = 0) from by omega, if_false, w64 (x := md f - 1) (by omega) (by omega)]
    have key : ∀ (t : Nat) (c : Int), 0 ≤ c → c + t ≤ 100 → oddP f * ((2 ^ t : Nat) : Int) ≤ md f - 1 → Ev (fun k => spec_TwoPower.l0 k c (oddP f * ((2 ^ t : Nat) : Int))) (c + t) := by
      intro t
      induction t with
      | zero =>
        intro c hc hct hb
        refine ev_s ?_
        rw [Nat.pow_zero, Int.natCast_one, Int.mul_one] at *
        have h1 : ¬ (Int.tmod (oddP f) 2 = 0) := by rw [tmod_nn (by omega)]; omega
        simp only [spec_TwoPower.l0, h1, if_false, Int.natCast_zero, Int.add_zero]; exact Ev.now _
      | succ t ih =>
        intro c hc hct hb
        have e : oddP f * ((2 ^ (t + 1) : Nat) : Int) = 2 * (oddP f * ((2 ^ t : Nat) : Int)) := by
          rw [Nat.pow_succ, Int.natCast_mul, ← Int.mul_assoc, Int.mul_comm]; rfl
        have hq : 0 ≤ oddP f * ((2 ^ t : Nat) : Int) := Int.mul_nonneg (by omega) (Int.natCast_nonneg _)
        rw [e] at hb ⊢
        have hs := ih (c + 1) (by omega) (by omega) (by omega)
        generalize oddP f * ((2 ^ t : Nat) : Int) = q at *
        refine ev_s ?_
        have h1 : Int.tmod (2 * q) 2 = 0 := by rw [tmod_nn (by omega)]; omega
        have h2 : wrap64 (Int.tdiv (2 * q) 2) = q := by
          rw [Int.tdiv_eq_ediv_of_nonneg (by omega), w64 (by omega) (by omega)]; omega
        simp only [spec_TwoPower.l0, h1, h2, if_true, w64 (x := c + 1) (by omega) (by omega)]
        exact ev_to hs (by omega)
    have := key (tp f).toNat 0 (by omega) (by omega) (by omega)
    rw [← e1] at this
    exact ev_to this (by omega)
  · simp only [md_bad h, if_true]
    rw [tp_bad h]; exact Ev.now _

theorem ev_l01In (x a b : Int) : spec_l01In.f x a b = some (decide (a ≤ x) && decide (x ≤ b)) := by
  unfold spec_l01In.f
  by_cases h : a ≤ x
  · rw [if_pos h, decide_eq_true h, Bool.true_and]
  · rw [if_neg h, decide_eq_false h, Bool.false_and]

theorem ev_l03Elements {f : Int} (h : 0 ≤ f ∧ f < 9) (l : List Int) (hl : l.length ≤ 35184372088832) : Ev (fun k => spec_l03Elements.f k f l) (elB (md f) l) := by
  have hp := pm_of h
  unfold Pm at hp
  have key : ∀ (d i : Nat), i + d = l.length → Ev (fun k => spec_l03Elements.l0 k l (md f) (i : Int)) (elB (md f) (l.drop i)) := by
    intro d
    induction d with
    | zero =>
      intro i hi
      refine ev_s ?_
      have h1 : ¬ ((i : Int) < (l.length : Int)) := by omega
      simp only [spec_l03Elements.l0, h1, if_false]
      rw [List.drop_of_length_le (by omega)]
      exact Ev.now _
    | succ d ih =>
      intro i hi
      refine ev_s ?_
      have h1 : (i : Int) < (l.length : Int) := by omega
      have h2 : (0 : Int) ≤ (i : Int) := by omega
      simp only [spec_l03Elements.l0, h1, h2, if_true, w_succ (n := i) (by omega), w64 (x := md f - 1) (by omega) (by omega), ev_l01In, Option.bind_some]
      rw [elB_drop (by omega)]
      rw [show decide (rd l (i : Int) < md f) = decide (rd l (i : Int) ≤ md f - 1) from decide_eq_decide.2 (by omega)]
      by_cases c : (decide (0 ≤ rd l (i : Int)) && decide (rd l (i : Int) ≤ md f - 1)) = true
      · simp only [c, if_true, Bool.true_and]
        exact ih (i + 1) (by omega)
      · simp only [Bool.not_eq_true] at c
        simp only [c, Bool.false_and, Bool.false_eq_true, if_false]
        exact Ev.now _
  unfold spec_l03Elements.f
  simp only [ev_Modulus, Option.bind_some]
  have h0 : ¬ (md f = 0) := by omega
  simp only [h0, if_false]
  exact key l.length 0 (by omega)
theorem ev_l03Elements_bad {f : Int} (h : ¬ (0 ≤ f ∧ f < 9)) (l : List Int) : Ev (fun k => spec_l03Elements.f k f l) false := by
  unfold spec_l03Elements.f
  simp only [ev_Modulus, Option.bind_some, md_bad h, if_true]
  exact Ev.now _

theorem ev_VectorOk {f : Int} {v : List Int} (h : VecOk f v) : Ev (fun k => spec_VectorOk.f k f v) true := by
  have hl := h.lg
  have hn := h.len
  unfold spec_VectorOk.f
  refine Ev.bind (ev_LogOf _) ?_
  have h1 : lg (v.length : Int) ≥ 0 := hl.1
  simp only [h1, if_true]
  refine Ev.bind (ev_TwoPower f) ?_
  simp only [hl.2, if_true]
  refine Ev.bind (ev_l03Elements h.1 v (by omega)) ?_
  rw [elB_iff.2 h.2.2]; exact Ev.now _
theorem ev_VectorOk_bad {f : Int} {v : List Int} (h : ¬ VecOk f v) : Ev (fun k => spec_VectorOk.f k f v) false := by
  unfold spec_VectorOk.f
  refine Ev.bind (ev_LogOf _) ?_
  by_cases h1 : lg (v.length : Int) ≥ 0
  · simp only [h1, if_true]
    refine Ev.bind (ev_TwoPower f) ?_
    have hn : v.length ≤ 512 := by
      rcases lg_cases (v.length : Int) with ⟨e, _⟩ | ⟨k, hk, _, e⟩
      · omega
      · have := two_pow_le hk; omega
    by_cases h2 : lg (v.length : Int) ≤ tp f
    · simp only [h2, if_true]
      by_cases hf : 0 ≤ f ∧ f < 9
      · refine Ev.bind (ev_l03Elements hf v (by omega)) ?_
        have he : elB (md f) v = false := by
          rw [← Bool.not_eq_true, elB_iff]
          intro he
          exact h (vec_of hf h1 h2 he)
        rw [he]; exact Ev.now _
      · refine Ev.bind (ev_l03Elements_bad hf v) ?_
        exact Ev.now _
    · simp only [h2, if_false]; exact Ev.now _
  · simp only [h1, if_false]; exact Ev.now _

/-- A vector whose field has a root of twice its order. -/
def OddOk (f : Int) (a : List Int) : Prop := VecOk f a ∧ lg (a.length : Int) + 1 ≤ tp f
/-- The values at the odd powers. -/
def oddS (p v : Int) (a : List Int) : List Int := (List.range a.length).map (fun c => evP a (v ^ (2 * c + 1) % p) % p)
theorem oddS_len (p v : Int) (a : List Int) : (oddS p v a).length = a.length := by simp [oddS]
theorem oddS_el {p : Int} (hp : 0 < p) (v : Int) (a : List Int) : El p (oddS p v a) := El.map (fun i _ => em_lt hp)
theorem oddS_rd {p v : Int} {a : List Int} {c : Nat} (h : c < a.length) : rd (oddS p v a) (c : Int) = evP a (v ^ (2 * c + 1) % p) % p := by unfold oddS; rw [rd_map _ h]
def twdS (p v : Int) (a : List Int) : List Int := (List.range a.length).map (fun (i : Nat) => rd a (i : Int) * (v ^ i % p) % p)
theorem twdS_len (p v : Int) (a : List Int) : (twdS p v a).length = a.length := by simp [twdS]
theorem twdS_rd {p v : Int} {a : List Int} {c : Nat} (h : c < a.length) : rd (twdS p v a) (c : Int) = rd a (c : Int) * (v ^ c % p) % p := by unfold twdS; rw [rd_map _ h]
theorem twdS_ok {f : Int} {a : List Int} (ha : VecOk f a) (v : Int) : VecOk f (twdS (md f) v a) := by
  obtain ⟨hf, ⟨k, h1, h2, h3⟩, _⟩ := ha
  exact ⟨hf, ⟨k, h1, h2, by rw [twdS_len]; exact h3⟩, El.map (fun i _ => em_lt (pm_of hf).pos)⟩
theorem odd_dft {p v w : Int} (hv : v ^ 2 % p = w % p) (a : List Int) : dftS p w (twdS p v a) = oddS p v a := by
  refine ext_rd (by rw [dftS_len, twdS_len, oddS_len]) (fun c hc => ?_)
  rw [dftS_len, twdS_len] at hc
  rw [dftS_rd (by rw [twdS_len]; exact hc), twdS_len, oddS_rd hc]
  unfold dft evP
  refine sm_econgr (fun j hj => ?_)
  rw [twdS_rd hj, emul_l, Int.mul_assoc]
  refine emul rfl ?_
  rw [emul_l, epow_l, ← ipow_mul, show (2 * c + 1) * j = j + 2 * (c * j) by rw [Nat.add_mul, Nat.one_mul, Nat.mul_assoc, Nat.add_comm], ipow_add, ipow_mul v 2]
  exact emul rfl (epow _ hv).symm

theorem ev_l08Open {f : Int} {a : List Int} (h : OddOk f a) : Ev (fun k => spec_l08Open.f k f a) true := by
  have hl := h.1.lg
  have ht : tp f ≤ 26 := by have := (isF h.1.1.1 h.1.1.2).bounds; omega
  unfold spec_l08Open.f
  refine Ev.bind (ev_VectorOk h.1) ?_
  simp only [if_true]
  refine Ev.bind (ev_LogOf _) ?_
  refine Ev.bind (ev_TwoPower f) ?_
  rw [w64 (x := lg (a.length : Int) + 1) (by omega) (by omega), decide_eq_true h.2]
  exact Ev.now _
theorem ev_l08Open_bad {f : Int} {a : List Int} (h : ¬ OddOk f a) : Ev (fun k => spec_l08Open.f k f a) false := by
  unfold spec_l08Open.f
  by_cases hv : VecOk f a
  · have hl := hv.lg
    have ht : tp f ≤ 26 := by have := (isF hv.1.1 hv.1.2).bounds; omega
    refine Ev.bind (ev_VectorOk hv) ?_
    simp only [if_true]
    refine Ev.bind (ev_LogOf _) ?_
    refine Ev.bind (ev_TwoPower f) ?_
    rw [w64 (x := lg (a.length : Int) + 1) (by omega) (by omega), decide_eq_false (fun c => h ⟨hv, c⟩)]
    exact Ev.now _
  · refine Ev.bind (ev_VectorOk_bad hv) ?_
    simp only [Bool.false_eq_true, if_false]; exact Ev.now _

theorem ev_Reduce {f : Int} (h : 0 ≤ f ∧ f < 9) (x : Int) : spec_Reduce.f f x = some (x % md f) := by
  have hp := pm_of h
  unfold Pm at hp
  unfold spec_Reduce.f
  rw [ev_Modulus]
  simp only [Option.bind_some]
  rw [if_neg (by omega)]
  have hb := tmod_bounds (a := x) (p := md f) (by omega)
  rw [w64 (by omega) (by omega), ← tmod_fix (a := x) (p := md f) (by omega)]
  by_cases c : Int.tmod x (md f) < 0
  · rw [if_pos c, if_pos c]
  · rw [if_neg c, if_neg c]
theorem ev_Reduce_bad {f : Int} (h : ¬ (0 ≤ f ∧ f < 9)) (x : Int) : spec_Reduce.f f x = some (-1) := by
  unfold spec_Reduce.f
  rw [ev_Modulus]
  simp only [Option.bind_some]
  rw [if_pos (md_bad h)]

theorem ev_PowerL {p : Int} (hp : Pm p) : ∀ (e : Nat) {a : Int}, (0 ≤ a ∧ a < p) → e < 4611686018427387904 → Ev (fun k => spec_Power.j0 k p a (e : Int)) (a ^ e % p) := by
  have hpp := hp
  unfold Pm at hpp
  have key : ∀ (n e : Nat), e ≤ n → e < 4611686018427387904 → ∀ a out : Int, (0 ≤ a ∧ a < p) → (0 ≤ out ∧ out < p) → Ev (fun k => spec_Power.l0 k p a (e : Int) out) (out * a ^ e % p) := by
    intro n
    induction n with
    | zero =>
      intro e he _ a out ha ho
      obtain rfl : e = 0 := by omega
      refine ev_s ?_
      have h1 : ¬ (((0 : Nat) : Int) > 0) := by omega
      simp only [spec_Power.l0, h1, if_false]
      rw [Int.pow_zero, Int.mul_one, em_id ho.1 ho.2]
      exact Ev.now _
    | succ n ih =>
      intro e he hb a out ha ho
      by_cases h0 : e = 0
      · subst h0
        exact ih 0 (by omega) hb a out ha ho
      · refine ev_s ?_
        have h1 : (e : Int) > 0 := by omega
        have h2 : Int.tmod (e : Int) 2 = ((e % 2 : Nat) : Int) := by rw [tmod_nn (by omega)]; omega
        have h3 : wrap64 (Int.tdiv (e : Int) 2) = ((e / 2 : Nat) : Int) := by
          rw [Int.tdiv_eq_ediv_of_nonneg (by omega), w64 (by omega) (by omega)]; omega
        have haa := em_lt (a := a * a) hp.pos
        have hp0 : ¬ (p = 0) := by omega
        have b1 := mul_lt_big ha.1 ha.2 ha.1 ha.2 hpp.2
        have b2 := mul_lt_big ho.1 ho.2 ha.1 ha.2 hpp.2
        simp only [spec_Power.l0, h1, if_true, h2, h3, hp0, if_false, w64 (x := a * a) (by omega) (by omega), w64 (x := out * a) (by omega) (by omega), tmod_nn b1.1, tmod_nn b2.1]
        by_cases c : e % 2 = 1
        · have hoa := em_lt (a := out * a) hp.pos
          simp only [c, Int.natCast_one, if_true]
          refine ev_to (ih (e / 2) (by omega) (by omega) (a * a % p) (out * a % p) haa hoa) ?_
          have e1 : (out * a % p) * (a * a % p) ^ (e / 2) % p = (out * a) * (a * a) ^ (e / 2) % p := emul (Int.emod_emod _ _) (epow_l _)
          rw [e1, ipow2, Int.mul_assoc, ← Int.pow_succ']
          congr 3; omega
        · have c0 : e % 2 = 0 := by omega
          simp only [c0, show ¬ (((0 : Nat) : Int) = 1) from by omega, if_false]
          refine ev_to (ih (e / 2) (by omega) (by omega) (a * a % p) out haa ho) ?_
          have e1 : out * (a * a % p) ^ (e / 2) % p = out * (a * a) ^ (e / 2) % p := emul rfl (epow_l _)
          rw [e1, ipow2]
          congr 3; omega
  intro e a ha he
  refine ev_s ?_
  simp only [spec_Power.j0]
  refine ev_to (key e e (Nat.le_refl _) he a 1 ha (by omega)) ?_
  rw [Int.one_mul]
theorem ev_Power {f : Int} (h : 0 ≤ f ∧ f < 9) {x : Int} (hx : x % md f ≠ 0) (e : Int) : Ev (fun k => spec_Power.f k f x e) ((x % md f) ^ (e % (md f - 1)).toNat % md f) := by
  have hp := pm_of h
  have hpp := hp
  unfold Pm at hpp
  have hxe := em_lt (a := x) hp.pos
  have hb := tmod_bounds (a := e) (p := md f - 1) (by omega)
  have hm := em_lt (a := e) (p := md f - 1) (by omega)
  have hfix := tmod_fix (a := e) (p := md f - 1) (by omega)
  unfold spec_Power.f
  simp only [ev_Modulus, Option.bind_some, ev_Reduce h, hx, if_false, w64 (x := md f - 1) (by omega) (by omega), show ¬ (md f = 0) from by omega, show ¬ (md f - 1 = 0) from by omega]
  have hcast : e % (md f - 1) = (((e % (md f - 1)).toNat : Nat) : Int) := by omega
  by_cases c : Int.tmod e (md f - 1) < 0
  · rw [if_pos c] at hfix
    simp only [c, if_true, w64 (x := Int.tmod e (md f - 1) + md f) (by omega) (by omega), w64 (x := Int.tmod e (md f - 1) + md f - 1) (by omega) (by omega)]
    rw [show Int.tmod e (md f - 1) + md f - 1 = (((e % (md f - 1)).toNat : Nat) : Int) by omega]
    exact ev_PowerL hp _ hxe (by omega)
  · rw [if_neg c] at hfix
    simp only [c, if_false]
    rw [show Int.tmod e (md f - 1) = (((e % (md f - 1)).toNat : Nat) : Int) by omega]
    exact ev_PowerL hp _ hxe (by omega)
theorem ev_Power0 {f : Int} (h : 0 ≤ f ∧ f < 9) {x : Int} (hx : x % md f = 0) (e : Int) : Ev (fun k => spec_Power.f k f x e) (if e = 0 then 1 else if e < 0 then -1 else 0) := by
  have hp := pm_of h
  unfold Pm at hp
  unfold spec_Power.f
  simp only [ev_Modulus, Option.bind_some, ev_Reduce h, hx, if_true, show ¬ (md f = 0) from by omega, if_false]
  by_cases c : e = 0
  · simp only [c, if_true]; exact Ev.now _
  · by_cases c2 : e < 0
    · simp only [c, c2, if_true, if_false]; exact Ev.now _
    · simp only [c, c2, if_false]; exact Ev.now _

theorem ev_PowerN {f : Int} (h : 0 ≤ f ∧ f < 9) {x : Int} (hx : 0 ≤ x ∧ x < md f) (e : Nat) : Ev (fun k => spec_Power.f k f x (e : Int)) (x ^ e % md f) := by
  have hp := pm_of h
  unfold Pm at hp
  by_cases c : x % md f = 0
  · refine ev_to (ev_Power0 h c (e : Int)) ?_
    rw [em_id hx.1 hx.2] at c
    subst c
    by_cases he : e = 0
    · subst he; rw [if_pos (show ((0 : Nat) : Int) = 0 from rfl), Int.pow_zero, em_id (by omega) (by omega)]
    · rw [if_neg (by omega), if_neg (by omega)]
      obtain ⟨q, rfl⟩ : ∃ q, e = q + 1 := ⟨e - 1, by omega⟩
      rw [Int.pow_succ, Int.mul_zero, Int.zero_emod]
  · refine ev_to (ev_Power h c (e : Int)) ?_
    have e1 : ((e : Int) % (md f - 1)).toNat = e % (md f - 1).toNat := by
      have : (md f - 1) = (((md f - 1).toNat : Nat) : Int) := by omega
      rw [this, ← Int.natCast_emod, Int.toNat_natCast, Int.toNat_natCast]
    rw [e1, epow_l, pow_red h c]

theorem ev_Generator {f : Int} (h : 0 ≤ f ∧ f < 9) : Ev (fun k => spec_Generator.f k f) (gn f) := by
  rcases fcases h.1 h.2 with e | e | e | e | e | e | e | e | e <;> subst e <;> exact ⟨4, fun k hk => by obtain ⟨m, rfl⟩ : ∃ m, k = m + 4 := ⟨k - 4, by omega⟩; rfl⟩

theorem ev_mul {p : Int} (hp : Pm p) (g t : Int) {a b : Int} (ha : 0 ≤ a ∧ a < p) (hb : 0 ≤ b ∧ b < p) : impl_field_mul.f p g t a b = some (a * b % p) := by
  unfold Pm at hp
  have h := mul_lt_big ha.1 ha.2 hb.1 hb.2 hp.2
  unfold impl_field_mul.f
  rw [if_neg (by omega), w64 (by omega) (by omega), tmod_nn (by omega)]

theorem ev_power {p : Int} (hp : Pm p) (g t : Int) : ∀ (e : Nat) {a : Int}, (0 ≤ a ∧ a < p) → e < 4611686018427387904 → Ev (fun k => impl_field_power.f k p g t a (e : Int)) (a ^ e % p) := by
  have hpp := hp
  unfold Pm at hpp
  have key : ∀ (n e : Nat), e ≤ n → e < 4611686018427387904 → ∀ a out : Int, (0 ≤ a ∧ a < p) → (0 ≤ out ∧ out < p) → Ev (fun k => impl_field_power.l0 k a (e : Int) out p g t) (out * a ^ e % p) := by
    intro n
    induction n with
    | zero =>
      intro e he _ a out ha ho
      obtain rfl : e = 0 := by omega
      refine ev_s ?_
      have h1 : ¬ (((0 : Nat) : Int) > 0) := by omega
      simp only [impl_field_power.l0, h1, if_false]
      rw [Int.pow_zero, Int.mul_one, em_id ho.1 ho.2]
      exact Ev.now _
    | succ n ih =>
      intro e he hb a out ha ho
      by_cases h0 : e = 0
      · subst h0
        exact ih 0 (by omega) hb a out ha ho
      · refine ev_s ?_
        have h1 : (e : Int) > 0 := by omega
        have h2 : Int.tmod (e : Int) 2 = ((e % 2 : Nat) : Int) := by rw [tmod_nn (by omega)]; omega
        have h3 : wrap64 (Int.tdiv (e : Int) 2) = ((e / 2 : Nat) : Int) := by
          rw [Int.tdiv_eq_ediv_of_nonneg (by omega), w64 (by omega) (by omega)]; omega
        have haa := em_lt (a := a * a) hp.pos
        simp only [impl_field_power.l0, h1, if_true, h2, h3, ev_mul hp g t ha ha, ev_mul hp g t ho ha, Option.bind_some]
        by_cases c : e % 2 = 1
        · have hoa := em_lt (a := out * a) hp.pos
          simp only [c, Int.natCast_one, if_true]
          refine ev_to (ih (e / 2) (by omega) (by omega) (a * a % p) (out * a % p) haa hoa) ?_
          have e1 : (out * a % p) * (a * a % p) ^ (e / 2) % p = (out * a) * (a * a) ^ (e / 2) % p := emul (Int.emod_emod _ _) (epow_l _)
          rw [e1, ipow2, Int.mul_assoc, ← Int.pow_succ']
          congr 3; omega
        · have c0 : e % 2 = 0 := by omega
          simp only [c0, show ¬ (((0 : Nat) : Int) = 1) from by omega, if_false]
          refine ev_to (ih (e / 2) (by omega) (by omega) (a * a % p) out haa ho) ?_
          have e1 : out * (a * a % p) ^ (e / 2) % p = out * (a * a) ^ (e / 2) % p := emul rfl (epow_l _)
          rw [e1, ipow2]
          congr 3; omega
  intro e a ha he
  unfold impl_field_power.f
  refine ev_to (key e e (Nat.le_refl _) he a 1 ha (by omega)) ?_
  rw [Int.one_mul]

theorem shr_pow {x : Int} {c : Nat} (h : c ≤ 60) : shr .i64 x (c : Int) = x / ((2 ^ c : Nat) : Int) := by
  unfold shr
  rw [Int.toNat_natCast, show min c (Go.IntKind.bits .i64) = c from Nat.min_eq_left (by show c ≤ 64; omega), Int.natCast_pow]; rfl
theorem eK_shr {f : Int} (hf : 0 ≤ f ∧ f < 9) {k : Nat} (hk : (k : Int) ≤ tp f) : shr .i64 (wrap64 (md f - 1)) (k : Int) = ((eK f k : Nat) : Int) := by
  have hp := pm_of hf
  unfold Pm at hp
  obtain ⟨h1, h2, h3, h4, h5⟩ := oddP_spec hf
  rw [w64 (by omega) (by omega), shr_pow (by omega)]
  have e : (2 ^ (tp f).toNat : Nat) = 2 ^ ((tp f).toNat - k) * 2 ^ k := by rw [← Nat.pow_add, show (tp f).toNat - k + k = (tp f).toNat by omega]
  have hpos := Nat.two_pow_pos k
  rw [h1, e, Int.natCast_mul, ← Int.mul_assoc, Int.mul_ediv_cancel _ (by omega)]
  unfold eK
  rw [Int.natCast_mul, show (((oddP f).toNat : Nat) : Int) = oddP f by omega]
theorem ev_root {f : Int} (hf : 0 ≤ f ∧ f < 9) {k : Nat} (hk : (k : Int) ≤ tp f) : Ev (fun q => impl_field_root.f q (md f) (gn f) (tp f) (k : Int)) (rtf f k) := by
  have hp := pm_of hf
  have hpp := hp
  unfold Pm at hpp
  have hb := (isF hf.1 hf.2).bounds
  have hg : 0 ≤ gn f ∧ gn f < md f := by
    rcases fcases hf.1 hf.2 with e | e | e | e | e | e | e | e | e <;> subst e <;> decide
  have hE : eK f k < 4611686018427387904 := by
    have hs := eK_shr hf hk
    have h0 : (0 : Int) ≤ md f - 1 := by omega
    obtain ⟨h1, h2, h3, h4, h5⟩ := oddP_spec hf
    rw [w64 (by omega) (by omega), shr_pow (by omega)] at hs
    have := Int.ediv_le_self ((2 ^ k : Nat) : Int) h0
    omega
  unfold impl_field_root.f
  have g1 : (0 : Int) ≤ (k : Int) := by omega
  simp only [g1, if_true, eK_shr hf hk]
  refine Ev.bind (ev_power hp _ _ _ hg hE) ?_
  exact Ev.now _

theorem ev_RootOf {f : Int} (hf : 0 ≤ f ∧ f < 9) {k : Nat} (hk : (k : Int) ≤ tp f) : Ev (fun q => spec_RootOf.f q f (k : Int)) (rtf f k) := by
  have hp := pm_of hf
  unfold Pm at hp
  have ht := (isF hf.1 hf.2).bounds
  have hg : 0 ≤ gn f ∧ gn f < md f := by
    rcases fcases hf.1 hf.2 with e | e | e | e | e | e | e | e | e <;> subst e <;> decide
  unfold spec_RootOf.f
  have g1 : ¬ (md f = 0) := by omega
  simp only [ev_Modulus, Option.bind_some, g1, if_false]
  refine Ev.bind (ev_TwoPower f) ?_
  simp only [ev_l01In, Option.bind_some, show decide ((0 : Int) ≤ (k : Int)) = true from decide_eq_true (by omega), show decide ((k : Int) ≤ tp f) = true from decide_eq_true hk, Bool.and_self, Bool.not_true]
  refine ev_s ?_
  simp only [spec_RootOf.j0, Bool.false_eq_true, if_false]
  refine Ev.bind (ev_Generator hf) ?_
  have g2 : (0 : Int) ≤ (k : Int) := by omega
  simp only [ev_Modulus, Option.bind_some, u64_id (x := (k : Int)) (by omega) (by omega), g2, if_true, eK_shr hf hk]
  refine Ev.bind (ev_PowerN hf hg (eK f k)) ?_
  exact Ev.now _

theorem ev_OddValues {f : Int} {a : List Int} (h : OddOk f a) : Ev (fun k => spec_OddValues.f k f a) (oddS (md f) (rtf f ((lg (a.length : Int)).toNat + 1)) a) := by
  have hf := h.1.1
  have hp := h.1.pm
  have hn := h.1.len
  have he := h.1.2.2
  obtain ⟨kk, hk, ht, hl⟩ := h.1.2.1
  have hlg : lg (a.length : Int) = (kk : Int) := by rw [hl, lg_pow hk]
  have h2 := h.2
  clear hl
  rw [hlg] at h2 ⊢
  rw [Int.toNat_natCast]
  have hv := rtf_lt hf (kk + 1)
  unfold spec_OddValues.f
  refine Ev.bind (ev_l08Open h) ?_
  simp only [if_true, ev_Modulus, Option.bind_some]
  refine Ev.bind (ev_LogOf _) ?_
  rw [hlg, w_succ (n := kk) (by omega)]
  refine Ev.bind (ev_RootOf hf (k := kk + 1) (by omega)) ?_
  clear hlg h2 ht
  have hpp := hp
  unfold Pm at hpp
  generalize rtf f (kk + 1) = v at *
  have inner : ∀ (c : Nat) (x : Int) (out r : List Int), (0 ≤ x ∧ x < md f) → c < a.length → out.length ≤ 512 → Ev (fun k => spec_OddValues.l0 k f a (out ++ [evP a x % md f]) (md f) v ((c + 1 : Nat) : Int)) r →
      ∀ (i d : Nat), i + d = a.length → Ev (fun k => spec_OddValues.l1 k f a out (md f) v (c : Int) x (hzP a x i d % md f) ((i : Int) - 1)) r := by
    intro c x out r hx hc ho hr i
    induction i with
    | zero =>
      intro d hd
      refine ev_s ?_
      have g1 : ¬ (((0 : Nat) : Int) - 1 ≥ 0) := by omega
      have g2 : out.length < 17592186044416 := by omega
      simp only [spec_OddValues.l1, g1, g2, if_true, if_false, w_succ (n := c) (by omega)]
      rw [show d = a.length by omega, hzP_all]; exact hr
    | succ i ih =>
      intro d hd
      refine ev_s ?_
      rw [show ((i + 1 : Nat) : Int) - 1 = (i : Int) by omega]
      have g1 : (i : Int) ≥ 0 := by omega
      have g2 : (0 : Int) ≤ (i : Int) := by omega
      have g3 : (i : Int) < (a.length : Int) := by omega
      have g4 : ¬ (md f = 0) := by omega
      have hz := em_lt (a := hzP a x (i + 1) d) hp.pos
      have hm := mul_lt_big hz.1 hz.2 hx.1 hx.2 hpp.2
      have hr2 := he.rd hp.pos (i : Int)
      have hs := ih (d + 1) (by omega)
      simp only [spec_OddValues.l1, g1, g2, g3, g4, if_true, if_false, w64 (x := hzP a x (i + 1) d % md f * x) (by omega) (by omega)]
      rw [w64 (x := hzP a x (i + 1) d % md f * x + rd a (i : Int)) (by omega) (by omega), tmod_nn (by omega), w64 (by omega) (by omega)]
      rw [hzP_step] at hs
      rw [eadd (emul_l (p := md f) (a := hzP a x (i + 1) d) (b := x)) rfl]
      exact hs
  have outer : ∀ (d c : Nat) (out : List Int), c + d = a.length → out = (List.range c).map (fun c => evP a (v ^ (2 * c + 1) % md f) % md f) → Ev (fun k => spec_OddValues.l0 k f a out (md f) v (c : Int)) (oddS (md f) v a) := by
    intro d
    induction d with
    | zero =>
      intro c out hc ho
      refine ev_s ?_
      have g1 : ¬ ((c : Int) < (a.length : Int)) := by omega
      simp only [spec_OddValues.l0, g1, if_false]
      rw [ho, show c = a.length by omega]; exact Ev.now _
    | succ d ih =>
      intro c out hc ho
      refine ev_s ?_
      have g1 : (c : Int) < (a.length : Int) := by omega
      have hi := inner c (v ^ (2 * c + 1) % md f) out (oddS (md f) v a) (em_lt hp.pos) (by omega) (by subst ho; simp; omega) (ih (c + 1) _ (by omega) (by rw [map_snoc, ho])) a.length 0 (by omega)
      have ew : wrap64 (wrap64 (2 * (c : Int)) + 1) = ((2 * c + 1 : Nat) : Int) := by
        clear hi ih inner hv hpp
        rw [w64 (x := 2 * (c : Int)) (by omega) (by omega), w64 (by omega) (by omega)]; omega
      have ew2 : wrap64 ((a.length : Int) - 1) = (a.length : Int) - 1 := w64 (by omega) (by omega)
      simp only [spec_OddValues.l0, g1, if_true, ew, ew2]
      refine Ev.bind (ev_PowerN hf hv (2 * c + 1)) ?_
      exact hi
  exact outer a.length 0 [] (by omega) rfl

theorem ev_reversed : ∀ (m x : Nat), m ≤ 9 → x < 2 ^ m → Ev (fun k => impl_reversed.f k (x : Int) (m : Int)) ((rv m x : Nat) : Int) := by
  intro m x hm hx
  have hm2 := two_pow_le hm
  have key : ∀ (d i y acc : Nat), i + d = m → y < 2 ^ d → acc < 2 ^ i → Ev (fun k => impl_reversed.l0 k (y : Int) (acc : Int) (m : Int) (i : Int)) ((acc * 2 ^ d + rv d y : Nat) : Int) := by
    intro d
    induction d with
    | zero =>
      intro i y acc hi hy hacc
      refine ev_s ?_
      have g1 : ¬ ((i : Int) < (m : Int)) := by omega
      simp only [impl_reversed.l0, g1, if_false]
      rw [Nat.pow_zero, Nat.mul_one]; exact Ev.now _
    | succ d ih =>
      intro i y acc hi hy hacc
      refine ev_s ?_
      have g1 : (i : Int) < (m : Int) := by omega
      have hi2 := two_pow_le (k := i) (by omega)
      have e1 : ((y : Int) / 2) = ((y / 2 : Nat) : Int) := by omega
      have e2 : wrap64 (wrap64 (2 * (acc : Int)) + (y : Int) % 2) = ((2 * acc + y % 2 : Nat) : Int) := by
        have hacc3 : acc < 512 := by omega
        clear hy hx hm2 hi2 hacc
        rw [w64 (x := 2 * (acc : Int)) (by omega) (by omega), w64 (by omega) (by omega)]; omega
      simp only [impl_reversed.l0, g1, if_true, i64_and1, e1, e2, w_succ (n := i) (by omega)]
      rw [Nat.pow_succ] at hy
      have hy2 : y / 2 < 2 ^ d := by
        generalize 2 ^ d = q at hy
        clear hx hm2 hi2 hacc e2
        omega
      have ha2 : 2 * acc + y % 2 < 2 ^ (i + 1) := by
        rw [Nat.pow_succ]
        generalize 2 ^ i = q at hacc
        clear hx hm2 hi2 hy hy2 e2
        omega
      have hs := ih (i + 1) (y / 2) (2 * acc + y % 2) (by clear hy hy2 ha2 hx hm2 hi2 hacc e2; omega) hy2 ha2
      refine ev_to hs ?_
      congr 1
      show _ = acc * 2 ^ (d + 1) + ((y % 2) * 2 ^ d + rv d (y / 2))
      rw [Nat.add_mul, Nat.pow_succ, Nat.mul_comm 2 acc, Nat.mul_assoc acc 2, Nat.mul_comm 2 (2 ^ d)]
      generalize acc * (2 ^ d * 2) = q1
      generalize y % 2 * 2 ^ d = q2
      generalize rv d (y / 2) = q3
      clear hy hy2 ha2 hx hm2 hi2 hacc e2 hs
      omega
  have := key m 0 x 0 (by omega) hx (by simp)
  rw [Nat.zero_mul, Nat.zero_add] at this
  exact this

theorem ev_logOf (n : Int) : Ev (fun k => impl_logOf.f k n) (lg n) := by
  have key : ∀ (d c : Nat), c + d = 10 → Ev (fun k => impl_logOf.l0 k n (c : Int)) (lgA n d c) := by
    intro d
    induction d with
    | zero =>
      intro c hc
      refine ev_s ?_
      have h1 : ¬ ((c : Int) < 10) := by omega
      simp only [impl_logOf.l0, h1, if_false]; exact Ev.now _
    | succ d ih =>
      intro c hc
      refine ev_s ?_
      have h1 : (c : Int) < 10 := by omega
      have h2 : (0 : Int) ≤ (c : Int) := by omega
      simp only [impl_logOf.l0, h1, h2, if_true, shl1 (c := c) (by omega), w_succ (n := c) (by omega)]
      unfold lgA
      by_cases h : n = ((2 ^ c : Nat) : Int)
      · rw [if_pos h]; simp only [if_pos h]; exact Ev.now _
      · rw [if_neg h]; simp only [if_neg h]; exact ih (c + 1) (by omega)
  exact key 10 0 rfl

theorem ev_permuted {a : List Int} {k : Nat} (hk : k ≤ 9) (hl : a.length = 2 ^ k) : Ev (fun q => impl_permuted.f q a) (prmS k a) := by
  have h2 := two_pow_le hk
  have key : ∀ (d i : Nat) (out : List Int), i + d = a.length → out.length = a.length → (∀ j, j < i → rd out ((rv k j : Nat) : Int) = rd a (j : Int)) → Ev (fun q => impl_permuted.l0 q (k : Int) out a (a.length : Int) (i : Int)) (prmS k a) := by
    intro d
    induction d with
    | zero =>
      intro i out hi ho hx
      refine ev_s ?_
      have g1 : ¬ ((i : Int) < (a.length : Int)) := by omega
      simp only [impl_permuted.l0, g1, if_false]
      have e : out = prmS k a := set_map_rd (by omega) (fun c hc => by
        have hr := rv_lt k c
        have := hx (rv k c) (by omega)
        rw [rv_rv k c hc] at this
        exact this)
      rw [e]; exact Ev.now _
    | succ d ih =>
      intro i out hi ho hx
      refine ev_s ?_
      have g1 : (i : Int) < (a.length : Int) := by omega
      have g2 : (0 : Int) ≤ (i : Int) := by omega
      have hr := rv_lt k i
      simp only [impl_permuted.l0, g1, g2, if_true]
      refine Ev.bind (ev_reversed k i hk (by omega)) ?_
      have g3 : (0 : Int) ≤ ((rv k i : Nat) : Int) := by omega
      have g4 : ((rv k i : Nat) : Int) < (out.length : Int) := by omega
      simp only [g3, g4, if_true, w_succ (n := i) (by omega), Int.toNat_natCast]
      refine ih (i + 1) _ (by omega) (by rw [List.length_set]; exact ho) (fun j hj => ?_)
      by_cases c : rv k i = rv k j
      · rw [← c, rd_set_eq (by omega)]
        have : i = j := by rw [← rv_rv k i (by omega), c, rv_rv k j (by omega)]
        rw [this]
      · rw [rd_set_ne c]
        refine hx j ?_
        by_cases c2 : j = i
        · subst c2; exact absurd rfl c
        · omega
  unfold impl_permuted.f
  refine Ev.bind (ev_logOf _) ?_
  have g1 : (0 : Int) ≤ (a.length : Int) := by omega
  simp only [g1, if_true, Int.toNat_natCast, show a.length ≤ 35184372088832 from by omega]
  rw [show lg (a.length : Int) = (k : Int) by rw [hl, lg_pow hk]]
  exact key a.length 0 _ (by omega) (by simp) (fun j hj => by omega)

theorem ev_add {p : Int} (hp : Pm p) (g t : Int) {a b : Int} (ha : 0 ≤ a ∧ a < p) (hb : 0 ≤ b ∧ b < p) : impl_field_add.f p g t a b = some ((a + b) % p) := by
  unfold Pm at hp
  unfold impl_field_add.f
  rw [if_neg (by omega), w64 (by omega) (by omega), tmod_nn (by omega)]

theorem ev_sub {p : Int} (hp : Pm p) (g t : Int) {a b : Int} (ha : 0 ≤ a ∧ a < p) (hb : 0 ≤ b ∧ b < p) : impl_field_sub.f p g t a b = some ((a - b) % p) := by
  unfold Pm at hp
  unfold impl_field_sub.f
  rw [if_neg (by omega), w64 (x := a - b) (by omega) (by omega), w64 (by omega) (by omega), tmod_nn (by omega), Int.add_emod_right]

theorem ev_stageI {p : Int} (hp : Pm p) (g t : Int) {x F : List Int} {v : Int} {h B : Nat} (hv : 0 ≤ v ∧ v < p) (hx : El p x) (hn : x.length ≤ 512) (hb : B + 2 * h ≤ x.length)
    (hlo : ∀ j, j < h → rd F ((B + j : Nat) : Int) = (rd x ((B + j : Nat) : Int) + rd x ((B + j + h : Nat) : Int) * v ^ j) % p)
    (hhi : ∀ j, j < h → rd F ((B + j + h : Nat) : Int) = (rd x ((B + j : Nat) : Int) - rd x ((B + j + h : Nat) : Int) * v ^ j) % p) {r : List Int}
    (hr : ∀ out' : List Int, out'.length = x.length → (∀ i : Nat, i < B + 2 * h → rd out' (i : Int) = rd F (i : Int)) → Ev (fun q => impl_field_stage.l0 q x out' (h : Int) v ((B + 2 * h : Nat) : Int) p g t) r) :
    ∀ (d j : Nat) (out : List Int), j + d = h → out.length = x.length → (∀ i : Nat, i < x.length → (i < B ∨ (B ≤ i ∧ i < B + j) ∨ (B + h ≤ i ∧ i < B + h + j)) → rd out (i : Int) = rd F (i : Int)) →
      Ev (fun q => impl_field_stage.l1 q x out (h : Int) v (B : Int) (v ^ j % p) (h : Int) (j : Int) p g t) r := by
  intro d
  induction d with
  | zero =>
    intro j out hj ho hx2
    refine ev_s ?_
    have g1 : ¬ ((j : Int) < (h : Int)) := by omega
    have ew : wrap64 ((B : Int) + wrap64 (2 * (h : Int))) = ((B + 2 * h : Nat) : Int) := by
      rw [w64 (x := 2 * (h : Int)) (by omega) (by omega), w64 (by omega) (by omega)]; omega
    simp only [impl_field_stage.l1, g1, if_false, ew]
    exact hr out ho (fun i hi => hx2 i (by omega) (by omega))
  | succ d ih =>
    intro j out hj ho hx2
    refine ev_s ?_
    have g1 : (j : Int) < (h : Int) := by omega
    have e1 : wrap64 ((B : Int) + (j : Int)) = ((B + j : Nat) : Int) := by rw [w64 (by omega) (by omega)]; omega
    have e2 : wrap64 (((B + j : Nat) : Int) + (h : Int)) = ((B + j + h : Nat) : Int) := by rw [w64 (by omega) (by omega)]; omega
    have g2 : (0 : Int) ≤ ((B + j : Nat) : Int) := by omega
    have g3 : ((B + j : Nat) : Int) < (x.length : Int) := by omega
    have g4 : (0 : Int) ≤ ((B + j + h : Nat) : Int) := by omega
    have g5 : ((B + j + h : Nat) : Int) < (x.length : Int) := by omega
    have g6 : ((B + j : Nat) : Int) < (out.length : Int) := by omega
    have g8 : ((B + j + h : Nat) : Int) < (out.length : Int) := by omega
    have b1 := hx.rd hp.pos ((B + j : Nat) : Int)
    have b2 := hx.rd hp.pos ((B + j + h : Nat) : Int)
    have b3 := em_lt (a := v ^ j) hp.pos
    have b4 := em_lt (a := rd x ((B + j + h : Nat) : Int) * (v ^ j % p)) hp.pos
    have ev1 : v ^ j % p * v % p = v ^ (j + 1) % p := by rw [emul_l, Int.pow_succ]
    simp only [impl_field_stage.l1, g1, e1, e2, g2, g3, g4, g5, g6, g8, if_true, ev_mul hp _ _ b2 b3, ev_add hp _ _ b1 b4, ev_sub hp _ _ b1 b4, ev_mul hp _ _ b3 hv, Option.bind_some, ev1, Int.toNat_natCast, w_succ (n := j) (by omega), List.length_set]
    refine ih (j + 1) _ (by omega) (by rw [List.length_set, List.length_set]; exact ho) (fun i hi hc => ?_)
    by_cases c1 : i = B + j + h
    · subst c1
      rw [rd_set_eq (by rw [List.length_set]; omega), hhi j (by omega)]
      exact (esub_r (p := p)).trans (esub rfl emul_r)
    · rw [rd_set_ne (by omega)]
      by_cases c2 : i = B + j
      · subst c2
        rw [rd_set_eq (by omega), hlo j (by omega)]
        exact (eadd_r (p := p)).trans (eadd rfl emul_r)
      · rw [rd_set_ne (by omega)]
        exact hx2 i hi (by omega)
theorem ev_stageO {p : Int} (hp : Pm p) (g t : Int) {x : List Int} {v : Int} {h nb : Nat} (hv : 0 ≤ v ∧ v < p) (hx : El p x) (hn : x.length ≤ 512) (hh : 0 < h) (hl : x.length = 2 * h * nb) :
    ∀ (d b : Nat) (out : List Int), b + d = nb → out.length = x.length → (∀ i : Nat, i < 2 * h * b → rd out (i : Int) = stF p v h x i) → Ev (fun q => impl_field_stage.l0 q x out (h : Int) v ((2 * h * b : Nat) : Int) p g t) (stgS p v h x) := by
  intro d
  induction d with
  | zero =>
    intro b out hb ho hx2
    refine ev_s ?_
    have hb' : b = nb := by clear hl; omega
    subst hb'
    rw [← hl] at hx2 ⊢
    have g1 : ¬ ((x.length : Int) < (x.length : Int)) := by clear hl; omega
    simp only [impl_field_stage.l0, g1, if_false]
    have e : out = stgS p v h x := set_map_rd ho hx2
    rw [e]; exact Ev.now _
  | succ d ih =>
    intro b out hb ho hx2
    have hle : 2 * h * b + 2 * h ≤ x.length := by
      have : 2 * h * (b + 1) ≤ 2 * h * nb := Nat.mul_le_mul_left _ (by clear hl; omega)
      rw [Nat.mul_add, Nat.mul_one] at this
      rw [hl]; exact this
    have hs := ih (b + 1)
    rw [Nat.mul_add, Nat.mul_one] at hs
    have hFr : ∀ i : Nat, i < x.length → rd (stgS p v h x) (i : Int) = stF p v h x i := fun i hi => by unfold stgS; rw [rd_map _ hi]
    have hlo := fun j (hj : j < h) => stF_lo (p := p) (v := v) (b := b) x hj
    have hhi := fun j (hj : j < h) => stF_hi (p := p) (v := v) (b := b) x hj
    clear hl ih
    generalize 2 * h * b = B at *
    refine ev_s ?_
    have g1 : (B : Int) < (x.length : Int) := by omega
    have hpp := hp
    unfold Pm at hpp
    simp only [impl_field_stage.l0, g1, if_true]
    have hi := ev_stageI hp g t (F := stgS p v h x) hv hx hn hle (fun j hj => by rw [hFr _ (by omega), hlo j hj]) (fun j hj => by rw [hFr _ (by omega), hhi j hj])
      (fun out' ho' hx' => hs out' (by omega) ho' (fun i hi => by rw [hx' i hi, hFr i (by omega)])) h 0 out (by omega) ho (fun i hi hc => by rw [hFr i hi, hx2 i (by omega)])
    rw [Int.pow_zero, em_id (by omega) (by omega)] at hi
    exact hi
theorem ev_stage {f : Int} (hf : 0 ≤ f ∧ f < 9) {x : List Int} {k s : Nat} (hk : k ≤ 9) (ht : (k : Int) ≤ tp f) (hl : x.length = 2 ^ k) (hx : El (md f) x) (hs : s < k) : Ev (fun q => impl_field_stage.f q (md f) (gn f) (tp f) x (s : Int)) (stgS (md f) (rtf f (s + 1)) (2 ^ s) x) := by
  have hp := pm_of hf
  have h2 := two_pow_le hk
  rw [← hl] at h2
  have hroot := ev_root hf (k := s + 1) (by clear hl; omega)
  have hn : x.length = 2 * 2 ^ s * 2 ^ (k - (s + 1)) := by rw [hl, show 2 * 2 ^ s = 2 ^ (s + 1) by rw [Nat.pow_succ, Nat.mul_comm], ← Nat.pow_add, show s + 1 + (k - (s + 1)) = k by omega]
  have hsh : shl .i64 1 (s : Int) = ((2 ^ s : Nat) : Int) := shl1 (by clear hl hn; omega)
  have hO := ev_stageO hp (gn f) (tp f) (rtf_lt hf (s + 1)) hx h2.2 (Nat.two_pow_pos s) hn (2 ^ (k - (s + 1))) 0 (List.replicate x.length 0) (Nat.zero_add _) (by simp) (fun i hi => by rw [Nat.mul_zero] at hi; exact absurd hi (Nat.not_lt_zero i))
  clear hl hn
  unfold impl_field_stage.f
  have g1 : (0 : Int) ≤ (x.length : Int) := by omega
  have g2 : (0 : Int) ≤ (s : Int) := by omega
  simp only [g1, g2, if_true, Int.toNat_natCast, show x.length ≤ 35184372088832 from by omega, w_succ (n := s) (by omega), hsh]
  refine Ev.bind hroot ?_
  exact hO

theorem ev_forwardL {f : Int} {a : List Int} (h : VecOk f a) : Ev (fun q => impl_field_forward.f q (md f) (gn f) (tp f) a) (fwS f a) := by
  have hf := h.1
  obtain ⟨k, hk, ht, hl⟩ := h.2.1
  have h2 := two_pow_le hk
  rw [fwS_eq hk hl]
  have key : ∀ (d s : Nat), s + d = k → Ev (fun q => impl_field_forward.l0 q (stS (md f) (rtf f s) k s a) (k : Int) (s : Int) (md f) (gn f) (tp f)) (dftS (md f) (rtf f k) a) := by
    intro d
    induction d with
    | zero =>
      intro s hs
      obtain rfl : s = k := by omega
      refine ev_s ?_
      have g1 : ¬ ((s : Int) < (s : Int)) := by omega
      simp only [impl_field_forward.l0, g1, if_false]
      rw [stS_end hl]; exact Ev.now _
    | succ d ih =>
      intro s hs
      refine ev_s ?_
      have g1 : (s : Int) < (k : Int) := by omega
      simp only [impl_field_forward.l0, g1, if_true]
      refine Ev.bind (ev_stage hf hk ht (stS_len _ _ _ _ _) (stS_el h.pm.pos _ _ _ _) (show s < k by omega)) ?_
      simp only [w_succ (n := s) (by omega)]
      have hr1 := rtf_root hf (k := s) (by omega)
      have hr2 := (rtf_root hf (k := s + 1) (by omega)).2 (by omega)
      rw [Nat.add_sub_cancel] at hr2
      rw [stS_step (show s < k by omega) (rtf_sq hf (by omega)) hr1.1 hr2]
      exact ih (s + 1) (by omega)
  unfold impl_field_forward.f
  refine Ev.bind (ev_permuted hk hl) ?_
  refine Ev.bind (ev_logOf _) ?_
  rw [show lg (a.length : Int) = (k : Int) by rw [hl, lg_pow hk], prmS_st h.pm.pos (rtf f 0) h.2.2]
  exact key k 0 (by omega)

theorem ev_oddValues {f : Int} {a : List Int} (h : OddOk f a) : Ev (fun k => impl_field_oddValues.f k (md f) (gn f) (tp f) a) (oddS (md f) (rtf f ((lg (a.length : Int)).toNat + 1)) a) := by
  have hf := h.1.1
  have hp := h.1.pm
  have hn := h.1.len
  have he := h.1.2.2
  obtain ⟨kk, hk, ht, hl⟩ := h.1.2.1
  have hlg : lg (a.length : Int) = (kk : Int) := by rw [hl, lg_pow hk]
  have h2 := h.2
  rw [hlg] at h2 ⊢
  rw [Int.toNat_natCast]
  have hv := rtf_lt hf (kk + 1)
  have hsq := rtf_sq hf (k := kk) (by clear hl; omega)
  unfold impl_field_oddValues.f
  refine Ev.bind (ev_logOf _) ?_
  rw [hlg, w_succ (n := kk) (by clear hl; omega)]
  refine Ev.bind (ev_root hf (k := kk + 1) (by clear hl; omega)) ?_
  have turned : Ev (fun k => impl_field_turned.f k (md f) (gn f) (tp f) a (rtf f (kk + 1))) (twdS (md f) (rtf f (kk + 1)) a) := by
    clear hsq hlg h2 ht hl
    generalize rtf f (kk + 1) = v at *
    have hpp := hp
    unfold Pm at hpp
    have key : ∀ (d i : Nat) (out : List Int), i + d = a.length → out = (List.range i).map (fun (i : Nat) => rd a (i : Int) * (v ^ i % md f) % md f) → Ev (fun k => impl_field_turned.l0 k v out (v ^ i % md f) a (a.length : Int) (i : Int) (md f) (gn f) (tp f)) (twdS (md f) v a) := by
      intro d
      induction d with
      | zero =>
        intro i out hi ho
        refine ev_s ?_
        have g1 : ¬ ((i : Int) < (a.length : Int)) := by omega
        simp only [impl_field_turned.l0, g1, if_false]
        rw [ho, show i = a.length by omega]; exact Ev.now _
      | succ d ih =>
        intro i out hi ho
        refine ev_s ?_
        have g1 : (i : Int) < (a.length : Int) := by omega
        have g2 : (0 : Int) ≤ (i : Int) := by omega
        have g4 : out.length < 17592186044416 := by subst ho; simp; omega
        have b3 := em_lt (a := v ^ i) hp.pos
        have ev1 : v ^ i % md f * v % md f = v ^ (i + 1) % md f := by rw [emul_l, Int.pow_succ]
        simp only [impl_field_turned.l0, g1, g2, g4, if_true, ev_mul hp _ _ (he.rd hp.pos (i : Int)) b3, ev_mul hp _ _ b3 hv, Option.bind_some, ev1, w_succ (n := i) (by omega)]
        exact ih (i + 1) _ (by omega) (by rw [map_snoc, ho])
    unfold impl_field_turned.f
    have := key a.length 0 [] (by omega) rfl
    rw [Int.pow_zero, em_id (by omega) (by omega)] at this
    exact this
  refine Ev.bind turned ?_
  refine Ev.bind (ev_forwardL (twdS_ok h.1 _)) ?_
  rw [fwS_eq hk (by rw [twdS_len]; exact hl), odd_dft hsq]
  exact Ev.now _

theorem ev_fieldOf {f : Int} (h : 0 ≤ f ∧ f < 9) : impl_fieldOf.f f = some (md f, gn f, tp f, true) := by
  rcases fcases h.1 h.2 with e | e | e | e | e | e | e | e | e <;> subst e <;> rfl
theorem ev_fieldOf_bad {f : Int} (h : ¬ (0 ≤ f ∧ f < 9)) : impl_fieldOf.f f = some (0, 0, 0, false) := by
  unfold impl_fieldOf.f
  by_cases c : f < 0
  · rw [if_pos c]
  · rw [if_neg c, if_pos (by omega)]

theorem ev_areElements (p g t : Int) (l : List Int) (hl : l.length ≤ 35184372088832) : Ev (fun k => impl_field_areElements.f k p g t l) (elB p l) := by
  have key : ∀ (d i : Nat), i + d = l.length → Ev (fun k => impl_field_areElements.l0 k l (l.length : Int) (i : Int) p g t) (elB p (l.drop i)) := by
    intro d
    induction d with
    | zero =>
      intro i hi
      refine ev_s ?_
      have h1 : ¬ ((i : Int) < (l.length : Int)) := by omega
      simp only [impl_field_areElements.l0, h1, if_false]
      rw [List.drop_of_length_le (by omega)]
      exact Ev.now _
    | succ d ih =>
      intro i hi
      refine ev_s ?_
      have h1 : (i : Int) < (l.length : Int) := by omega
      have h2 : (0 : Int) ≤ (i : Int) := by omega
      simp only [impl_field_areElements.l0, h1, h2, if_true, w_succ (n := i) (by omega)]
      rw [elB_drop (by omega)]
      by_cases c1 : rd l (i : Int) < 0
      · simp only [c1, if_true, show decide (0 ≤ rd l (i : Int)) = false from decide_eq_false (by omega), Bool.false_and]
        exact Ev.now _
      · by_cases c2 : rd l (i : Int) ≥ p
        · simp only [c1, c2, if_true, if_false, show decide (rd l (i : Int) < p) = false from decide_eq_false (by omega), Bool.false_and, Bool.and_false]
          exact Ev.now _
        · simp only [c1, c2, if_false, show decide (0 ≤ rd l (i : Int)) = true from decide_eq_true (by omega), show decide (rd l (i : Int) < p) = true from decide_eq_true (by omega), Bool.true_and]
          exact ih (i + 1) (by omega)
  exact key l.length 0 (by omega)

theorem ev_vectorField1 {f : Int} {a : List Int} (h : VecOk f a) : Ev (fun k => impl_vectorField.f k f [a]) (md f, gn f, tp f, true) := by
  have hlg := h.lg
  have hn := h.len
  obtain ⟨hf, _, he⟩ := h
  unfold impl_vectorField.f
  have hl : (([a] : List (List Int)).length : Int) = 1 := rfl
  have hr : rd_L1 [a] 0 = a := rfl
  have n1 : ¬ (lg (a.length : Int) < 0) := by omega
  have n2 : ¬ (lg (a.length : Int) > tp f) := by omega
  simp only [ev_fieldOf hf, Option.bind_some, if_true, hl]
  refine ev_s ?_
  simp only [impl_vectorField.l0, hl, hr, show (0 : Int) < 1 from by decide, show (0 : Int) ≤ 0 from by decide, if_true]
  refine Ev.bind (ev_logOf _) ?_
  simp only [n1, n2, if_false]
  refine Ev.bind (ev_areElements _ _ _ a (by omega)) ?_
  simp only [elB_iff.2 he, if_true, w64 (x := 0 + 1) (by decide) (by decide)]
  refine ev_s ?_
  simp only [impl_vectorField.l0, hl, show ¬ ((0 : Int) + 1 < 1) from by decide, if_false]
  exact Ev.now _
theorem lg_small {n : Nat} (h : 0 ≤ lg (n : Int)) : n ≤ 512 := by
  rcases lg_cases (n : Int) with ⟨e, _⟩ | ⟨k, hk, _, e⟩
  · omega
  · have := two_pow_le hk; omega
theorem ev_vectorField1_bad {f : Int} {a : List Int} (h : ¬ VecOk f a) : Ev (fun k => impl_vectorField.f k f [a]) (0, 0, 0, false) := by
  unfold impl_vectorField.f
  by_cases hf : 0 ≤ f ∧ f < 9
  · have hl : (([a] : List (List Int)).length : Int) = 1 := rfl
    have hr : rd_L1 [a] 0 = a := rfl
    simp only [ev_fieldOf hf, Option.bind_some, if_true, hl]
    refine ev_s ?_
    simp only [impl_vectorField.l0, hl, hr, show (0 : Int) < 1 from by decide, show (0 : Int) ≤ 0 from by decide, if_true]
    refine Ev.bind (ev_logOf _) ?_
    by_cases n1 : lg (a.length : Int) < 0
    · simp only [n1, if_true]; exact Ev.now _
    by_cases n2 : lg (a.length : Int) > tp f
    · simp only [n1, n2, if_true, if_false]; exact Ev.now _
    simp only [n1, n2, if_false]
    have hs := lg_small (n := a.length) (by omega)
    refine Ev.bind (ev_areElements _ _ _ a (by omega)) ?_
    have he : elB (md f) a = false := by
      rw [← Bool.not_eq_true, elB_iff]
      intro he
      exact h (vec_of hf (by omega) (by omega) he)
    simp only [he, Bool.false_eq_true, if_false]
    exact Ev.now _
  · simp only [ev_fieldOf_bad hf, Option.bind_some, Bool.false_eq_true, if_false]
    exact Ev.now _

theorem ev_splittingField {f : Int} {a : List Int} (h : OddOk f a) : Ev (fun k => impl_splittingField.f k f a) (md f, gn f, tp f, true) := by
  have hl := h.1.lg
  have ht : tp f ≤ 26 := by have := (isF h.1.1.1 h.1.1.2).bounds; omega
  unfold impl_splittingField.f
  refine Ev.bind (ev_vectorField1 h.1) ?_
  simp only [if_true]
  refine Ev.bind (ev_logOf _) ?_
  have g := h.2
  have e : wrap64 (lg (a.length : Int) + 1) = lg (a.length : Int) + 1 := w64 (by omega) (by omega)
  rw [e, if_neg (show ¬ (lg (a.length : Int) + 1 > tp f) from by clear e; omega)]; exact Ev.now _
theorem ev_splittingField_bad {f : Int} {a : List Int} (h : ¬ OddOk f a) : Ev (fun k => impl_splittingField.f k f a) (0, 0, 0, false) := by
  unfold impl_splittingField.f
  by_cases hv : VecOk f a
  · have hl := hv.lg
    have ht : tp f ≤ 26 := by have := (isF hv.1.1 hv.1.2).bounds; omega
    refine Ev.bind (ev_vectorField1 hv) ?_
    simp only [if_true]
    refine Ev.bind (ev_logOf _) ?_
    have g : lg (a.length : Int) + 1 > tp f := by
      by_cases c : lg (a.length : Int) + 1 ≤ tp f
      · exact absurd ⟨hv, c⟩ h
      · omega
    rw [w64 (x := lg (a.length : Int) + 1) (by omega) (by omega), if_pos g]; exact Ev.now _
  · refine Ev.bind (ev_vectorField1_bad hv) ?_
    simp only [Bool.false_eq_true, if_false]; exact Ev.now _

theorem ev_Mul {f : Int} (h : 0 ≤ f ∧ f < 9) (x y : Int) : spec_Mul.f f x y = some ((x * y) % md f) := by
  have hp := pm_of h
  have hb := hp
  unfold Pm at hp
  have hx := em_lt (a := x) (p := md f) (by omega)
  have hy := em_lt (a := y) (p := md f) (by omega)
  have hxy := mul_lt_big hx.1 hx.2 hy.1 hy.2 hp.2
  unfold spec_Mul.f
  rw [ev_Modulus]
  simp only [Option.bind_some, ev_Reduce h]
  rw [if_neg (by omega), w64 (by omega) (by omega), emul_l, emul_r]

def prdS (p : Int) (l : List Int) : Nat → Int
  | 0 => 1
  | n + 1 => prdS p l n * rd l (n : Int) % p
theorem prdS_lt {p : Int} (hp : 1 < p) (l : List Int) : ∀ n, 0 ≤ prdS p l n ∧ prdS p l n < p
  | 0 => by show (0 : Int) ≤ 1 ∧ (1 : Int) < p; omega
  | n + 1 => em_lt (by omega)
theorem FnExactNorm : laws_FnExactNorm.Pure := by
  intro f l hf hl hl8 hwl
  refine Ev.rounds ?_
  unfold laws_FnExactNorm.f
  by_cases hbig : (l.length : Int) > 1048576
  · simp only [hbig, if_true]; exact Ev.now _
  simp only [hbig, if_false]
  have hll : l.length ≤ 35184372088832 := by omega
  obtain ⟨R, hR1, hR2⟩ : ∃ R, Ev (fun k => spec_Norm.f k f l) R ∧ Ev (fun k => impl_Norm.f k f l) R := by
    by_cases h : OddOk f l
    · have hn := h.1.len
      have hp := h.1.pm
      have hpp := hp
      unfold Pm at hpp
      obtain ⟨V, hV⟩ : ∃ V, V = oddS (md f) (rtf f ((lg (l.length : Int)).toNat + 1)) l := ⟨_, rfl⟩
      have hVl : V.length = l.length := by rw [hV, oddS_len]
      have hVe : El (md f) V := by rw [hV]; exact oddS_el hp.pos _ _
      refine ⟨prdS (md f) V V.length, ?_, ?_⟩
      · unfold spec_Norm.f
        refine Ev.bind (ev_l08Open h) ?_
        simp only [if_true]
        refine Ev.bind (ev_OddValues h) ?_
        rw [← hV]
        have key : ∀ (d i : Nat), i + d = V.length → Ev (fun k => spec_Norm.l0 k f V (prdS (md f) V i) (i : Int)) (prdS (md f) V V.length) := by
          intro d
          induction d with
          | zero =>
            intro i hi
            refine ev_s ?_
            have g1 : ¬ ((i : Int) < (V.length : Int)) := by omega
            simp only [spec_Norm.l0, g1, if_false]
            rw [show i = V.length by omega]; exact Ev.now _
          | succ d ih =>
            intro i hi
            refine ev_s ?_
            have g1 : (i : Int) < (V.length : Int) := by omega
            have g2 : (0 : Int) ≤ (i : Int) := by omega
            simp only [spec_Norm.l0, g1, g2, if_true, ev_Mul h.1.1, Option.bind_some, w_succ (n := i) (by omega)]
            exact ih (i + 1) (by omega)
        exact key V.length 0 (by omega)
      · unfold impl_Norm.f
        refine Ev.bind (ev_splittingField h) ?_
        simp only [if_true]
        refine Ev.bind (ev_oddValues h) ?_
        rw [← hV]
        have key : ∀ (d i : Nat), i + d = V.length → Ev (fun k => impl_Norm.l0 k (prdS (md f) V i) V (V.length : Int) (i : Int) (md f) (gn f) (tp f)) (prdS (md f) V V.length) := by
          intro d
          induction d with
          | zero =>
            intro i hi
            refine ev_s ?_
            have g1 : ¬ ((i : Int) < (V.length : Int)) := by omega
            simp only [impl_Norm.l0, g1, if_false]
            rw [show i = V.length by omega]; exact Ev.now _
          | succ d ih =>
            intro i hi
            refine ev_s ?_
            have g1 : (i : Int) < (V.length : Int) := by omega
            have g2 : (0 : Int) ≤ (i : Int) := by omega
            simp only [impl_Norm.l0, g1, g2, if_true, ev_mul hp _ _ (prdS_lt (by omega) V i) (hVe.rd hp.pos (i : Int)), Option.bind_some, w_succ (n := i) (by omega)]
            exact ih (i + 1) (by omega)
        exact key V.length 0 (by omega)
    · refine ⟨-1, ?_, ?_⟩
      · unfold spec_Norm.f
        refine Ev.bind (ev_l08Open_bad h) ?_
        simp only [Bool.false_eq_true, if_false]; exact Ev.now _
      · unfold impl_Norm.f
        refine Ev.bind (ev_splittingField_bad h) ?_
        simp only [Bool.false_eq_true, if_false]; exact Ev.now _
  repeat first
    | exact Ev.now _
    | refine Ev.bind (ev_toIntS l hll) ?_
    | refine Ev.bind hR1 ?_
    | refine Ev.bind hR2 ?_
    | refine Ev.bind (ev_eqIntS l (by omega)) ?_
    | simp only [if_true, if_false, bne_self_eq_false, Bool.false_eq_true]

end Go.Proofs.Ytemffnnndjpleaa.Pure
