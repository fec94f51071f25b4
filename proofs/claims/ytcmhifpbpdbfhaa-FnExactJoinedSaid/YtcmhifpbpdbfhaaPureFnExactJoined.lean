/- FnExactJoined returns true for all arguments: both Joineds are -1 where an argument is no element, and the same number elsewhere. -/
import Derived.Test.YtcmhifpbpdbfhaaPFnExactJoinedx3
import Derived.Test.YtcmhifpbpdbfhaaGB
set_option linter.unusedVariables false
set_option linter.unusedSimpArgs false
namespace Go.Proofs.Ytcmhifpbpdbfhaa.Pure
open Go.RowKit Go.Proofs.Ytcmhifpbpdbfhaa.PFnExactJoined Go.Proofs.YtcmhifpbpdbfhaaW.PrintWords Go.Proofs.YtcmhifpbpdbfhaaW.PrintLast Go.Proofs.YtcmhifpbpdbfhaaW.PrintMore G7
theorem ev_fieldOf {f : Int} (h : 0 ≤ f ∧ f < 9) : impl_fieldOf.f f = some (md f, gn f, tp f, true) := by
  rcases fcases h.1 h.2 with e | e | e | e | e | e | e | e | e <;> subst e <;> rfl
theorem ev_fieldOf_bad {f : Int} (h : ¬ (0 ≤ f ∧ f < 9)) : impl_fieldOf.f f = some (0, 0, 0, false) := by
  unfold impl_fieldOf.f
  by_cases c : f < 0
  · rw [if_pos c]
  · rw [if_neg c, if_pos (by omega)]

theorem ev_areElements (p g t : Int) (l : List Int) (hl : l.length ≤ 35184372088832) : Ev (fun k => impl_field_areElements.f k p g t l) (elB p l) := by
  have key : ∀ (d i : Nat), i + d = l.length → Ev (fun k => impl_field_areElements.l0 k l (l.length : Int) (i : Int) p g t) (elB p (l.drop i)) := by
    intro d
    induction d with
    | zero =>
      intro i hi
      refine ev_s ?_
      have h1 : ¬ ((i : Int) < (l.length : Int)) := by omega
      simp only [impl_field_areElements.l0, h1, if_false]
      rw [List.drop_of_length_le (by omega)]
      exact Ev.now _
    | succ d ih =>
      intro i hi
      refine ev_s ?_
      have h1 : (i : Int) < (l.length : Int) := by omega
      have h2 : (0 : Int) ≤ (i : Int) := by omega
      simp only [impl_field_areElements.l0, h1, h2, if_true, w_succ (n := i) (by omega)]
      rw [elB_drop (by omega)]
      by_cases c1 : rd l (i : Int) < 0
      · simp only [c1, if_true, show decide (0 ≤ rd l (i : Int)) = false from decide_eq_false (by omega), Bool.false_and]
        exact Ev.now _
      · by_cases c2 : rd l (i : Int) ≥ p
        · simp only [c1, c2, if_true, if_false, show decide (rd l (i : Int) < p) = false from decide_eq_false (by omega), Bool.false_and, Bool.and_false]
          exact Ev.now _
        · simp only [c1, c2, if_false, show decide (0 ≤ rd l (i : Int)) = true from decide_eq_true (by omega), show decide (rd l (i : Int) < p) = true from decide_eq_true (by omega), Bool.true_and]
          exact ih (i + 1) (by omega)
  exact key l.length 0 (by omega)

theorem ev_reduce {p : Int} (hp : Pm p) (g t x : Int) : impl_field_reduce.f p g t x = some (x % p) := by
  unfold Pm at hp
  have hb := tmod_bounds (a := x) (p := p) (by omega)
  unfold impl_field_reduce.f
  rw [if_neg (by omega), w64 (by omega) (by omega), tmod_nn (by omega), tmod_add_emod (by omega)]

theorem ev_mul {p : Int} (hp : Pm p) (g t : Int) {a b : Int} (ha : 0 ≤ a ∧ a < p) (hb : 0 ≤ b ∧ b < p) : impl_field_mul.f p g t a b = some (a * b % p) := by
  unfold Pm at hp
  have h := mul_lt_big ha.1 ha.2 hb.1 hb.2 hp.2
  unfold impl_field_mul.f
  rw [if_neg (by omega), w64 (by omega) (by omega), tmod_nn (by omega)]

theorem ev_power {p : Int} (hp : Pm p) (g t : Int) : ∀ (e : Nat) {a : Int}, (0 ≤ a ∧ a < p) → e < 4611686018427387904 → Ev (fun k => impl_field_power.f k p g t a (e : Int)) (a ^ e % p) := by
  have hpp := hp
  unfold Pm at hpp
  have key : ∀ (n e : Nat), e ≤ n → e < 4611686018427387904 → ∀ a out : Int, (0 ≤ a ∧ a < p) → (0 ≤ out ∧ out < p) → Ev (fun k => impl_field_power.l0 k a (e : Int) out p g t) (out * a ^ e % p) := by
    intro n
    induction n with
    | zero =>
      intro e he _ a out ha ho
      obtain rfl : e = 0 := by omega
      refine ev_s ?_
      have h1 : ¬ (((0 : Nat) : Int) > 0) := by omega
      simp only [impl_field_power.l0, h1, if_false]
      rw [Int.pow_zero, Int.mul_one, em_id ho.1 ho.2]
      exact Ev.now _
    | succ n ih =>
      intro e he hb a out ha ho
      by_cases h0 : e = 0
      · subst h0
        exact ih 0 (by omega) hb a out ha ho
      · refine ev_s ?_
        have h1 : (e : Int) > 0 := by omega
        have h2 : Int.tmod (e : Int) 2 = ((e % 2 : Nat) : Int) := by rw [tmod_nn (by omega)]; omega
        have h3 : wrap64 (Int.tdiv (e : Int) 2) = ((e / 2 : Nat) : Int) := by
          rw [Int.tdiv_eq_ediv_of_nonneg (by omega), w64 (by omega) (by omega)]; omega
        have haa := em_lt (a := a * a) hp.pos
        simp only [impl_field_power.l0, h1, if_true, h2, h3, ev_mul hp g t ha ha, ev_mul hp g t ho ha, Option.bind_some]
        by_cases c : e % 2 = 1
        · have hoa := em_lt (a := out * a) hp.pos
          simp only [c, Int.natCast_one, if_true]
          refine ev_to (ih (e / 2) (by omega) (by omega) (a * a % p) (out * a % p) haa hoa) ?_
          have e1 : (out * a % p) * (a * a % p) ^ (e / 2) % p = (out * a) * (a * a) ^ (e / 2) % p := emul (Int.emod_emod _ _) (epow_l _)
          rw [e1, ipow2, Int.mul_assoc, ← Int.pow_succ']
          congr 3; omega
        · have c0 : e % 2 = 0 := by omega
          simp only [c0, show ¬ (((0 : Nat) : Int) = 1) from by omega, if_false]
          refine ev_to (ih (e / 2) (by omega) (by omega) (a * a % p) out haa ho) ?_
          have e1 : out * (a * a % p) ^ (e / 2) % p = out * (a * a) ^ (e / 2) % p := emul rfl (epow_l _)
          rw [e1, ipow2]
          congr 3; omega
  intro e a ha he
  unfold impl_field_power.f
  refine ev_to (key e e (Nat.le_refl _) he a 1 ha (by omega)) ?_
  rw [Int.one_mul]

theorem ev_inverse {p : Int} (hp : Pm p) (g t : Int) {a : Int} (ha : 0 ≤ a ∧ a < p) : Ev (fun k => impl_field_inverse.f k p g t a) (inv p a) := by
  have hpp := hp
  unfold Pm at hpp
  unfold impl_field_inverse.f
  rw [w64 (x := p - 2) (by omega) (by omega)]
  have h : p - 2 = (((p - 2).toNat : Nat) : Int) := by omega
  have := ev_power hp g t (p - 2).toNat ha (by omega)
  rw [← h] at this
  refine Ev.bind this ?_
  exact Ev.now _

/-- What Joined comes to. -/
def joinV (a b : Int) : Int := if (0 ≤ a ∧ a < 998244353) ∧ (0 ≤ b ∧ b < 469762049) then a + 998244353 * ((b - a) % 469762049 * inv 469762049 (998244353 % 469762049) % 469762049) else -1
theorem joinV_b {a b : Int} (h : (0 ≤ a ∧ a < 998244353) ∧ (0 ≤ b ∧ b < 469762049)) : 0 ≤ joinV a b ∧ joinV a b < 998244353 * 469762049 := by
  unfold joinV
  rw [if_pos h]
  have := em_lt (a := (b - a) % 469762049 * inv 469762049 (998244353 % 469762049)) (p := 469762049) (by omega)
  omega
theorem ev_exact : impl_exactFields.f = some (998244353, 3, 23, 469762049, 3, 26) := rfl
theorem ev_joined (a b : Int) (ha : -9223372036854775808 ≤ a ∧ a ≤ 9223372036854775807) (hb : -9223372036854775808 ≤ b ∧ b ≤ 9223372036854775807) : Ev (fun k => impl_joined.f k a b) (joinV a b) := by
  have h6 : (0 : Int) ≤ 6 ∧ (6 : Int) < 9 := by omega
  have h7 : (0 : Int) ≤ 7 ∧ (7 : Int) < 9 := by omega
  have p7 : Pm 469762049 := pm_of h7
  unfold impl_joined.f
  simp only [ev_exact, Option.bind_some]
  refine Ev.bind (ev_areElements 998244353 3 23 [a] (by simp)) ?_
  by_cases ca : 0 ≤ a ∧ a < 998244353
  · have e1 : elB 998244353 [a] = true := elB_iff.2 (by intro x hx; rw [List.mem_singleton] at hx; subst hx; exact ca)
    simp only [e1, if_true]
    refine Ev.bind (ev_areElements 469762049 3 26 [b] (by simp)) ?_
    by_cases cb : 0 ≤ b ∧ b < 469762049
    · have e2 : elB 469762049 [b] = true := elB_iff.2 (by intro x hx; rw [List.mem_singleton] at hx; subst hx; exact cb)
      refine ev_s ?_
      have hr := em_lt (a := b - a) (p := 469762049) (by omega)
      have hi : 0 ≤ inv 469762049 (998244353 % 469762049) ∧ inv 469762049 (998244353 % 469762049) < 469762049 := inv_lt (by omega) _
      simp only [impl_joined.j0, e2, Bool.not_true, Bool.false_eq_true, if_false, w64 (x := b - a) (by omega) (by omega), ev_reduce p7, Option.bind_some]
      refine Ev.bind (ev_inverse p7 3 26 (a := 998244353 % 469762049) (by decide)) ?_
      have hq := em_lt (a := (b - a) % 469762049 * inv 469762049 (998244353 % 469762049)) (p := 469762049) (by omega)
      simp only [ev_mul p7 3 26 hr hi, Option.bind_some]
      rw [w64 (x := 998244353 * _) (by omega) (by omega), w64 (by omega) (by omega)]
      unfold joinV
      rw [if_pos ⟨ca, cb⟩]
      exact Ev.now _
    · have e2 : elB 469762049 [b] = false := by
        rw [← Bool.not_eq_true, elB_iff]; intro h; exact cb (h b (by simp))
      refine ev_s ?_
      simp only [impl_joined.j0, e2, Bool.not_false, if_true]
      unfold joinV
      rw [if_neg (fun h => cb h.2)]
      exact Ev.now _
  · have e1 : elB 998244353 [a] = false := by
      rw [← Bool.not_eq_true, elB_iff]; intro h; exact ca (h a (by simp))
    simp only [e1, Bool.false_eq_true, if_false]
    refine ev_s ?_
    simp only [impl_joined.j0, if_true]
    unfold joinV
    rw [if_neg (fun h => ca h.1)]
    exact Ev.now _

theorem ev_Joined (a b : Int) (ha : -9223372036854775808 ≤ a ∧ a ≤ 9223372036854775807) (hb : -9223372036854775808 ≤ b ∧ b ≤ 9223372036854775807) : Ev (fun k => impl_Joined.f k a b) (joinV a b) := by
  unfold impl_Joined.f
  refine Ev.bind (ev_joined a b ha hb) ?_
  exact Ev.now _

theorem ev_l01In (x a b : Int) : spec_l01In.f x a b = some (decide (a ≤ x) && decide (x ≤ b)) := by
  unfold spec_l01In.f
  by_cases h : a ≤ x
  · rw [if_pos h, decide_eq_true h, Bool.true_and]
  · rw [if_neg h, decide_eq_false h, Bool.false_and]

theorem ev_Modulus (f : Int) : spec_Modulus.f f = some (md f) := by
  unfold spec_Modulus.f md
  by_cases h0 : f = 0
  · rw [if_pos h0, if_pos h0]
  rw [if_neg h0, if_neg h0]
  by_cases h1 : f = 1
  · rw [if_pos h1, if_pos h1]
  rw [if_neg h1, if_neg h1]
  by_cases h2 : f = 2
  · rw [if_pos h2, if_pos h2]
  rw [if_neg h2, if_neg h2]
  by_cases h3 : f = 3
  · rw [if_pos h3, if_pos h3]
  rw [if_neg h3, if_neg h3]
  by_cases h4 : f = 4
  · rw [if_pos h4, if_pos h4]
  rw [if_neg h4, if_neg h4]
  by_cases h5 : f = 5
  · rw [if_pos h5, if_pos h5]
  rw [if_neg h5, if_neg h5]
  by_cases h6 : f = 6
  · rw [if_pos h6, if_pos h6]
  rw [if_neg h6, if_neg h6]
  by_cases h7 : f = 7
  · rw [if_pos h7, if_pos h7]
  rw [if_neg h7, if_neg h7]
  by_cases h8 : f = 8
  · rw [if_pos h8, if_pos h8]
  rw [if_neg h8, if_neg h8]

theorem ev_Reduce {f : Int} (h : 0 ≤ f ∧ f < 9) (x : Int) : spec_Reduce.f f x = some (x % md f) := by
  have hp := pm_of h
  unfold Pm at hp
  unfold spec_Reduce.f
  rw [ev_Modulus]
  simp only [Option.bind_some]
  rw [if_neg (by omega)]
  have hb := tmod_bounds (a := x) (p := md f) (by omega)
  rw [w64 (by omega) (by omega), ← tmod_fix (a := x) (p := md f) (by omega)]
  by_cases c : Int.tmod x (md f) < 0
  · rw [if_pos c, if_pos c]
  · rw [if_neg c, if_neg c]
theorem ev_Reduce_bad {f : Int} (h : ¬ (0 ≤ f ∧ f < 9)) (x : Int) : spec_Reduce.f f x = some (-1) := by
  unfold spec_Reduce.f
  rw [ev_Modulus]
  simp only [Option.bind_some]
  rw [if_pos (md_bad h)]

theorem ev_Sub {f : Int} (h : 0 ≤ f ∧ f < 9) (x y : Int) : spec_Sub.f f x y = some ((x - y) % md f) := by
  have hp := pm_of h
  unfold Pm at hp
  have hx := em_lt (a := x) (p := md f) (by omega)
  have hy := em_lt (a := y) (p := md f) (by omega)
  unfold spec_Sub.f
  rw [ev_Modulus]
  simp only [Option.bind_some, ev_Reduce h]
  rw [if_neg (by omega), w64 (by omega) (by omega), esub_l, esub_r]

theorem ev_PowerL {p : Int} (hp : Pm p) : ∀ (e : Nat) {a : Int}, (0 ≤ a ∧ a < p) → e < 4611686018427387904 → Ev (fun k => spec_Power.j0 k p a (e : Int)) (a ^ e % p) := by
  have hpp := hp
  unfold Pm at hpp
  have key : ∀ (n e : Nat), e ≤ n → e < 4611686018427387904 → ∀ a out : Int, (0 ≤ a ∧ a < p) → (0 ≤ out ∧ out < p) → Ev (fun k => spec_Power.l0 k p a (e : Int) out) (out * a ^ e % p) := by
    intro n
    induction n with
    | zero =>
      intro e he _ a out ha ho
      obtain rfl : e = 0 := by omega
      refine ev_s ?_
      have h1 : ¬ (((0 : Nat) : Int) > 0) := by omega
      simp only [spec_Power.l0, h1, if_false]
      rw [Int.pow_zero, Int.mul_one, em_id ho.1 ho.2]
      exact Ev.now _
    | succ n ih =>
      intro e he hb a out ha ho
      by_cases h0 : e = 0
      · subst h0
        exact ih 0 (by omega) hb a out ha ho
      · refine ev_s ?_
        have h1 : (e : Int) > 0 := by omega
        have h2 : Int.tmod (e : Int) 2 = ((e % 2 : Nat) : Int) := by rw [tmod_nn (by omega)]; omega
        have h3 : wrap64 (Int.tdiv (e : Int) 2) = ((e / 2 : Nat) : Int) := by
          rw [Int.tdiv_eq_ediv_of_nonneg (by omega), w64 (by omega) (by omega)]; omega
        have haa := em_lt (a := a * a) hp.pos
        have hp0 : ¬ (p = 0) := by omega
        have b1 := mul_lt_big ha.1 ha.2 ha.1 ha.2 hpp.2
        have b2 := mul_lt_big ho.1 ho.2 ha.1 ha.2 hpp.2
        simp only [spec_Power.l0, h1, if_true, h2, h3, hp0, if_false, w64 (x := a * a) (by omega) (by omega), w64 (x := out * a) (by omega) (by omega), tmod_nn b1.1, tmod_nn b2.1]
        by_cases c : e % 2 = 1
        · have hoa := em_lt (a := out * a) hp.pos
          simp only [c, Int.natCast_one, if_true]
          refine ev_to (ih (e / 2) (by omega) (by omega) (a * a % p) (out * a % p) haa hoa) ?_
          have e1 : (out * a % p) * (a * a % p) ^ (e / 2) % p = (out * a) * (a * a) ^ (e / 2) % p := emul (Int.emod_emod _ _) (epow_l _)
          rw [e1, ipow2, Int.mul_assoc, ← Int.pow_succ']
          congr 3; omega
        · have c0 : e % 2 = 0 := by omega
          simp only [c0, show ¬ (((0 : Nat) : Int) = 1) from by omega, if_false]
          refine ev_to (ih (e / 2) (by omega) (by omega) (a * a % p) out haa ho) ?_
          have e1 : out * (a * a % p) ^ (e / 2) % p = out * (a * a) ^ (e / 2) % p := emul rfl (epow_l _)
          rw [e1, ipow2]
          congr 3; omega
  intro e a ha he
  refine ev_s ?_
  simp only [spec_Power.j0]
  refine ev_to (key e e (Nat.le_refl _) he a 1 ha (by omega)) ?_
  rw [Int.one_mul]
theorem ev_Power {f : Int} (h : 0 ≤ f ∧ f < 9) {x : Int} (hx : x % md f ≠ 0) (e : Int) : Ev (fun k => spec_Power.f k f x e) ((x % md f) ^ (e % (md f - 1)).toNat % md f) := by
  have hp := pm_of h
  have hpp := hp
  unfold Pm at hpp
  have hxe := em_lt (a := x) hp.pos
  have hb := tmod_bounds (a := e) (p := md f - 1) (by omega)
  have hm := em_lt (a := e) (p := md f - 1) (by omega)
  have hfix := tmod_fix (a := e) (p := md f - 1) (by omega)
  unfold spec_Power.f
  simp only [ev_Modulus, Option.bind_some, ev_Reduce h, hx, if_false, w64 (x := md f - 1) (by omega) (by omega), show ¬ (md f = 0) from by omega, show ¬ (md f - 1 = 0) from by omega]
  have hcast : e % (md f - 1) = (((e % (md f - 1)).toNat : Nat) : Int) := by omega
  by_cases c : Int.tmod e (md f - 1) < 0
  · rw [if_pos c] at hfix
    simp only [c, if_true, w64 (x := Int.tmod e (md f - 1) + md f) (by omega) (by omega), w64 (x := Int.tmod e (md f - 1) + md f - 1) (by omega) (by omega)]
    rw [show Int.tmod e (md f - 1) + md f - 1 = (((e % (md f - 1)).toNat : Nat) : Int) by omega]
    exact ev_PowerL hp _ hxe (by omega)
  · rw [if_neg c] at hfix
    simp only [c, if_false]
    rw [show Int.tmod e (md f - 1) = (((e % (md f - 1)).toNat : Nat) : Int) by omega]
    exact ev_PowerL hp _ hxe (by omega)
theorem ev_Power0 {f : Int} (h : 0 ≤ f ∧ f < 9) {x : Int} (hx : x % md f = 0) (e : Int) : Ev (fun k => spec_Power.f k f x e) (if e = 0 then 1 else if e < 0 then -1 else 0) := by
  have hp := pm_of h
  unfold Pm at hp
  unfold spec_Power.f
  simp only [ev_Modulus, Option.bind_some, ev_Reduce h, hx, if_true, show ¬ (md f = 0) from by omega, if_false]
  by_cases c : e = 0
  · simp only [c, if_true]; exact Ev.now _
  · by_cases c2 : e < 0
    · simp only [c, c2, if_true, if_false]; exact Ev.now _
    · simp only [c, c2, if_false]; exact Ev.now _

theorem ev_Inverse {f : Int} (h : 0 ≤ f ∧ f < 9) {x : Int} (hx : x % md f ≠ 0) : Ev (fun k => spec_Inverse.f k f x) (inv (md f) (x % md f)) := by
  have hp := pm_of h
  unfold Pm at hp
  unfold spec_Inverse.f
  refine Ev.bind (ev_Power h hx (-1)) ?_
  rw [show (-1 : Int) % (md f - 1) = md f - 2 from by
    rw [← Int.add_mul_emod_self_left (-1) (md f - 1) 1, Int.mul_one, em_id (by omega) (by omega)]; omega]
  exact Ev.now _

theorem ev_Mul {f : Int} (h : 0 ≤ f ∧ f < 9) (x y : Int) : spec_Mul.f f x y = some ((x * y) % md f) := by
  have hp := pm_of h
  have hb := hp
  unfold Pm at hp
  have hx := em_lt (a := x) (p := md f) (by omega)
  have hy := em_lt (a := y) (p := md f) (by omega)
  have hxy := mul_lt_big hx.1 hx.2 hy.1 hy.2 hp.2
  unfold spec_Mul.f
  rw [ev_Modulus]
  simp only [Option.bind_some, ev_Reduce h]
  rw [if_neg (by omega), w64 (by omega) (by omega), emul_l, emul_r]

theorem ev_sJoined (a b : Int) : Ev (fun k => spec_Joined.f k a b) (joinV a b) := by
  have h6 : (0 : Int) ≤ 6 ∧ (6 : Int) < 9 := by omega
  have h7 : (0 : Int) ≤ 7 ∧ (7 : Int) < 9 := by omega
  have m6 : md 6 = 998244353 := rfl
  have m7 : md 7 = 469762049 := rfl
  unfold spec_Joined.f
  simp only [ev_Modulus, m6, m7, ev_l01In, Option.bind_some, w64 (x := 998244353 - 1) (by decide) (by decide), w64 (x := 469762049 - 1) (by decide) (by decide)]
  by_cases ca : 0 ≤ a ∧ a < 998244353
  · have e1 : (decide (0 ≤ a) && decide (a ≤ 998244353 - 1)) = true := by
      rw [Bool.and_eq_true, decide_eq_true_eq, decide_eq_true_eq]; omega
    simp only [e1, if_true]
    refine ev_s ?_
    by_cases cb : 0 ≤ b ∧ b < 469762049
    · have e2 : (decide (0 ≤ b) && decide (b ≤ 469762049 - 1)) = true := by
        rw [Bool.and_eq_true, decide_eq_true_eq, decide_eq_true_eq]; omega
      simp only [spec_Joined.j0, e2, Bool.not_true, Bool.false_eq_true, if_false, ev_Modulus, m6, ev_Sub h7, Option.bind_some]
      refine Ev.bind (ev_Inverse h7 (x := 998244353) (by decide)) ?_
      simp only [ev_Mul h7, Option.bind_some, m7]
      have hq := em_lt (a := (b - a) % 469762049 * inv 469762049 (998244353 % 469762049)) (p := 469762049) (by omega)
      rw [w64 (x := 998244353 * _) (by omega) (by omega), w64 (by omega) (by omega)]
      unfold joinV
      rw [if_pos ⟨ca, cb⟩]
      exact Ev.now _
    · have e2 : (decide (0 ≤ b) && decide (b ≤ 469762049 - 1)) = false := by
        rw [← Bool.not_eq_true, Bool.and_eq_true, decide_eq_true_eq, decide_eq_true_eq]; omega
      simp only [spec_Joined.j0, e2, Bool.not_false, if_true]
      unfold joinV
      rw [if_neg (fun h => cb h.2)]
      exact Ev.now _
  · have e1 : (decide (0 ≤ a) && decide (a ≤ 998244353 - 1)) = false := by
      rw [← Bool.not_eq_true, Bool.and_eq_true, decide_eq_true_eq, decide_eq_true_eq]; omega
    simp only [e1, Bool.false_eq_true, if_false]
    refine ev_s ?_
    simp only [spec_Joined.j0, if_true]
    unfold joinV
    rw [if_neg (fun h => ca h.1)]
    exact Ev.now _

theorem FnExactJoined : laws_FnExactJoined.Pure := by
  intro a b ha hb
  refine Ev.rounds ?_
  unfold laws_FnExactJoined.f
  refine Ev.bind (ev_sJoined a b) ?_
  refine Ev.bind (ev_Joined a b (wf_i64 ha) (wf_i64 hb)) ?_
  simp only [if_true]
  exact Ev.now _

end Go.Proofs.Ytcmhifpbpdbfhaa.Pure
