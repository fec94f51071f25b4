/- FnCentered returns true for every input: an integer whose absolute value is at most half of the product of the two moduli comes back from its Split by Centered. -/
import Derived.Test.YtcmhifpbpdbfhaaPFnCenteredx4
import Derived.Test.YtcmhifpbpdbfhaaGB
set_option linter.unusedVariables false
set_option linter.unusedSimpArgs false
namespace Go.Proofs.Ytcmhifpbpdbfhaa.Pure
open Go.RowKit Go.Proofs.Ytcmhifpbpdbfhaa.PFnCentered Go.Proofs.YtcmhifpbpdbfhaaW.PrintWords Go.Proofs.YtcmhifpbpdbfhaaW.PrintLast Go.Proofs.YtcmhifpbpdbfhaaW.PrintMore G7
theorem ev_Modulus (f : Int) : spec_Modulus.f f = some (md f) := by
  unfold spec_Modulus.f md
  by_cases h0 : f = 0
  · rw [if_pos h0, if_pos h0]
  rw [if_neg h0, if_neg h0]
  by_cases h1 : f = 1
  · rw [if_pos h1, if_pos h1]
  rw [if_neg h1, if_neg h1]
  by_cases h2 : f = 2
  · rw [if_pos h2, if_pos h2]
  rw [if_neg h2, if_neg h2]
  by_cases h3 : f = 3
  · rw [if_pos h3, if_pos h3]
  rw [if_neg h3, if_neg h3]
  by_cases h4 : f = 4
  · rw [if_pos h4, if_pos h4]
  rw [if_neg h4, if_neg h4]
  by_cases h5 : f = 5
  · rw [if_pos h5, if_pos h5]
  rw [if_neg h5, if_neg h5]
  by_cases h6 : f = 6
  · rw [if_pos h6, if_pos h6]
  rw [if_neg h6, if_neg h6]
  by_cases h7 : f = 7
  · rw [if_pos h7, if_pos h7]
  rw [if_neg h7, if_neg h7]
  by_cases h8 : f = 8
  · rw [if_pos h8, if_pos h8]
  rw [if_neg h8, if_neg h8]

theorem ev_reduce {p : Int} (hp : Pm p) (g t x : Int) : impl_field_reduce.f p g t x = some (x % p) := by
  unfold Pm at hp
  have hb := tmod_bounds (a := x) (p := p) (by omega)
  unfold impl_field_reduce.f
  rw [if_neg (by omega), w64 (by omega) (by omega), tmod_nn (by omega), tmod_add_emod (by omega)]

theorem ev_fieldOf {f : Int} (h : 0 ≤ f ∧ f < 9) : impl_fieldOf.f f = some (md f, gn f, tp f, true) := by
  rcases fcases h.1 h.2 with e | e | e | e | e | e | e | e | e <;> subst e <;> rfl
theorem ev_fieldOf_bad {f : Int} (h : ¬ (0 ≤ f ∧ f < 9)) : impl_fieldOf.f f = some (0, 0, 0, false) := by
  unfold impl_fieldOf.f
  by_cases c : f < 0
  · rw [if_pos c]
  · rw [if_neg c, if_pos (by omega)]

theorem ev_areElements (p g t : Int) (l : List Int) (hl : l.length ≤ 35184372088832) : Ev (fun k => impl_field_areElements.f k p g t l) (elB p l) := by
  have key : ∀ (d i : Nat), i + d = l.length → Ev (fun k => impl_field_areElements.l0 k l (l.length : Int) (i : Int) p g t) (elB p (l.drop i)) := by
    intro d
    induction d with
    | zero =>
      intro i hi
      refine ev_s ?_
      have h1 : ¬ ((i : Int) < (l.length : Int)) := by omega
      simp only [impl_field_areElements.l0, h1, if_false]
      rw [List.drop_of_length_le (by omega)]
      exact Ev.now _
    | succ d ih =>
      intro i hi
      refine ev_s ?_
      have h1 : (i : Int) < (l.length : Int) := by omega
      have h2 : (0 : Int) ≤ (i : Int) := by omega
      simp only [impl_field_areElements.l0, h1, h2, if_true, w_succ (n := i) (by omega)]
      rw [elB_drop (by omega)]
      by_cases c1 : rd l (i : Int) < 0
      · simp only [c1, if_true, show decide (0 ≤ rd l (i : Int)) = false from decide_eq_false (by omega), Bool.false_and]
        exact Ev.now _
      · by_cases c2 : rd l (i : Int) ≥ p
        · simp only [c1, c2, if_true, if_false, show decide (rd l (i : Int) < p) = false from decide_eq_false (by omega), Bool.false_and, Bool.and_false]
          exact Ev.now _
        · simp only [c1, c2, if_false, show decide (0 ≤ rd l (i : Int)) = true from decide_eq_true (by omega), show decide (rd l (i : Int) < p) = true from decide_eq_true (by omega), Bool.true_and]
          exact ih (i + 1) (by omega)
  exact key l.length 0 (by omega)

theorem ev_mul {p : Int} (hp : Pm p) (g t : Int) {a b : Int} (ha : 0 ≤ a ∧ a < p) (hb : 0 ≤ b ∧ b < p) : impl_field_mul.f p g t a b = some (a * b % p) := by
  unfold Pm at hp
  have h := mul_lt_big ha.1 ha.2 hb.1 hb.2 hp.2
  unfold impl_field_mul.f
  rw [if_neg (by omega), w64 (by omega) (by omega), tmod_nn (by omega)]

theorem ev_power {p : Int} (hp : Pm p) (g t : Int) : ∀ (e : Nat) {a : Int}, (0 ≤ a ∧ a < p) → e < 4611686018427387904 → Ev (fun k => impl_field_power.f k p g t a (e : Int)) (a ^ e % p) := by
  have hpp := hp
  unfold Pm at hpp
  have key : ∀ (n e : Nat), e ≤ n → e < 4611686018427387904 → ∀ a out : Int, (0 ≤ a ∧ a < p) → (0 ≤ out ∧ out < p) → Ev (fun k => impl_field_power.l0 k a (e : Int) out p g t) (out * a ^ e % p) := by
    intro n
    induction n with
    | zero =>
      intro e he _ a out ha ho
      obtain rfl : e = 0 := by omega
      refine ev_s ?_
      have h1 : ¬ (((0 : Nat) : Int) > 0) := by omega
      simp only [impl_field_power.l0, h1, if_false]
      rw [Int.pow_zero, Int.mul_one, em_id ho.1 ho.2]
      exact Ev.now _
    | succ n ih =>
      intro e he hb a out ha ho
      by_cases h0 : e = 0
      · subst h0
        exact ih 0 (by omega) hb a out ha ho
      · refine ev_s ?_
        have h1 : (e : Int) > 0 := by omega
        have h2 : Int.tmod (e : Int) 2 = ((e % 2 : Nat) : Int) := by rw [tmod_nn (by omega)]; omega
        have h3 : wrap64 (Int.tdiv (e : Int) 2) = ((e / 2 : Nat) : Int) := by
          rw [Int.tdiv_eq_ediv_of_nonneg (by omega), w64 (by omega) (by omega)]; omega
        have haa := em_lt (a := a * a) hp.pos
        simp only [impl_field_power.l0, h1, if_true, h2, h3, ev_mul hp g t ha ha, ev_mul hp g t ho ha, Option.bind_some]
        by_cases c : e % 2 = 1
        · have hoa := em_lt (a := out * a) hp.pos
          simp only [c, Int.natCast_one, if_true]
          refine ev_to (ih (e / 2) (by omega) (by omega) (a * a % p) (out * a % p) haa hoa) ?_
          have e1 : (out * a % p) * (a * a % p) ^ (e / 2) % p = (out * a) * (a * a) ^ (e / 2) % p := emul (Int.emod_emod _ _) (epow_l _)
          rw [e1, ipow2, Int.mul_assoc, ← Int.pow_succ']
          congr 3; omega
        · have c0 : e % 2 = 0 := by omega
          simp only [c0, show ¬ (((0 : Nat) : Int) = 1) from by omega, if_false]
          refine ev_to (ih (e / 2) (by omega) (by omega) (a * a % p) out haa ho) ?_
          have e1 : out * (a * a % p) ^ (e / 2) % p = out * (a * a) ^ (e / 2) % p := emul rfl (epow_l _)
          rw [e1, ipow2]
          congr 3; omega
  intro e a ha he
  unfold impl_field_power.f
  refine ev_to (key e e (Nat.le_refl _) he a 1 ha (by omega)) ?_
  rw [Int.one_mul]

theorem ev_inverse {p : Int} (hp : Pm p) (g t : Int) {a : Int} (ha : 0 ≤ a ∧ a < p) : Ev (fun k => impl_field_inverse.f k p g t a) (inv p a) := by
  have hpp := hp
  unfold Pm at hpp
  unfold impl_field_inverse.f
  rw [w64 (x := p - 2) (by omega) (by omega)]
  have h : p - 2 = (((p - 2).toNat : Nat) : Int) := by omega
  have := ev_power hp g t (p - 2).toNat ha (by omega)
  rw [← h] at this
  refine Ev.bind this ?_
  exact Ev.now _

/-- What Joined comes to. -/
def joinV (a b : Int) : Int := if (0 ≤ a ∧ a < 998244353) ∧ (0 ≤ b ∧ b < 469762049) then a + 998244353 * ((b - a) % 469762049 * inv 469762049 (998244353 % 469762049) % 469762049) else -1
theorem joinV_b {a b : Int} (h : (0 ≤ a ∧ a < 998244353) ∧ (0 ≤ b ∧ b < 469762049)) : 0 ≤ joinV a b ∧ joinV a b < 998244353 * 469762049 := by
  unfold joinV
  rw [if_pos h]
  have := em_lt (a := (b - a) % 469762049 * inv 469762049 (998244353 % 469762049)) (p := 469762049) (by omega)
  omega
theorem ev_exact : impl_exactFields.f = some (998244353, 3, 23, 469762049, 3, 26) := rfl
theorem ev_joined (a b : Int) (ha : -9223372036854775808 ≤ a ∧ a ≤ 9223372036854775807) (hb : -9223372036854775808 ≤ b ∧ b ≤ 9223372036854775807) : Ev (fun k => impl_joined.f k a b) (joinV a b) := by
  have h6 : (0 : Int) ≤ 6 ∧ (6 : Int) < 9 := by omega
  have h7 : (0 : Int) ≤ 7 ∧ (7 : Int) < 9 := by omega
  have p7 : Pm 469762049 := pm_of h7
  unfold impl_joined.f
  simp only [ev_exact, Option.bind_some]
  refine Ev.bind (ev_areElements 998244353 3 23 [a] (by simp)) ?_
  by_cases ca : 0 ≤ a ∧ a < 998244353
  · have e1 : elB 998244353 [a] = true := elB_iff.2 (by intro x hx; rw [List.mem_singleton] at hx; subst hx; exact ca)
    simp only [e1, if_true]
    refine Ev.bind (ev_areElements 469762049 3 26 [b] (by simp)) ?_
    by_cases cb : 0 ≤ b ∧ b < 469762049
    · have e2 : elB 469762049 [b] = true := elB_iff.2 (by intro x hx; rw [List.mem_singleton] at hx; subst hx; exact cb)
      refine ev_s ?_
      have hr := em_lt (a := b - a) (p := 469762049) (by omega)
      have hi : 0 ≤ inv 469762049 (998244353 % 469762049) ∧ inv 469762049 (998244353 % 469762049) < 469762049 := inv_lt (by omega) _
      simp only [impl_joined.j0, e2, Bool.not_true, Bool.false_eq_true, if_false, w64 (x := b - a) (by omega) (by omega), ev_reduce p7, Option.bind_some]
      refine Ev.bind (ev_inverse p7 3 26 (a := 998244353 % 469762049) (by decide)) ?_
      have hq := em_lt (a := (b - a) % 469762049 * inv 469762049 (998244353 % 469762049)) (p := 469762049) (by omega)
      simp only [ev_mul p7 3 26 hr hi, Option.bind_some]
      rw [w64 (x := 998244353 * _) (by omega) (by omega), w64 (by omega) (by omega)]
      unfold joinV
      rw [if_pos ⟨ca, cb⟩]
      exact Ev.now _
    · have e2 : elB 469762049 [b] = false := by
        rw [← Bool.not_eq_true, elB_iff]; intro h; exact cb (h b (by simp))
      refine ev_s ?_
      simp only [impl_joined.j0, e2, Bool.not_false, if_true]
      unfold joinV
      rw [if_neg (fun h => cb h.2)]
      exact Ev.now _
  · have e1 : elB 998244353 [a] = false := by
      rw [← Bool.not_eq_true, elB_iff]; intro h; exact ca (h a (by simp))
    simp only [e1, Bool.false_eq_true, if_false]
    refine ev_s ?_
    simp only [impl_joined.j0, if_true]
    unfold joinV
    rw [if_neg (fun h => ca h.1)]
    exact Ev.now _

theorem ev_Joined (a b : Int) (ha : -9223372036854775808 ≤ a ∧ a ≤ 9223372036854775807) (hb : -9223372036854775808 ≤ b ∧ b ≤ 9223372036854775807) : Ev (fun k => impl_Joined.f k a b) (joinV a b) := by
  unfold impl_Joined.f
  refine Ev.bind (ev_joined a b ha hb) ?_
  exact Ev.now _

/-- What Centered comes to. -/
def cenV (a b : Int) : Int × Bool := if joinV a b < 0 then (0, false) else if 2 * joinV a b > 998244353 * 469762049 then (joinV a b - 998244353 * 469762049, true) else (joinV a b, true)
theorem joinV_any (a b : Int) : -1 ≤ joinV a b ∧ joinV a b < 998244353 * 469762049 := by
  by_cases h : (0 ≤ a ∧ a < 998244353) ∧ (0 ≤ b ∧ b < 469762049)
  · have := joinV_b h; omega
  · unfold joinV; rw [if_neg h]; omega
theorem ev_Centered (a b : Int) (ha : -9223372036854775808 ≤ a ∧ a ≤ 9223372036854775807) (hb : -9223372036854775808 ≤ b ∧ b ≤ 9223372036854775807) : Ev (fun k => impl_Centered.f k a b) (cenV a b) := by
  unfold impl_Centered.f
  refine Ev.bind (ev_joined a b ha hb) ?_
  have hj := joinV_any a b
  unfold cenV
  by_cases c : joinV a b < 0
  · simp only [c, if_true]; exact Ev.now _
  · simp only [c, if_false, ev_exact, Option.bind_some, w64 (x := 998244353 * 469762049) (by decide) (by decide), w64 (x := 2 * joinV a b) (by omega) (by omega), w64 (x := joinV a b - 998244353 * 469762049) (by omega) (by omega)]
    by_cases c2 : 2 * joinV a b > 998244353 * 469762049
    · simp only [c2, if_true]; exact Ev.now _
    · simp only [c2, if_false]; exact Ev.now _

theorem dr_New (L : List Int) (hL : L.length ≤ 140737488351232) : ∃ h, Ev (fun k => spec_l01New.f k L) (L, 0, h) := by
  have key : ∀ (d i : Nat) (x : Int), i + d = 4000 → ∃ h, Ev (fun k => spec_l01New.l0 k L x (i : Int)) (L, 0, h) := by
    intro d
    induction d with
    | zero =>
      intro i x hi
      refine ⟨x, ev_s ?_⟩
      have h2 : ¬ ((i : Int) < 4000) := by omega
      by_cases h1 : (i : Int) < (L.length : Int)
      · simp only [spec_l01New.l0, h1, h2, if_true, if_false]; exact Ev.now _
      · simp only [spec_l01New.l0, h1, if_false]; exact Ev.now _
    | succ d ih =>
      intro i x hi
      have h2 : (i : Int) < 4000 := by omega
      have h3 : (0 : Int) ≤ (i : Int) := by omega
      by_cases h1 : (i : Int) < (L.length : Int)
      · obtain ⟨h, hh⟩ := ih (i + 1) (Go.bits .and .i64 (wrap64 ((wrap64 ((wrap64 (x * 149)) + (wrap64 (rd L (i : Int))))) + 11)) 1073741823) (by omega)
        refine ⟨h, ev_s ?_⟩
        simp only [spec_l01New.l0, h1, h2, h3, if_true, w_succ (n := i) (by omega)]
        exact hh
      · refine ⟨x, ev_s ?_⟩
        simp only [spec_l01New.l0, h1, if_false]; exact Ev.now _
  unfold spec_l01New.f
  exact key 4000 0 _ (by omega)

theorem dr_Byte (L : List Int) (hL : L.length ≤ 140737488351232) (i h : Int) (hi : 0 ≤ i) : ∃ x i' h', spec_l01Byte.f L i h = some (x, i', h') ∧ 0 ≤ i' ∧ 0 ≤ x ∧ x ≤ 255 := by
  unfold spec_l01Byte.f
  simp only [i64_and255]
  by_cases c : i < (L.length : Int)
  · rw [if_pos c, if_pos hi]
    exact ⟨_, _, _, rfl, by rw [w64 (by omega) (by omega)]; omega, by omega, by omega⟩
  · rw [if_neg c]
    exact ⟨_, _, _, rfl, hi, by omega, by omega⟩

theorem dr_Below (L : List Int) (hL : L.length ≤ 140737488351232) (i h n : Int) (hi : 0 ≤ i) : ∃ x i' h', spec_l01Below.f L i h n = some (x, i', h') ∧ 0 ≤ i' ∧ 0 ≤ x ∧ (0 < n → x < n) := by
  unfold spec_l01Below.f
  by_cases c : n ≤ 0
  · rw [if_pos c]
    exact ⟨_, _, _, rfl, hi, by omega, by omega⟩
  · rw [if_neg c]
    by_cases c2 : n ≤ 256
    · rw [if_pos c2]
      obtain ⟨x, i1, h1, e1, hi1, hx0, hx1⟩ := dr_Byte L hL i h hi
      simp only [e1, Option.bind_some]
      rw [if_neg (by omega), tmod_nn hx0]
      exact ⟨_, _, _, rfl, hi1, (em_lt (by omega)).1, fun _ => (em_lt (by omega)).2⟩
    · rw [if_neg c2]
      obtain ⟨x, i1, h1, e1, hi1, hx0, hx1⟩ := dr_Byte L hL i h hi
      obtain ⟨y, i2, h2, e2, hi2, hy0, hy1⟩ := dr_Byte L hL i1 h1 hi1
      obtain ⟨z, i3, h3, e3, hi3, hz0, hz1⟩ := dr_Byte L hL i2 h2 hi2
      simp only [e1, e2, e3, Option.bind_some]
      rw [if_neg (by omega), w64 (x := x * 65536) (by omega) (by omega), w64 (x := y * 256) (by omega) (by omega), w64 (x := x * 65536 + y * 256) (by omega) (by omega), w64 (by omega) (by omega), tmod_nn (by omega)]
      exact ⟨_, _, _, rfl, hi3, (em_lt (by omega)).1, fun _ => (em_lt (by omega)).2⟩

theorem dr_Element (L : List Int) (hL : L.length ≤ 140737488351232) (i h f : Int) (hi : 0 ≤ i) : ∃ x i' h', spec_l01DrawElement.f L i h f = some (x, i', h') ∧ 0 ≤ i' := by
  unfold spec_l01DrawElement.f
  simp only [ev_Modulus, Option.bind_some]
  by_cases c : md f = 0
  · obtain ⟨x, i1, h1, e1, hi1, _⟩ := dr_Below L hL i h 50 hi
    simp only [c, e1, Option.bind_some, if_true]
    exact ⟨_, _, _, rfl, hi1⟩
  · obtain ⟨x, i1, h1, e1, hi1, _⟩ := dr_Below L hL i h 6 hi
    simp only [c, e1, Option.bind_some, if_false]
    by_cases c0 : x = 0
    · obtain ⟨y, i2, h2, e2, hi2, _⟩ := dr_Below L hL i1 h1 3 hi1
      simp only [c0, e2, Option.bind_some, if_true]
      exact ⟨_, _, _, rfl, hi2⟩
    by_cases c1 : x = 1
    · obtain ⟨y, i2, h2, e2, hi2, _⟩ := dr_Below L hL i1 h1 3 hi1
      simp only [c0, c1, e2, Option.bind_some, if_true, if_false]
      exact ⟨_, _, _, rfl, hi2⟩
    by_cases c2 : x = 2
    · obtain ⟨y, i2, h2, e2, hi2, _⟩ := dr_Below L hL i1 h1 16777216 hi1
      obtain ⟨z, i3, h3, e3, hi3, _⟩ := dr_Below L hL i2 h2 256 hi2
      simp only [c0, c1, c2, e2, e3, Option.bind_some, if_true, if_false]
      exact ⟨_, _, _, rfl, hi3⟩
    · obtain ⟨y, i2, h2, e2, hi2, _⟩ := dr_Below L hL i1 h1 30 hi1
      simp only [c0, c1, c2, e2, Option.bind_some, if_false]
      exact ⟨_, _, _, rfl, hi2⟩

theorem dr_Pick (L : List Int) (hL : L.length ≤ 140737488351232) (i h : Int) (l : List Int) (hl : 0 < l.length) (hi : 0 ≤ i) : ∃ x i' h', spec_l01PickInt.f L i h l = some (x, i', h') ∧ 0 ≤ i' ∧ x ∈ l := by
  unfold spec_l01PickInt.f
  obtain ⟨x, i1, h1, e1, hi1, hx0, hx1⟩ := dr_Below L hL i h (l.length : Int) hi
  have hx2 := hx1 (by omega)
  simp only [e1, Option.bind_some]
  rw [if_pos hx0, if_pos hx2]
  refine ⟨_, _, _, rfl, hi1, ?_⟩
  obtain ⟨n, rfl⟩ : ∃ n : Nat, x = n := ⟨x.toNat, by omega⟩
  rw [rd_at (by omega)]
  exact List.getElem_mem _

theorem dr_Any (L : List Int) (hL : L.length ≤ 140737488351232) (i h f : Int) (hi : 0 ≤ i) : ∃ x i' h', spec_l01DrawAny.f L i h f = some (x, i', h') ∧ 0 ≤ i' := by
  unfold spec_l01DrawAny.f
  obtain ⟨x, i1, h1, e1, hi1, _⟩ := dr_Below L hL i h 8 hi
  simp only [e1, Option.bind_some]
  by_cases c0 : x = 0
  · obtain ⟨y, i2, h2, e2, hi2, _⟩ := dr_Below L hL i1 h1 300 hi1
    simp only [c0, e2, Option.bind_some, if_true]
    exact ⟨_, _, _, rfl, hi2⟩
  by_cases c1 : x = 1
  · obtain ⟨y, i2, h2, e2, hi2, _⟩ := dr_Pick L hL i1 h1 ([9223372036854775807, (-9223372036854775808), (-9223372036854775807), 4611686018427387904] : List Int) (by decide) hi1
    simp only [c0, c1, e2, Option.bind_some, if_true, if_false]
    exact ⟨_, _, _, rfl, hi2⟩
  by_cases c2 : x = 2
  · obtain ⟨y, i2, h2, e2, hi2, _⟩ := dr_Below L hL i1 h1 1000 hi1
    simp only [c0, c1, c2, ev_Modulus, e2, Option.bind_some, if_true, if_false]
    exact ⟨_, _, _, rfl, hi2⟩
  by_cases c3 : x = 3
  · obtain ⟨y, i2, h2, e2, hi2, _⟩ := dr_Below L hL i1 h1 16777216 hi1
    obtain ⟨z, i3, h3, e3, hi3, _⟩ := dr_Below L hL i2 h2 16777216 hi2
    simp only [c0, c1, c2, c3, e2, e3, Option.bind_some, if_true, if_false]
    exact ⟨_, _, _, rfl, hi3⟩
  · obtain ⟨y, i2, h2, e2, hi2⟩ := dr_Element L hL i1 h1 f hi1
    simp only [c0, c1, c2, c3, e2, Option.bind_some, if_false]
    exact ⟨_, _, _, rfl, hi2⟩

theorem dr_DrawSplit (L : List Int) (hL : L.length ≤ 140737488351232) : ∃ x, Ev (fun k => spec_DrawSplit.f k L) x := by
  unfold spec_DrawSplit.f
  obtain ⟨h, hn⟩ := dr_New L hL
  obtain ⟨y, i2, h2, e2, hi2, _⟩ := dr_Pick L hL 0 h ([6, 7] : List Int) (by decide) (by omega)
  obtain ⟨z, i3, h3, e3, hi3⟩ := dr_Any L hL i2 h2 y hi2
  refine ⟨z, Ev.bind hn ?_⟩
  simp only [e2, e3, Option.bind_some]
  exact Ev.now _

theorem crt_back (x : Int) (h0 : -234468656333979648 ≤ x) (h1 : x ≤ 234468656333979648) : joinV (x % 998244353) (x % 469762049) = x % (998244353 * 469762049) := by
  have ha := em_lt (a := x) (p := 998244353) (by omega)
  have hb := em_lt (a := x) (p := 469762049) (by omega)
  unfold joinV
  rw [if_pos ⟨ha, hb⟩]
  have hinv : inv 469762049 (998244353 % 469762049) = 208783132 := by
    unfold inv
    rw [show (998244353 : Int) % 469762049 = ((58720255 : Nat) : Int) by decide, show ((469762049 : Int) - 2).toNat = 469762047 by decide]
    exact (pwm_int (p := 469762049) 30 58720255 469762047 (by decide)).trans (by decide +kernel)
  rw [hinv]
  have e1 : (x % 469762049 - x % 998244353) % 469762049 = ((x / 998244353) * 998244353) % 469762049 := by
    rw [esub_l]; congr 1; omega
  have e2 : ((x % 469762049 - x % 998244353) % 469762049 * 208783132) % 469762049 = (x / 998244353) % 469762049 := by
    rw [emul_l, emul e1.symm.symm rfl]
    omega
  omega
theorem FnCentered : laws_FnCentered.Pure := by
  intro L hm h8 hw
  refine Ev.rounds ?_
  unfold laws_FnCentered.f laws_big.f
  simp only [Option.bind_some]
  by_cases hbig : (L.length : Int) > 1048576
  · simp only [decide_eq_true hbig, if_true]; exact Ev.now _
  simp only [decide_eq_false hbig, Bool.false_eq_true, if_false]
  obtain ⟨x, hx⟩ := dr_DrawSplit L (by omega)
  refine Ev.bind hx ?_
  have m6 : md 6 = 998244353 := rfl
  have m7 : md 7 = 469762049 := rfl
  have h6 : (0 : Int) ≤ 6 ∧ (6 : Int) < 9 := by omega
  have h7 : (0 : Int) ≤ 7 ∧ (7 : Int) < 9 := by omega
  have w1 : wrap64 ((998244353 : Int) * 469762049) = 468937312667959297 := by decide +kernel
  have w2 : wrap64 (Int.tdiv (468937312667959297 : Int) 2) = 234468656333979648 := by decide +kernel
  simp only [ev_Modulus, m6, m7, Option.bind_some, w1, w2, show wrap64 (-(234468656333979648 : Int)) = -234468656333979648 from by decide +kernel]
  have out : ∀ y m : Int, Ev (fun k => laws_FnCentered.j0 k y m true) true := fun y m => by
    refine ev_s ?_
    simp only [laws_FnCentered.j0, if_true]; exact Ev.now _
  by_cases c1 : x > 234468656333979648
  · simp only [c1, if_true]; exact out _ _
  simp only [c1, if_false]
  by_cases c2 : x < -234468656333979648
  · simp only [decide_eq_true c2]; exact out _ _
  simp only [decide_eq_false c2]
  refine ev_s ?_
  have hsp : impl_Split.f x = some (x % 998244353, x % 469762049) := by
    unfold impl_Split.f
    simp only [ev_exact, Option.bind_some, ev_reduce (p := 998244353) (pm_of h6), ev_reduce (p := 469762049) (pm_of h7)]
  have ha := em_lt (a := x) (p := 998244353) (by omega)
  have hb := em_lt (a := x) (p := 469762049) (by omega)
  have hj := crt_back x (by omega) (by omega)
  have hr := em_lt (a := x) (p := 998244353 * 469762049) (by decide)
  have hc : cenV (x % 998244353) (x % 469762049) = (x, true) := by
    unfold cenV
    rw [hj, if_neg (by omega)]
    by_cases c3 : 0 ≤ x
    · rw [em_id c3 (by omega), if_neg (by omega)]
    · have e : x % (998244353 * 469762049) = x + 998244353 * 469762049 := by omega
      rw [e, if_pos (by omega)]
      congr 1; omega
  simp only [laws_FnCentered.j0, Bool.false_eq_true, if_false, hsp, Option.bind_some]
  refine Ev.bind (ev_Centered _ _ (by omega) (by omega)) ?_
  simp only [hc, if_true]
  refine Ev.bind (ev_Joined _ _ (by omega) (by omega)) ?_
  simp only [hj, show ¬ ((468937312667959297 : Int) = 0) from by decide, if_false]
  have htb := tmod_bounds (a := x) (p := 468937312667959297) (by decide)
  rw [w64 (by omega) (by omega), tmod_nn (by omega), tmod_add_emod (by decide)]
  simp only [show (998244353 : Int) * 469762049 = 468937312667959297 from by decide, beq_self_eq_true]
  exact Ev.now _

end Go.Proofs.Ytcmhifpbpdbfhaa.Pure
