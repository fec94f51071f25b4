import Derived.Test.YtgjogfohknjpmaaGA
/- The nine moduli are prime, and Fermat's little theorem for them. -/
set_option linter.unusedVariables false
namespace G7

/-! ## primes -/
/-- No number of lo .. lo + 2^k - 1 that is at least 2 divides p. -/
def noDiv (p : Nat) : Nat → Nat → Bool
  | 0, lo => decide (lo < 2) || decide (p % lo ≠ 0)
  | k + 1, lo => noDiv p k lo && noDiv p k (lo + 2 ^ k)
theorem noDiv_spec {p : Nat} : ∀ (k lo : Nat), noDiv p k lo = true → ∀ d, lo ≤ d → d < lo + 2 ^ k → 2 ≤ d → p % d ≠ 0 := by
  intro k
  induction k with
  | zero =>
    intro lo h d h1 h2 h3
    obtain rfl : d = lo := by simp at h2; omega
    unfold noDiv at h
    rw [Bool.or_eq_true, decide_eq_true_eq, decide_eq_true_eq] at h
    rcases h with h | h
    · omega
    · exact h
  | succ k ih =>
    intro lo h d h1 h2 h3
    unfold noDiv at h
    rw [Bool.and_eq_true] at h
    rw [Nat.pow_succ] at h2
    by_cases c : d < lo + 2 ^ k
    · exact ih lo h.1 d h1 c h3
    · exact ih (lo + 2 ^ k) h.2 d (by omega) (by omega) h3
def Prm (p : Nat) : Prop := 2 ≤ p ∧ ∀ d, d ∣ p → d = 1 ∨ d = p
theorem prm_of {p k : Nat} (h2 : 2 ≤ p) (hk : p < 2 ^ k * 2 ^ k) (h : noDiv p k 0 = true) : Prm p := by
  refine ⟨h2, fun d hd => ?_⟩
  obtain ⟨e, he⟩ := hd
  have hs := noDiv_spec k 0 h
  have small : ∀ x y : Nat, p = x * y → x < 2 ^ k → x = 1 ∨ x = p := by
    intro x y hxy hx
    by_cases c : 2 ≤ x
    · exact absurd (by rw [hxy]; exact Nat.mul_mod_right x y) (hs x (Nat.zero_le _) (by omega) c)
    · have : x ≠ 0 := by intro h0; subst h0; rw [Nat.zero_mul] at hxy; omega
      exact Or.inl (by omega)
  by_cases c : d < 2 ^ k
  · exact small d e he c
  · have he2 : e < 2 ^ k := by
      by_cases c2 : e < 2 ^ k
      · exact c2
      · have := Nat.mul_le_mul (Nat.le_of_not_lt c) (Nat.le_of_not_lt c2)
        omega
    rcases small e d (by rw [he, Nat.mul_comm]) he2 with h1 | h1
    · subst h1; right; rw [he, Nat.mul_one]
    · left
      have hp0 : 0 < p := by omega
      have : p * d = p * 1 := by rw [Nat.mul_one, Nat.mul_comm]; rw [← h1] at he ⊢; exact he.symm
      exact Nat.eq_of_mul_eq_mul_left hp0 this
theorem prm_cop {p k : Nat} (hp : Prm p) (h0 : 0 < k) (h1 : k < p) : Nat.Coprime p k := by
  have hd := Nat.gcd_dvd_left p k
  rcases hp.2 _ hd with h | h
  · exact h
  · have := Nat.le_of_dvd h0 (Nat.gcd_dvd_right p k)
    omega

/-! ## Pascal's triangle -/
def ch : Nat → Nat → Nat
  | _, 0 => 1
  | 0, _ + 1 => 0
  | n + 1, k + 1 => ch n k + ch n (k + 1)
theorem ch_zero (n : Nat) : ch n 0 = 1 := by cases n <;> rfl
theorem ch_out : ∀ {n k : Nat}, n < k → ch n k = 0
  | 0, 0, h => by omega
  | 0, k + 1, _ => rfl
  | n + 1, 0, h => by omega
  | n + 1, k + 1, h => by unfold ch; rw [ch_out (by omega), ch_out (by omega)]
theorem ch_self : ∀ n : Nat, ch n n = 1
  | 0 => rfl
  | n + 1 => by unfold ch; rw [ch_self n, ch_out (by omega)]
theorem ch_mul : ∀ n k : Nat, (k + 1) * ch (n + 1) (k + 1) = (n + 1) * ch n k
  | 0, 0 => rfl
  | 0, k + 1 => by
    have e1 : ch (0 + 1) (k + 1 + 1) = 0 := ch_out (by omega)
    have e2 : ch 0 (k + 1) = 0 := rfl
    rw [e1, e2, Nat.mul_zero, Nat.mul_zero]
  | n + 1, 0 => by
    have h := ch_mul n 0
    have e : ch (n + 1 + 1) (0 + 1) = ch (n + 1) 0 + ch (n + 1) (0 + 1) := rfl
    rw [e, ch_zero]
    rw [ch_zero] at h
    omega
  | n + 1, k + 1 => by
    have h1 := ch_mul n k
    have h2 := ch_mul n (k + 1)
    have e : ch (n + 1 + 1) (k + 1 + 1) = ch (n + 1) (k + 1) + ch (n + 1) (k + 1 + 1) := rfl
    have e2 : ch (n + 1) (k + 1) = ch n k + ch n (k + 1) := rfl
    rw [e, Nat.mul_add, h2]
    have : (k + 1 + 1) * ch (n + 1) (k + 1) = (n + 1) * ch n k + ch (n + 1) (k + 1) := by rw [← h1, Nat.add_mul, Nat.one_mul]
    rw [this, Nat.add_mul (n + 1) 1, Nat.one_mul]
    have : (n + 1) * ch (n + 1) (k + 1) = (n + 1) * ch n k + (n + 1) * ch n (k + 1) := by rw [e2, Nat.mul_add]
    omega
theorem ch_dvd {p k : Nat} (hp : Prm p) (h0 : 0 < k) (h1 : k < p) : p ∣ ch p k := by
  obtain ⟨q, rfl⟩ : ∃ q, p = q + 1 := ⟨p - 1, by have := hp.1; omega⟩
  obtain ⟨j, rfl⟩ : ∃ j, k = j + 1 := ⟨k - 1, by omega⟩
  have h := ch_mul q j
  have hd : (q + 1) ∣ (j + 1) * ch (q + 1) (j + 1) := by rw [h]; exact Nat.dvd_mul_right _ _
  exact Nat.Coprime.dvd_of_dvd_mul_left (prm_cop hp (by omega) h1) hd
/-- The binomial theorem at 1. -/
theorem binom (a : Int) : ∀ n : Nat, (a + 1) ^ n = sm (n + 1) (fun k => (ch n k : Int) * a ^ k) := by
  intro n
  induction n with
  | zero => simp [sm_succ, sm_zero, ch]
  | succ n ih =>
    rw [Int.pow_succ, ih, Int.mul_add, Int.mul_one]
    have e1 : sm (n + 1) (fun k => (ch n k : Int) * a ^ k) * a = sm (n + 1) (fun k => (ch n k : Int) * a ^ (k + 1)) := by
      rw [← sm_mul_r]
      exact sm_congr (fun k _ => by rw [Int.mul_assoc, Int.pow_succ])
    rw [e1, sm_succ' (n + 1) (fun k => (ch (n + 1) k : Int) * a ^ k)]
    have e2 : sm (n + 1) (fun k => (ch (n + 1) (k + 1) : Int) * a ^ (k + 1)) = sm (n + 1) (fun k => (ch n k : Int) * a ^ (k + 1)) + sm (n + 1) (fun k => (ch n (k + 1) : Int) * a ^ (k + 1)) := by
      rw [← sm_add]
      exact sm_congr (fun k _ => by
        have : ch (n + 1) (k + 1) = ch n k + ch n (k + 1) := rfl
        rw [this, Int.natCast_add, Int.add_mul])
    rw [e2, sm_succ' n (fun k => (ch n k : Int) * a ^ k), sm_succ n (fun k => (ch n (k + 1) : Int) * a ^ (k + 1)), ch_out (show n < n + 1 by omega), ch_zero, ch_zero]
    simp only [Int.natCast_zero, Int.zero_mul, Int.natCast_one, Int.pow_zero, Int.mul_one]
    omega
theorem fermat_step {p : Nat} (hp : Prm p) (a : Int) : (a + 1) ^ p % (p : Int) = (a ^ p + 1) % (p : Int) := by
  rw [binom, sm_succ]
  obtain ⟨q, hq⟩ : ∃ q, p = q + 1 := ⟨p - 1, by have := hp.1; omega⟩
  have e : sm p (fun k => (ch p k : Int) * a ^ k) % (p : Int) = 1 % (p : Int) := by
    rw [show sm p (fun k => (ch p k : Int) * a ^ k) = sm (q + 1) (fun k => (ch p k : Int) * a ^ k) by rw [hq], sm_succ', ch_zero]
    have z : sm q (fun k => (ch p (k + 1) : Int) * a ^ (k + 1)) % (p : Int) = 0 % (p : Int) := by
      have := sm_econgr (p := (p : Int)) (n := q) (h := fun k => (ch p (k + 1) : Int) * a ^ (k + 1)) (h' := fun _ => 0) (fun k hk => by
        obtain ⟨c, hc⟩ := ch_dvd hp (show 0 < k + 1 by omega) (show k + 1 < p by omega)
        show (ch p (k + 1) : Int) * a ^ (k + 1) % (p : Int) = 0 % (p : Int)
        rw [hc, Int.natCast_mul, Int.mul_assoc, Int.mul_emod_right, Int.zero_emod])
      rw [this, sm_nil (fun _ _ => rfl)]
    have := eadd (p := (p : Int)) (a := ((1 : Nat) : Int) * a ^ 0) (a' := 1) (by simp) z
    simpa using this
  have e2 : (ch p p : Int) * a ^ p = a ^ p := by rw [ch_self]; simp
  rw [e2, eadd e rfl, Int.add_comm]
theorem fermat_pow {p : Nat} (hp : Prm p) : ∀ n : Nat, (n : Int) ^ p % (p : Int) = (n : Int) % (p : Int) := by
  intro n
  induction n with
  | zero =>
    obtain ⟨q, hq⟩ : ∃ q, p = q + 1 := ⟨p - 1, by have := hp.1; omega⟩
    have : ((0 : Nat) : Int) ^ p = 0 := by rw [hq, Int.pow_succ]; simp
    rw [this]; rfl
  | succ n ih =>
    rw [Int.natCast_add, Int.natCast_one, fermat_step hp, eadd ih rfl]
/-- Fermat's little theorem. -/
theorem fermat {p : Nat} (hp : Prm p) {n : Nat} (h0 : 0 < n) (h1 : n < p) : (n : Int) ^ (p - 1) % (p : Int) = 1 % (p : Int) := by
  have h := fermat_pow hp n
  obtain ⟨q, hq⟩ : ∃ q, p = q + 1 := ⟨p - 1, by have := hp.1; omega⟩
  rw [show p - 1 = q by omega]
  have hn : (n ^ p : Nat) % p = n % p := by
    have : ((n ^ p % p : Nat) : Int) = ((n % p : Nat) : Int) := by rw [Int.natCast_emod, Int.natCast_emod, Int.natCast_pow]; exact h
    exact Int.ofNat.inj this
  have hd : p ∣ n * (n ^ q - 1) := by
    have e : n ^ p - n = n * (n ^ q - 1) := by rw [hq, Nat.pow_succ, Nat.mul_sub, Nat.mul_one, Nat.mul_comm]
    rw [← e]
    have hle : n ≤ n ^ p := Nat.le_self_pow (by omega) n
    exact Nat.dvd_of_mod_eq_zero (Nat.sub_mod_eq_zero_of_mod_eq hn)
  have hd2 : p ∣ n ^ q - 1 := Nat.Coprime.dvd_of_dvd_mul_left (prm_cop hp h0 h1) hd
  have hpos : 1 ≤ n ^ q := Nat.one_le_iff_ne_zero.2 (by have := Nat.pow_pos (n := q) h0; omega)
  have hm : 1 % p = n ^ q % p := by
    obtain ⟨c, hc⟩ := hd2
    rw [show n ^ q = 1 + p * c by omega, Nat.add_mul_mod_self_left]
  rw [← Int.natCast_pow, ← Int.natCast_emod, ← hm, Int.natCast_emod]; rfl

theorem prm_field {f : Int} (h : 0 ≤ f ∧ f < 9) : Prm (md f).toNat := by
  rcases fcases h.1 h.2 with e | e | e | e | e | e | e | e | e <;> subst e
  · exact prm_of (k := 3) (by decide) (by decide) (by decide +kernel)
  · exact prm_of (k := 4) (by decide) (by decide) (by decide +kernel)
  · exact prm_of (k := 4) (by decide) (by decide) (by decide +kernel)
  · exact prm_of (k := 5) (by decide) (by decide) (by decide +kernel)
  · exact prm_of (k := 7) (by decide) (by decide) (by decide +kernel)
  · exact prm_of (k := 7) (by decide) (by decide) (by decide +kernel)
  · exact prm_of (k := 15) (by decide) (by decide) (by decide +kernel)
  · exact prm_of (k := 15) (by decide) (by decide) (by decide +kernel)
  · exact prm_of (k := 15) (by decide) (by decide) (by decide +kernel)
/-- An element that is not 0, times its inverse. -/
theorem inv_mul {f : Int} (h : 0 ≤ f ∧ f < 9) {a : Int} (ha : a % md f ≠ 0) : a * inv (md f) a % md f = 1 := by
  have hb := (isF h.1 h.2).bounds
  have hp := prm_field h
  have he := em_lt (a := a) (p := md f) (by omega)
  have hf := fermat hp (n := (a % md f).toNat) (by omega) (by omega)
  have e1 : (((md f).toNat : Nat) : Int) = md f := by omega
  have e2 : (((a % md f).toNat : Nat) : Int) = a % md f := by omega
  rw [e1, e2] at hf
  unfold inv
  rw [emul_r]
  have e3 : a * a ^ (md f - 2).toNat = a ^ ((md f).toNat - 1) := by
    rw [show (md f).toNat - 1 = (md f - 2).toNat + 1 by omega, Int.pow_succ, Int.mul_comm]
  rw [e3, ← epow_l, hf]
  exact em_id (by omega) (by omega)
end G7
