import Derived.Test.YtgjogfohknjpmaaGC
/- The logarithm of a vector's length, and vectors over a field. -/
set_option linter.unusedVariables false
namespace G7
open Go.RowKit Go.Proofs.YtgjogfohknjpmaaW.PrintWords Go.Proofs.YtgjogfohknjpmaaW.PrintLast Go.Proofs.YtgjogfohknjpmaaW.PrintMore

/-- The search for the logarithm, from c on, d numbers. -/
def lgA (n : Int) : Nat → Nat → Int
  | 0, _ => -1
  | d + 1, c => if n = ((2 ^ c : Nat) : Int) then c else lgA n d (c + 1)
def lg (n : Int) : Int := lgA n 10 0
theorem lgA_cases (n : Int) : ∀ (d c : Nat), (lgA n d c = -1 ∧ ∀ k, c ≤ k → k < c + d → n ≠ ((2 ^ k : Nat) : Int)) ∨ (∃ k, c ≤ k ∧ k < c + d ∧ lgA n d c = k ∧ n = ((2 ^ k : Nat) : Int)) := by
  intro d
  induction d with
  | zero => intro c; exact Or.inl ⟨rfl, fun k h1 h2 => by omega⟩
  | succ d ih =>
    intro c
    unfold lgA
    by_cases h : n = ((2 ^ c : Nat) : Int)
    · rw [if_pos h]
      exact Or.inr ⟨c, by omega, by omega, rfl, h⟩
    · rw [if_neg h]
      rcases ih (c + 1) with ⟨h1, h2⟩ | ⟨k, h1, h2, h3, h4⟩
      · refine Or.inl ⟨h1, fun k k1 k2 => ?_⟩
        by_cases e : k = c
        · subst e; exact h
        · exact h2 k (by omega) (by omega)
      · exact Or.inr ⟨k, by omega, by omega, h3, h4⟩
theorem lg_cases (n : Int) : (lg n = -1 ∧ ∀ k, k ≤ 9 → n ≠ ((2 ^ k : Nat) : Int)) ∨ (∃ k : Nat, k ≤ 9 ∧ lg n = k ∧ n = ((2 ^ k : Nat) : Int)) := by
  rcases lgA_cases n 10 0 with ⟨h1, h2⟩ | ⟨k, h1, h2, h3, h4⟩
  · exact Or.inl ⟨h1, fun k hk => h2 k (by omega) (by omega)⟩
  · exact Or.inr ⟨k, by omega, h3, h4⟩
theorem two_pow_inj {a b : Nat} (h : (2 ^ a : Nat) = 2 ^ b) : a = b := by
  rcases Nat.lt_trichotomy a b with c | c | c
  · have := Nat.pow_lt_pow_right (a := 2) (by decide) c; omega
  · exact c
  · have := Nat.pow_lt_pow_right (a := 2) (by decide) c; omega
theorem lg_pow {k : Nat} (hk : k ≤ 9) : lg ((2 ^ k : Nat) : Int) = k := by
  rcases lg_cases ((2 ^ k : Nat) : Int) with ⟨_, h2⟩ | ⟨j, h1, h3, h4⟩
  · exact absurd rfl (h2 k hk)
  · have := two_pow_inj (Int.ofNat.inj h4)
    omega
theorem two_pow_le {k : Nat} (hk : k ≤ 9) : 1 ≤ 2 ^ k ∧ 2 ^ k ≤ 512 := ⟨Nat.one_le_two_pow, Nat.le_trans (Nat.pow_le_pow_right (by decide) hk) (by decide)⟩

/-- A vector over a field. -/
def VecOk (f : Int) (v : List Int) : Prop := (0 ≤ f ∧ f < 9) ∧ (∃ k : Nat, k ≤ 9 ∧ (k : Int) ≤ tp f ∧ v.length = 2 ^ k) ∧ El (md f) v
theorem VecOk.pm {f : Int} {v : List Int} (h : VecOk f v) : Pm (md f) := pm_of h.1
theorem VecOk.len {f : Int} {v : List Int} (h : VecOk f v) : 1 ≤ v.length ∧ v.length ≤ 512 := by
  obtain ⟨_, ⟨k, hk, _, e⟩, _⟩ := h
  rw [e]; exact two_pow_le hk
theorem VecOk.lg {f : Int} {v : List Int} (h : VecOk f v) : 0 ≤ lg (v.length : Int) ∧ G7.lg (v.length : Int) ≤ tp f := by
  obtain ⟨_, ⟨k, hk, ht, e⟩, _⟩ := h
  rw [e, lg_pow hk]; omega
theorem vec_of {f : Int} {v : List Int} (hf : 0 ≤ f ∧ f < 9) (h0 : 0 ≤ lg (v.length : Int)) (h1 : lg (v.length : Int) ≤ tp f) (he : El (md f) v) : VecOk f v := by
  refine ⟨hf, ?_, he⟩
  rcases lg_cases (v.length : Int) with ⟨h, _⟩ | ⟨k, hk, h, e⟩
  · omega
  · exact ⟨k, hk, by omega, Int.ofNat.inj e⟩

/-- The power of two in the modulus less one. -/
def oddP (f : Int) : Int := (md f - 1) / ((2 ^ (tp f).toNat : Nat) : Int)
theorem oddP_spec {f : Int} (h : 0 ≤ f ∧ f < 9) : md f - 1 = oddP f * ((2 ^ (tp f).toNat : Nat) : Int) ∧ oddP f % 2 = 1 ∧ 0 < oddP f ∧ (((tp f).toNat : Nat) : Int) = tp f ∧ (tp f).toNat ≤ 26 := by
  rcases fcases h.1 h.2 with e | e | e | e | e | e | e | e | e <;> subst e <;> decide +kernel
end G7
