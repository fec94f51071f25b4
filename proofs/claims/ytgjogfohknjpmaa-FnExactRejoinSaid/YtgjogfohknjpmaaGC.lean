import Derived.Test.YtgjogfohknjpmaaGB
/- Coefficients of products, their partial sums, and what the scattering loops hold. -/
set_option linter.unusedVariables false
namespace G7
open Go.RowKit Go.Proofs.YtgjogfohknjpmaaW.PrintWords Go.Proofs.YtgjogfohknjpmaaW.PrintLast Go.Proofs.YtgjogfohknjpmaaW.PrintMore

theorem sm_bound {B : Int} {n : Nat} {h : Nat → Int} (hB : 0 ≤ B) (e : ∀ i, i < n → -B ≤ h i ∧ h i ≤ B) : -(n * B) ≤ sm n h ∧ sm n h ≤ n * B := by
  induction n with
  | zero => simp [sm_zero]
  | succ n ih =>
    have h1 := ih (fun i hi => e i (by omega))
    have h2 := e n (by omega)
    rw [sm_succ]
    have : ((n + 1 : Nat) : Int) * B = n * B + B := by rw [Int.natCast_add, Int.add_mul]; simp
    omega

/-- A sum may be taken as far as its terms are not 0. -/
theorem sm_same {n m : Nat} {h : Nat → Int} (e : ∀ i, (n ≤ i ∧ i < m) ∨ (m ≤ i ∧ i < n) → h i = 0) : sm n h = sm m h := by
  by_cases c : n ≤ m
  · exact (sm_more c (fun i h1 h2 => e i (Or.inl ⟨h1, h2⟩))).symm
  · exact sm_more (by omega) (fun i h1 h2 => e i (Or.inr ⟨h1, h2⟩))

/-- Term j of coefficient c. -/
def tm (a b : List Int) (c : Nat) (j : Nat) : Int := rd a (j : Int) * cf b ((c : Int) - (j : Int))
theorem tm_a {a b : List Int} {c j : Nat} (h : a.length ≤ j) : tm a b c j = 0 := by unfold tm; rw [rd_out h, Int.zero_mul]
theorem tm_b {a b : List Int} {c j : Nat} (h : b.length + j ≤ c) : tm a b c j = 0 := by unfold tm; rw [cf_out (by omega), Int.mul_zero]
theorem tm_c {a b : List Int} {c j : Nat} (h : c < j) : tm a b c j = 0 := by unfold tm; rw [cf_neg (by omega), Int.mul_zero]
theorem tm_in {a b : List Int} {c j : Nat} (h : j ≤ c) : tm a b c j = rd a (j : Int) * rd b ((c - j : Nat) : Int) := by
  unfold tm; rw [cf_nn (by omega)]; congr 2; omega
/-- Coefficient c of the product. -/
def pc (a b : List Int) (c : Nat) : Int := sm (c + 1) (tm a b c)
theorem pc_of_len {a b : List Int} {c : Nat} : sm a.length (tm a b c) = pc a b c := by
  unfold pc
  exact sm_same (fun i h => by
    rcases h with h | h
    · exact tm_a h.1
    · exact tm_c (by omega))
theorem pc_out {a b : List Int} {c : Nat} (ha : 1 ≤ a.length) (h : a.length + b.length ≤ c + 1) : pc a b c = 0 := by
  unfold pc
  exact sm_nil (fun i hi => by
    by_cases h1 : a.length ≤ i
    · exact tm_a h1
    · exact tm_b (by omega))
/-- What a scattering loop holds at c: i rows done, and of row i the first j. -/
def scat (a b : List Int) (i j c : Nat) : Int := sm i (tm a b c) + (if i ≤ c ∧ c < i + j then tm a b c i else 0)
theorem scat_start (a b : List Int) (i c : Nat) : scat a b i 0 c = sm i (tm a b c) := by
  unfold scat; rw [if_neg (by omega)]; omega
theorem scat_row {a b : List Int} {i j c : Nat} (h : b.length ≤ j ∨ c < i + j) : scat a b i j c = sm (i + 1) (tm a b c) := by
  unfold scat
  rw [sm_succ]
  by_cases h1 : i ≤ c ∧ c < i + j
  · rw [if_pos h1]
  · rw [if_neg h1]
    by_cases h2 : c < i
    · rw [tm_c h2]
    · rw [tm_b (by omega)]
theorem scat_hit {a b : List Int} {i j : Nat} : scat a b i (j + 1) (i + j) = scat a b i j (i + j) + rd a (i : Int) * rd b (j : Int) := by
  unfold scat
  rw [if_pos (by omega), if_neg (by omega), tm_in (by omega), show i + j - i = j by omega]; omega
theorem scat_miss {a b : List Int} {i j c : Nat} (h : c ≠ i + j) : scat a b i (j + 1) c = scat a b i j c := by
  unfold scat
  by_cases h1 : i ≤ c ∧ c < i + j
  · rw [if_pos (by omega), if_pos h1]
  · rw [if_neg (by omega), if_neg h1]

end G7
