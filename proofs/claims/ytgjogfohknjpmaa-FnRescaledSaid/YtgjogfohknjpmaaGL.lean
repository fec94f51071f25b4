import Derived.Test.YtgjogfohknjpmaaGD
/- Elements taken with the smallest absolute value, and division that rounds to the nearest. -/
set_option linter.unusedVariables false
namespace G7
open Go.RowKit Go.Proofs.YtgjogfohknjpmaaW.PrintWords Go.Proofs.YtgjogfohknjpmaaW.PrintLast Go.Proofs.YtgjogfohknjpmaaW.PrintMore

theorem tdiv_fix {T D : Int} (hD : 0 < D) : (Int.tdiv T D * D > T → Int.tdiv T D - 1 = T / D) ∧ (¬ (Int.tdiv T D * D > T) → Int.tdiv T D = T / D) ∧ (-D < T - Int.tdiv T D * D ∧ T - Int.tdiv T D * D < D) := by
  have h := Int.tdiv_eq_ediv (a := T) (b := D)
  have hm := Int.emod_add_mul_ediv T D
  have h1 := Int.emod_nonneg T (show D ≠ 0 by omega)
  have h2 := Int.emod_lt_of_pos T hD
  rw [Int.sign_eq_one_of_pos hD] at h
  have ec : D * (T / D) = T / D * D := Int.mul_comm _ _
  by_cases c : 0 ≤ T ∨ D ∣ T
  · rw [if_pos c, Int.add_zero] at h
    rw [h]
    exact ⟨fun k => by omega, fun _ => rfl, by omega, by omega⟩
  · rw [if_neg c] at h
    have h3 : T % D ≠ 0 := fun h0 => c (Or.inr (Int.dvd_of_emod_eq_zero h0))
    have em : (T / D + 1) * D = T / D * D + D := by rw [Int.add_mul, Int.one_mul]
    rw [h, em]
    exact ⟨fun _ => by omega, fun k => by omega, by omega, by omega⟩
/-- The element with the smallest absolute value. -/
def ctr (p x : Int) : Int := if p - x < x then x - p else x
theorem ctr_b {p x : Int} (h0 : 0 ≤ x) (h1 : x < p) : -p ≤ ctr p x ∧ ctr p x ≤ p := by
  unfold ctr; split <;> omega
def rsc (p b x : Int) : Int := (2 * ctr p x + b) / (2 * b) % p
def rscS (p b : Int) (a : List Int) : List Int := (List.range a.length).map (fun (i : Nat) => rsc p b (rd a (i : Int)))
theorem rscS_len (p b : Int) (a : List Int) : (rscS p b a).length = a.length := by simp [rscS]
/-- The words of one step of both programs. -/
theorem resc_w {p b v : Int} (hp : p ≤ 1004535809) (hb : 1 ≤ b ∧ b ≤ p) (hv : -p ≤ v ∧ v ≤ p) :
    wrap64 (wrap64 (2 * v) + b) = 2 * v + b ∧ wrap64 (2 * b) = 2 * b ∧ ¬ (2 * b = 0) ∧
    wrap64 (Int.tdiv (2 * v + b) (2 * b)) = Int.tdiv (2 * v + b) (2 * b) ∧
    wrap64 (wrap64 (2 * Int.tdiv (2 * v + b) (2 * b)) * b) = Int.tdiv (2 * v + b) (2 * b) * (2 * b) ∧
    wrap64 (wrap64 (Int.tdiv (2 * v + b) (2 * b) * 2) * b) = Int.tdiv (2 * v + b) (2 * b) * (2 * b) ∧
    wrap64 (Int.tdiv (2 * v + b) (2 * b) - 1) = Int.tdiv (2 * v + b) (2 * b) - 1 := by
  have e1 : wrap64 (wrap64 (2 * v) + b) = 2 * v + b := by rw [w64 (x := 2 * v) (by omega) (by omega), w64 (by omega) (by omega)]
  have e2 : wrap64 (2 * b) = 2 * b := w64 (by omega) (by omega)
  obtain ⟨_, _, h3, h4⟩ := tdiv_fix (T := 2 * v + b) (D := 2 * b) (by omega)
  have hq : -8000000000 ≤ Int.tdiv (2 * v + b) (2 * b) ∧ Int.tdiv (2 * v + b) (2 * b) ≤ 8000000000 := by
    have h5 := Int.tdiv_eq_ediv (a := 2 * v + b) (b := 2 * b)
    generalize hq : Int.tdiv (2 * v + b) (2 * b) = q at *
    have hb2 : (1 : Int) ≤ 2 * b := by omega
    constructor
    · by_cases c : q ≤ 0
      · have : q * (2 * b) ≤ q * 1 := Int.mul_le_mul_of_nonpos_left c hb2
        by_cases c2 : -8000000000 ≤ q
        · exact c2
        · have : q * (2 * b) ≤ q := by omega
          omega
      · omega
    · by_cases c : 0 ≤ q
      · have : q * 1 ≤ q * (2 * b) := Int.mul_le_mul_of_nonneg_left hb2 c
        omega
      · omega
  have ea : 2 * Int.tdiv (2 * v + b) (2 * b) * b = Int.tdiv (2 * v + b) (2 * b) * (2 * b) := by rw [Int.mul_comm 2, Int.mul_assoc]
  have eb : Int.tdiv (2 * v + b) (2 * b) * 2 * b = Int.tdiv (2 * v + b) (2 * b) * (2 * b) := by rw [Int.mul_assoc]
  refine ⟨e1, e2, by omega, w64 (by omega) (by omega), ?_, ?_, w64 (by omega) (by omega)⟩
  · rw [w64 (x := 2 * Int.tdiv (2 * v + b) (2 * b)) (by omega) (by omega), ea, w64 (by omega) (by omega)]
  · rw [w64 (x := Int.tdiv (2 * v + b) (2 * b) * 2) (by omega) (by omega), eb, w64 (by omega) (by omega)]
end G7
