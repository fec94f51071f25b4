import Derived.Test.YtgjogfohknjpmaaGE
/- The ring of vectors in which the power n of the variable is -1. -/
set_option linter.unusedVariables false
namespace G7
open Go.RowKit Go.Proofs.YtgjogfohknjpmaaW.PrintWords Go.Proofs.YtgjogfohknjpmaaW.PrintLast Go.Proofs.YtgjogfohknjpmaaW.PrintMore

/-- Term j of coefficient c. -/
def tt (a b : List Int) (n c j : Nat) : Int := if j ≤ c then rd a (j : Int) * rd b ((c - j : Nat) : Int) else -(rd a (j : Int) * rd b ((n + c - j : Nat) : Int))
def twS (p : Int) (a b : List Int) : List Int := (List.range a.length).map (fun c => sm a.length (tt a b a.length c) % p)
theorem twS_len (p : Int) (a b : List Int) : (twS p a b).length = a.length := by simp [twS]
theorem twS_el {p : Int} (hp : 0 < p) (a b : List Int) : El p (twS p a b) := El.map (fun i _ => em_lt hp)
/-- What the scattering loop holds at c: i rows done, and of row i the first j. -/
def tsc (a b : List Int) (n i j c : Nat) : Int := sm i (tt a b n c) + (if (i ≤ c ∧ c < i + j) ∨ (c < i ∧ c + n < i + j) then tt a b n c i else 0)
theorem tsc_start (a b : List Int) {n i c : Nat} (hi : i < n) : tsc a b n i 0 c = sm i (tt a b n c) := by
  unfold tsc; rw [if_neg (by omega)]; omega
theorem tsc_row (a b : List Int) {n i c : Nat} (hi : i < n) (hc : c < n) : tsc a b n i n c = sm (i + 1) (tt a b n c) := by
  unfold tsc; rw [if_pos (by omega), sm_succ]
theorem tsc_hit1 (a b : List Int) {n i j : Nat} : tsc a b n i (j + 1) (i + j) = tsc a b n i j (i + j) + rd a (i : Int) * rd b (j : Int) := by
  unfold tsc
  rw [if_pos (by omega)]
  by_cases c : (i ≤ i + j ∧ i + j < i + j) ∨ (i + j < i ∧ i + j + n < i + j)
  · omega
  · rw [if_neg c]
    unfold tt
    rw [if_pos (by omega), show i + j - i = j by omega]; omega
theorem tsc_hit2 (a b : List Int) {n i j c : Nat} (hi : i < n) (hj : j < n) (h : c + n = i + j) : tsc a b n i (j + 1) c = tsc a b n i j c - rd a (i : Int) * rd b (j : Int) := by
  unfold tsc
  rw [if_pos (by omega), if_neg (by omega)]
  unfold tt
  rw [if_neg (by omega), show n + c - i = j by omega]; omega
theorem tsc_miss (a b : List Int) {n i j c : Nat} (h : c ≠ i + j) (h' : c + n ≠ i + j) : tsc a b n i (j + 1) c = tsc a b n i j c := by
  unfold tsc
  by_cases h1 : (i ≤ c ∧ c < i + j) ∨ (c < i ∧ c + n < i + j)
  · rw [if_pos (by omega), if_pos h1]
  · rw [if_neg (by omega), if_neg h1]
/-- A product of two vectors of one field and length is one. -/
theorem twS_ok {f : Int} {a b : List Int} (ha : VecOk f a) : VecOk f (twS (md f) a b) := by
  obtain ⟨hf, ⟨k, h1, h2, h3⟩, _⟩ := ha
  exact ⟨hf, ⟨k, h1, h2, by rw [twS_len]; exact h3⟩, twS_el (pm_of hf).pos a b⟩
theorem oneS_ok {f : Int} {a : List Int} (ha : VecOk f a) : VecOk f (oneS a.length) := by
  have hn := ha.len
  have hp := ha.pm
  unfold Pm at hp
  obtain ⟨hf, ⟨k, h1, h2, h3⟩, _⟩ := ha
  exact ⟨hf, ⟨k, h1, h2, by rw [oneS_len hn.1]; exact h3⟩, oneS_el (by omega) _⟩
end G7
