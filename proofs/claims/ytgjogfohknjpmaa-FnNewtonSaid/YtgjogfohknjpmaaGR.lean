import Derived.Test.YtgjogfohknjpmaaGG
/- Elementary symmetric sums, power sums, and Newton's identities between them. -/
set_option linter.unusedVariables false
namespace G7
open Go.RowKit Go.Proofs.YtgjogfohknjpmaaW.PrintWords Go.Proofs.YtgjogfohknjpmaaW.PrintLast Go.Proofs.YtgjogfohknjpmaaW.PrintMore

def sgn (n : Nat) : Int := (-1) ^ n
theorem sgn_succ (n : Nat) : sgn (n + 1) = - sgn n := by
  unfold sgn
  rw [Int.pow_succ, Int.mul_neg, Int.mul_one]
theorem sgn_sq (n : Nat) : sgn n * sgn n = 1 := by
  induction n with
  | zero => rfl
  | succ n ih => rw [sgn_succ, Int.neg_mul_neg, ih]
theorem sgn_add (m n : Nat) : sgn (m + n) = sgn m * sgn n := ipow_add _ _ _
theorem sgn_par (n : Nat) : sgn n = if n % 2 = 0 then 1 else -1 := by
  induction n with
  | zero => rfl
  | succ n ih =>
    rw [sgn_succ, ih]
    by_cases c : n % 2 = 0
    · rw [if_pos c, if_neg (by omega)]
    · rw [if_neg c, if_pos (by omega)]; rfl
/-- The factor 1 + x t. -/
def lin (x : Int) (n : Nat) : Int := if n = 0 then 1 else if n = 1 then x else 0
theorem cm_lin (f : Nat → Int) (x : Int) (n : Nat) : cm f (lin x) n = f n + (if n = 0 then 0 else f (n - 1) * x) := by
  unfold cm
  cases n with
  | zero =>
    rw [sm_succ, sm_zero]
    unfold lin
    rw [if_pos rfl, if_pos (Nat.sub_self 0)]; omega
  | succ n =>
    rw [sm_succ, sm_succ, sm_nil (fun j hj => by
      unfold lin
      rw [if_neg (by omega), if_neg (by omega), Int.mul_zero])]
    unfold lin
    rw [if_neg (show ¬ (n + 1 - n = 0) by omega), if_pos (show n + 1 - n = 1 by omega), if_pos (show n + 1 - (n + 1) = 0 by omega), if_neg (by omega), Nat.add_sub_cancel]
    omega
/-- The product of the factors, and the power sums with their signs. -/
def EP (x : Nat → Int) : Nat → (Nat → Int)
  | 0 => sOne
  | i + 1 => cm (EP x i) (lin (x i))
def geo (x : Int) (k : Nat) : Int := sgn k * x ^ (k + 1)
def PS (x : Nat → Int) (n k : Nat) : Int := sm n (fun i => geo (x i) k)
theorem geo_lin (x : Int) : cm (geo x) (lin x) = sD (lin x) := by
  funext n
  rw [cm_lin]
  unfold sD
  cases n with
  | zero =>
    rw [if_pos rfl]
    unfold geo lin sgn
    rw [if_neg (by omega), if_pos (by omega), Int.pow_zero, Int.one_mul, Int.pow_succ, Int.pow_zero]; omega
  | succ n =>
    rw [if_neg (by omega)]
    unfold lin
    rw [if_neg (by omega), if_neg (by omega), Int.mul_zero]
    unfold geo
    rw [Nat.add_sub_cancel, sgn_succ, Int.mul_assoc, ← Int.pow_succ, Int.neg_mul]
    exact Int.add_left_neg _
theorem newton_id (x : Nat → Int) : ∀ n, sD (EP x n) = cm (PS x n) (EP x n)
  | 0 => by
    funext k
    unfold sD cm
    rw [sm_nil (fun j hj => by
      show PS x 0 j * EP x 0 (k - j) = 0
      unfold PS
      rw [sm_zero, Int.zero_mul])]
    show ((k + 1 : Nat) : Int) * sOne (k + 1) = 0
    unfold sOne
    rw [if_neg (by omega), Int.mul_zero]
  | n + 1 => by
    show sD (cm (EP x n) (lin (x n))) = cm (PS x (n + 1)) (cm (EP x n) (lin (x n)))
    rw [sD_cm, newton_id x n, ← geo_lin]
    have e : PS x (n + 1) = sAdd (PS x n) (geo (x n)) := by
      funext k
      unfold PS sAdd
      rw [sm_succ]
    rw [e, cm_add_l, cm_assoc, ← cm_assoc (EP x n), cm_comm (EP x n) (geo (x n)), cm_assoc (geo (x n))]
theorem EP_zero (x : Nat → Int) : ∀ n, EP x n 0 = 1
  | 0 => rfl
  | n + 1 => by
    show cm (EP x n) (lin (x n)) 0 = 1
    rw [cm_lin, if_pos rfl, EP_zero x n]; rfl
/-- The elementary sums with their signs, and the power sums. -/
def eA (x : Nat → Int) (n m : Nat) : Int := sgn m * EP x n (m + 1)
def pwS (x : Nat → Int) (n k : Nat) : Int := sm n (fun i => x i ^ (k + 1))
theorem PS_pw (x : Nat → Int) (n k : Nat) : PS x n k = sgn k * pwS x n k := by
  unfold PS pwS geo
  exact sm_mul _ _ _
theorem newton_rec (x : Nat → Int) (n k : Nat) : pwS x n k = ((k + 1 : Nat) : Int) * eA x n k + sm k (fun m => eA x n m * pwS x n (k - 1 - m)) := by
  have h : sD (EP x n) k = cm (PS x n) (EP x n) k := by rw [newton_id]
  unfold sD cm at h
  rw [sm_succ, Nat.sub_self, EP_zero, Int.mul_one, PS_pw] at h
  have h2 : sgn k * (((k + 1 : Nat) : Int) * EP x n (k + 1)) = sgn k * sm k (fun j => PS x n j * EP x n (k - j)) + pwS x n k := by
    rw [h, Int.mul_add, ← Int.mul_assoc (sgn k) (sgn k), sgn_sq, Int.one_mul]
  have h3 : sgn k * sm k (fun j => PS x n j * EP x n (k - j)) = - sm k (fun m => eA x n m * pwS x n (k - 1 - m)) := by
    rw [sm_rev k (fun m => eA x n m * pwS x n (k - 1 - m)), ← sm_neg, ← sm_mul]
    refine sm_congr (fun j hj => ?_)
    obtain ⟨m, hm⟩ : ∃ m, k = j + m + 1 := ⟨k - 1 - j, by omega⟩
    subst hm
    unfold eA
    rw [PS_pw, show j + m + 1 - 1 - j = m by omega, show j + m + 1 - 1 - m = j by omega, show j + m + 1 - j = m + 1 by omega, sgn_succ, sgn_add]
    have e : -(sgn j * sgn m) * (sgn j * pwS x n j * EP x n (m + 1)) = -((sgn j * sgn j) * (sgn m * EP x n (m + 1) * pwS x n j)) := by
      rw [Int.neg_mul]
      congr 1
      simp only [Int.mul_comm, Int.mul_left_comm, Int.mul_assoc]
    rw [e, sgn_sq, Int.one_mul]
  have h4 : ((k + 1 : Nat) : Int) * eA x n k = sgn k * (((k + 1 : Nat) : Int) * EP x n (k + 1)) := by
    unfold eA
    rw [Int.mul_left_comm]
  rw [h4, h2, h3]
  omega
end G7
