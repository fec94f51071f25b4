import Derived.Test.YtgjogfohknjpmaaGD
import Derived.Test.YtgjogfohknjpmaaGF
/- Values of polynomials, powers with a reduced exponent, lists without the zeros at their end. -/
set_option linter.unusedVariables false
namespace G7
open Go.RowKit Go.Proofs.YtgjogfohknjpmaaW.PrintWords Go.Proofs.YtgjogfohknjpmaaW.PrintLast Go.Proofs.YtgjogfohknjpmaaW.PrintMore

/-- The power 'modulus less one' is 1. -/
theorem ferm {f : Int} (h : 0 ≤ f ∧ f < 9) {a : Int} (ha : a % md f ≠ 0) : a ^ (md f - 1).toNat % md f = 1 := by
  have hb := (isF h.1 h.2).bounds
  have hp := prm_field h
  have he := em_lt (a := a) (p := md f) (by omega)
  have hf := fermat hp (n := (a % md f).toNat) (by omega) (by omega)
  have e1 : (((md f).toNat : Nat) : Int) = md f := by omega
  have e2 : (((a % md f).toNat : Nat) : Int) = a % md f := by omega
  rw [e1, e2, show (md f).toNat - 1 = (md f - 1).toNat by omega, epow_l] at hf
  rw [hf]
  exact em_id (by omega) (by omega)
theorem pow_red {f : Int} (h : 0 ≤ f ∧ f < 9) {a : Int} (ha : a % md f ≠ 0) (e : Nat) : a ^ (e % (md f - 1).toNat) % md f = a ^ e % md f := by
  have hb := (isF h.1 h.2).bounds
  have key : a ^ e = a ^ (e % (md f - 1).toNat) * (a ^ (md f - 1).toNat) ^ (e / (md f - 1).toNat) := by
    rw [← ipow_mul, ← ipow_add]
    congr 1
    have := Nat.mod_add_div e (md f - 1).toNat
    omega
  have h1 : (a ^ (md f - 1).toNat) ^ (e / (md f - 1).toNat) % md f = 1 % md f := by
    have h2 : a ^ (md f - 1).toNat % md f = 1 % md f := by rw [ferm h ha, em_id (by omega) (by omega)]
    rw [epow _ h2, ipow_one]
  rw [key, emul rfl h1, Int.mul_one]

/-- The value of a polynomial. -/
def evP (a : List Int) (x : Int) : Int := sm a.length (fun i => rd a (i : Int) * x ^ i)
/-- The value of what a polynomial has from i on. -/
def hzP (a : List Int) (x : Int) (i d : Nat) : Int := sm d (fun j => rd a ((i + j : Nat) : Int) * x ^ j)
theorem hzP_step (a : List Int) (x : Int) (i d : Nat) : hzP a x i (d + 1) = hzP a x (i + 1) d * x + rd a (i : Int) := by
  unfold hzP
  rw [sm_succ', ← sm_mul_r, Int.pow_zero, Int.mul_one, Nat.add_zero, Int.add_comm]
  congr 1
  exact sm_congr (fun j hj => by rw [Int.pow_succ, show i + (j + 1) = i + 1 + j by omega, Int.mul_assoc])
theorem hzP_all (a : List Int) (x : Int) : hzP a x 0 a.length = evP a x := sm_congr (fun j hj => by rw [Nat.zero_add])

/-- A polynomial of a field. -/
def PolyV (f : Int) (l : List Int) : Prop := (0 ≤ f ∧ f < 9) ∧ l.length ≤ 400 ∧ El (md f) l ∧ (1 ≤ l.length → rd l ((l.length - 1 : Nat) : Int) ≠ 0)
theorem PolyV.pm {f : Int} {l : List Int} (h : PolyV f l) : Pm (md f) := pm_of h.1

/-- The first n elements without the zeros at their end. -/
def cutN (l : List Int) : Nat → List Int
  | 0 => l.take 0
  | n + 1 => if rd l (n : Int) = 0 then cutN l n else l.take (n + 1)
def cutS (l : List Int) : List Int := cutN l l.length
theorem cutN_len (l : List Int) : ∀ n, (cutN l n).length ≤ n
  | 0 => by simp [cutN]
  | n + 1 => by
    unfold cutN; split
    · have := cutN_len l n; omega
    · rw [List.length_take]; omega
theorem rd_take {l : List Int} {n i : Nat} (h : i < n) : rd (l.take n) (i : Int) = rd l (i : Int) := by
  simp [rd, List.getD, h]
theorem cutN_rd (l : List Int) : ∀ (n i : Nat), i < n → rd (cutN l n) (i : Int) = rd l (i : Int) := by
  intro n
  induction n with
  | zero => intro i hi; omega
  | succ n ih =>
    intro i hi
    unfold cutN; split
    · rename_i h
      by_cases e : i = n
      · subst e; rw [h]; exact rd_out (by have := cutN_len l i; omega)
      · exact ih i (by omega)
    · exact rd_take hi
theorem cutS_rd (l : List Int) (i : Nat) : rd (cutS l) (i : Int) = rd l (i : Int) := by
  by_cases h : i < l.length
  · exact cutN_rd l _ i h
  · rw [rd_out (l := l) (by omega)]; exact rd_out (by have := cutN_len l l.length; unfold cutS; omega)
theorem cutN_last (l : List Int) : ∀ n, n ≤ l.length → 1 ≤ (cutN l n).length → rd (cutN l n) (((cutN l n).length - 1 : Nat) : Int) ≠ 0 := by
  intro n
  induction n with
  | zero => intro _ h; simp [cutN] at h
  | succ n ih =>
    intro hn
    unfold cutN; split
    · exact ih (by omega)
    · rename_i h
      intro _
      rw [List.length_take, Nat.min_eq_left hn, rd_take (by omega)]
      exact h
theorem cutN_el {p : Int} {l : List Int} (h : El p l) : ∀ n, El p (cutN l n)
  | 0 => by simp only [cutN, List.take_zero]; exact El.nil
  | n + 1 => by
    unfold cutN; split
    · exact cutN_el h n
    · exact fun x hx => h x (List.mem_of_mem_take hx)
theorem cutS_poly {f : Int} (hf : 0 ≤ f ∧ f < 9) {l : List Int} (hl : l.length ≤ 400) (h : El (md f) l) : PolyV f (cutS l) :=
  ⟨hf, by have := cutN_len l l.length; unfold cutS; omega, cutN_el h _, cutN_last l _ (Nat.le_refl _)⟩
theorem cutS_ev (l : List Int) (x : Int) : evP (cutS l) x = evP l x := by
  unfold evP
  have hc : (cutS l).length ≤ l.length := cutN_len l l.length
  rw [sm_more hc (fun i h1 h2 => by rw [← cutS_rd, rd_out h1, Int.zero_mul])]
  exact sm_congr (fun i hi => by rw [cutS_rd])
end G7
