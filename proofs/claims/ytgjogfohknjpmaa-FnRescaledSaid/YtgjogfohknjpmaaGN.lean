import Derived.Test.YtgjogfohknjpmaaGM
import Derived.Test.YtgjogfohknjpmaaGK
/- The transform and the way back are inverse to each other; cyclic products. -/
set_option linter.unusedVariables false
namespace G7
open Go.RowKit Go.Proofs.YtgjogfohknjpmaaW.PrintWords Go.Proofs.YtgjogfohknjpmaaW.PrintLast Go.Proofs.YtgjogfohknjpmaaW.PrintMore

theorem ncancel {n x y z : Nat} (hn : 0 < n) (h : (x + z) % n = (y + z) % n) : x % n = y % n := by
  have hz : z ≤ n * z := Nat.le_mul_of_pos_left z hn
  have e : ∀ q, (q + z + (n * z - z)) % n = q % n := fun q => by rw [show q + z + (n * z - z) = q + n * z by omega, Nat.add_mul_mod_self_left]
  rw [← e x, ← e y]
  exact nadd h rfl
/-- The sum behind the way back and the transform. -/
theorem back_core {p w : Int} {k : Nat} (hp : p % 2 = 1) (hw : RootK p w k) (a : Nat → Int) (e : Nat → Nat) {c : Nat} (hc : c < 2 ^ k) (he : ∀ j, j < 2 ^ k → (e j % 2 ^ k = 0 ↔ j = c)) :
    sm (2 ^ k) (fun i => sm (2 ^ k) (fun j => a j * w ^ (i * e j))) % p = a c * ((2 ^ k : Nat) : Int) % p := by
  rw [sm_swap]
  have h1 : sm (2 ^ k) (fun j => sm (2 ^ k) (fun i => a j * w ^ (i * e j))) % p = sm (2 ^ k) (fun j => a j * (if e j % 2 ^ k = 0 then ((2 ^ k : Nat) : Int) else 0)) % p :=
    sm_econgr (fun j hj => by rw [sm_mul]; exact emul rfl (orth hp hw (e j)))
  rw [h1, sm_one hc (fun j hj hne => by rw [if_neg (fun q => hne ((he j hj).1 q)), Int.mul_zero]), if_pos ((he c hc).2 rfl)]
theorem bck_dft {p w : Int} {k : Nat} {a : List Int} (h0 : 0 < p) (hp : p % 2 = 1) (hw : RootK p w k) (hl : a.length = 2 ^ k) (ha : El p a) (hi : ((2 ^ k : Nat) : Int) * inv p (((2 ^ k : Nat) : Int) % p) % p = 1 % p) : bckS p w (dftS p w a) = a := by
  refine ext_rd (by rw [bckS_len, dftS_len]) (fun c hc => ?_)
  rw [bckS_len, dftS_len] at hc
  rw [bckS_rd (by rw [dftS_len]; exact hc), dftS_len]
  have h1 : dft w a.length (dftS p w a) ((a.length - c) % a.length) % p = rd a (c : Int) * ((2 ^ k : Nat) : Int) % p := by
    rw [dft_at (by rw [hl]; exact hw.1)]
    rw [← back_core hp hw (fun j => rd a (j : Int)) (fun j => j + (2 ^ k - c)) (c := c) (by omega) (fun j hj => by
      constructor
      · intro q
        by_cases r : j < c
        · rw [Nat.mod_eq_of_lt (by omega)] at q; omega
        · rw [show j + (2 ^ k - c) = j - c + 2 ^ k by omega, Nat.add_mod_right, Nat.mod_eq_of_lt (by omega)] at q; omega
      · intro q; subst q
        rw [show j + (2 ^ k - j) = 2 ^ k by omega, Nat.mod_self])]
    unfold dft
    rw [hl]
    refine sm_econgr (fun i hi2 => ?_)
    rw [dftS_rd (by omega), emul_l]
    unfold dft
    rw [hl, ← sm_mul_r]
    refine sm_econgr (fun j _ => ?_)
    rw [Int.mul_assoc, ← ipow_add, show i * (j + (2 ^ k - c)) = i * j + (2 ^ k - c) * i by rw [Nat.mul_add, Nat.mul_comm i (2 ^ k - c)]]
  have h2 := ha.rd h0 (c : Int)
  rw [emul h1 rfl, Int.mul_assoc, hl, emul rfl hi, Int.mul_one, em_id h2.1 h2.2]
theorem dft_bck {p w : Int} {k : Nat} {a : List Int} (h0 : 0 < p) (hp : p % 2 = 1) (hw : RootK p w k) (hl : a.length = 2 ^ k) (ha : El p a) (hi : ((2 ^ k : Nat) : Int) * inv p (((2 ^ k : Nat) : Int) % p) % p = 1 % p) : dftS p w (bckS p w a) = a := by
  have hn := Nat.two_pow_pos k
  refine ext_rd (by rw [dftS_len, bckS_len]) (fun c hc => ?_)
  rw [dftS_len, bckS_len] at hc
  rw [dftS_rd (by rw [bckS_len]; exact hc), bckS_len]
  have hbk := back_core hp hw (fun j => rd a (j : Int)) (fun j => c + (2 ^ k - 1) * j) (c := c) (by omega) (fun j hj => by
    have hm : (c + (2 ^ k - 1) * j + j) % 2 ^ k = c := by
      rw [show c + (2 ^ k - 1) * j + j = c + 2 ^ k * j by rw [Nat.sub_mul, Nat.one_mul]; have := Nat.le_mul_of_pos_left j hn; omega, Nat.add_mul_mod_self_left, Nat.mod_eq_of_lt (by omega)]
    constructor
    · intro q
      rw [Nat.add_mod, q, Nat.zero_add, Nat.mod_mod, Nat.mod_eq_of_lt hj] at hm
      exact hm
    · intro q; subst q
      have : (j + (2 ^ k - 1) * j + j) % 2 ^ k = (0 + j) % 2 ^ k := by
        rw [Nat.zero_add, Nat.mod_eq_of_lt hj]
        exact hm
      have := ncancel hn this
      rwa [Nat.zero_mod] at this)
  have h1 : dft w a.length (bckS p w a) c % p = inv p (((2 ^ k : Nat) : Int) % p) * (rd a (c : Int) * ((2 ^ k : Nat) : Int)) % p := by
    rw [← emul rfl hbk, ← sm_mul]
    unfold dft
    rw [hl]
    refine sm_econgr (fun i hi2 => ?_)
    rw [bckS_rd (by omega), emul_l, hl]
    unfold dft
    rw [Int.mul_right_comm, Int.mul_comm, ← sm_mul_r]
    refine emul rfl (sm_econgr (fun j _ => ?_))
    rw [Int.mul_assoc, ← ipow_add]
    refine emul rfl ?_
    rw [← root_mod hw.1, ← root_mod hw.1 (i * (c + (2 ^ k - 1) * j))]
    congr 2
    have e1 : ((2 ^ k - i) % 2 ^ k) % 2 ^ k = ((2 ^ k - 1) * i) % 2 ^ k := by
      refine ncancel hn (z := i) ?_
      rw [Nat.mod_add_mod, show 2 ^ k - i + i = 2 ^ k by omega, Nat.mod_self, show (2 ^ k - 1) * i + i = 2 ^ k * i by rw [Nat.sub_mul, Nat.one_mul]; have := Nat.le_mul_of_pos_left i hn; omega, Nat.mul_mod_right]
    have e2 : i * (c + (2 ^ k - 1) * j) = (2 ^ k - 1) * i * j + c * i := by
      rw [Nat.mul_add, Nat.mul_comm i c, Nat.mul_left_comm i, Nat.mul_assoc, Nat.add_comm]
    rw [e2]
    exact nadd (nmul e1 rfl) rfl
  have h2 := ha.rd h0 (c : Int)
  rw [h1, Int.mul_left_comm, Int.mul_comm (inv p _), emul rfl hi, Int.mul_one, em_id h2.1 h2.2]

/-! ## cyclic products -/
def cyS (p : Int) (a b : List Int) : List Int := (List.range a.length).map (fun c => sm a.length (fun j => rd a (j : Int) * rd b (((c + a.length - j) % a.length : Nat) : Int)) % p)
theorem cyS_len (p : Int) (a b : List Int) : (cyS p a b).length = a.length := by simp [cyS]
theorem cyS_el {p : Int} (hp : 0 < p) (a b : List Int) : El p (cyS p a b) := El.map (fun i _ => em_lt hp)
theorem cyS_rd {p : Int} {a b : List Int} {c : Nat} (h : c < a.length) : rd (cyS p a b) (c : Int) = sm a.length (fun j => rd a (j : Int) * rd b (((c + a.length - j) % a.length : Nat) : Int)) % p := by unfold cyS; rw [rd_map _ h]
theorem cyS_dft {p w : Int} {k : Nat} {a b : List Int} (hw : w ^ (2 ^ k) % p = 1 % p) (hl : a.length = 2 ^ k) (i : Nat) : dft w (2 ^ k) (cyS p a b) i % p = dft w (2 ^ k) a i * dft w (2 ^ k) b i % p := by
  have hn := Nat.two_pow_pos k
  unfold dft
  rw [← sm_mul_r]
  have h1 : sm (2 ^ k) (fun c => rd (cyS p a b) (c : Int) * w ^ (i * c)) % p = sm (2 ^ k) (fun c => sm (2 ^ k) (fun j => rd a (j : Int) * rd b (((c + 2 ^ k - j) % 2 ^ k : Nat) : Int) * w ^ (i * c))) % p :=
    sm_econgr (fun c hc => by rw [cyS_rd (by omega), emul_l, hl, sm_mul_r])
  rw [h1, sm_swap]
  refine sm_econgr (fun j hj => ?_)
  rw [← sm_turn hn (2 ^ k - j) (fun l => rd b (l : Int) * w ^ (i * l)), ← sm_mul]
  refine sm_econgr (fun c hc => ?_)
  have e1 : c + 2 ^ k - j = c + (2 ^ k - j) := by omega
  rw [e1, Int.mul_assoc, Int.mul_assoc]
  refine emul rfl ?_
  rw [Int.mul_left_comm]
  refine emul rfl ?_
  rw [← ipow_add, ← root_mod hw, ← root_mod hw (i * j + i * ((c + (2 ^ k - j)) % 2 ^ k))]
  congr 2
  rw [← Nat.mul_add]
  refine nmul rfl ?_
  rw [Nat.add_mod_mod, show j + (c + (2 ^ k - j)) = c + 2 ^ k by omega, Nat.add_mod_right]
theorem len_inv {f : Int} (h : 0 ≤ f ∧ f < 9) {k : Nat} (hk : k ≤ 9) : ((2 ^ k : Nat) : Int) * inv (md f) (((2 ^ k : Nat) : Int) % md f) % md f = 1 % md f := by
  have hb := (isF h.1 h.2).bounds
  have hne : ((2 ^ k : Nat) : Int) % md f ≠ 0 := by
    have hk' : k = 0 ∨ k = 1 ∨ k = 2 ∨ k = 3 ∨ k = 4 ∨ k = 5 ∨ k = 6 ∨ k = 7 ∨ k = 8 ∨ k = 9 := by omega
    rcases fcases h.1 h.2 with e | e | e | e | e | e | e | e | e <;> subst e <;> rcases hk' with e | e | e | e | e | e | e | e | e | e <;> subst e <;> decide
  have h1 := inv_mul h (a := ((2 ^ k : Nat) : Int) % md f) (by rw [Int.emod_emod]; exact hne)
  rw [← emul_l, h1, em_id (by omega) (by omega)]
theorem md_odd {f : Int} (h : 0 ≤ f ∧ f < 9) : md f % 2 = 1 := by
  rcases fcases h.1 h.2 with e | e | e | e | e | e | e | e | e <;> subst e <;> decide
end G7
