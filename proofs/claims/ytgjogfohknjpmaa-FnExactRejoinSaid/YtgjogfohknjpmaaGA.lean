/- Plain mathematics for the statements of this place: the nine fields' numbers, sums, congruences, powers. No program in sight. -/
set_option linter.unusedVariables false
namespace G7

/-! ## the nine fields -/
def md (f : Int) : Int := if f = 0 then 17 else (if f = 1 then 97 else (if f = 2 then 193 else (if f = 3 then 257 else (if f = 4 then 7681 else (if f = 5 then 12289 else (if f = 6 then 998244353 else (if f = 7 then 469762049 else (if f = 8 then 1004535809 else 0))))))))
def gn (f : Int) : Int := if f = 0 then 3 else (if f = 1 then 5 else (if f = 2 then 5 else (if f = 3 then 3 else (if f = 4 then 17 else (if f = 5 then 11 else (if f = 6 then 3 else (if f = 7 then 3 else (if f = 8 then 3 else 0))))))))
def tp (f : Int) : Int := if f = 0 then 4 else (if f = 1 then 5 else (if f = 2 then 6 else (if f = 3 then 8 else (if f = 4 then 9 else (if f = 5 then 12 else (if f = 6 then 23 else (if f = 7 then 26 else (if f = 8 then 21 else (-1)))))))))

def IsF (p g t : Int) : Prop := (p = 17 ∧ g = 3 ∧ t = 4) ∨ (p = 97 ∧ g = 5 ∧ t = 5) ∨ (p = 193 ∧ g = 5 ∧ t = 6) ∨ (p = 257 ∧ g = 3 ∧ t = 8) ∨ (p = 7681 ∧ g = 17 ∧ t = 9) ∨ (p = 12289 ∧ g = 11 ∧ t = 12) ∨ (p = 998244353 ∧ g = 3 ∧ t = 23) ∨ (p = 469762049 ∧ g = 3 ∧ t = 26) ∨ (p = 1004535809 ∧ g = 3 ∧ t = 21)

theorem fcases {f : Int} (h0 : 0 ≤ f) (h9 : f < 9) : f = 0 ∨ f = 1 ∨ f = 2 ∨ f = 3 ∨ f = 4 ∨ f = 5 ∨ f = 6 ∨ f = 7 ∨ f = 8 := by omega

theorem isF {f : Int} (h0 : 0 ≤ f) (h9 : f < 9) : IsF (md f) (gn f) (tp f) := by
  rcases fcases h0 h9 with h | h | h | h | h | h | h | h | h <;> subst h <;> unfold IsF <;> decide

theorem IsF.bounds {p g t : Int} (h : IsF p g t) : 17 ≤ p ∧ p ≤ 1004535809 ∧ 3 ≤ g ∧ g ≤ 17 ∧ 4 ≤ t ∧ t ≤ 26 := by
  unfold IsF at h; omega

theorem md_bad {f : Int} (h : ¬ (0 ≤ f ∧ f < 9)) : md f = 0 := by
  unfold md
  repeat rw [if_neg (by omega)]

theorem tp_bad {f : Int} (h : ¬ (0 ≤ f ∧ f < 9)) : tp f = -1 := by
  unfold tp
  repeat rw [if_neg (by omega)]

theorem md_zero {f : Int} : md f = 0 ↔ ¬ (0 ≤ f ∧ f < 9) := by
  constructor
  · intro h hf
    have := (isF hf.1 hf.2).bounds
    omega
  · exact md_bad

theorem md_ok {f : Int} (h : md f ≠ 0) : 0 ≤ f ∧ f < 9 := by
  by_cases hf : 0 ≤ f ∧ f < 9
  · exact hf
  · exact absurd (md_bad hf) h

/-! ## remainders -/
theorem tmod_nn {a p : Int} (h : 0 ≤ a) : Int.tmod a p = a % p := Int.tmod_eq_emod_of_nonneg h

theorem tmod_fix {a p : Int} (hp : 0 < p) : (if Int.tmod a p < 0 then Int.tmod a p + p else Int.tmod a p) = a % p := by
  have h := Int.tmod_eq_emod (a := a) (b := p)
  have h1 := Int.emod_nonneg a (show p ≠ 0 by omega)
  have h2 := Int.emod_lt_of_pos a hp
  by_cases c : 0 ≤ a ∨ p ∣ a
  · rw [if_pos c] at h
    rw [h, if_neg (by omega)]
    omega
  · rw [if_neg c] at h
    have : (p.natAbs : Int) = p := by omega
    rw [this] at h
    have h3 : a % p ≠ 0 := by
      intro h0
      exact c (Or.inr (Int.dvd_of_emod_eq_zero h0))
    rw [h, if_pos (by omega)]
    omega

theorem tmod_bounds {a p : Int} (hp : 0 < p) : -p < Int.tmod a p ∧ Int.tmod a p < p := by
  have h := Int.tmod_eq_emod (a := a) (b := p)
  have h1 := Int.emod_nonneg a (show p ≠ 0 by omega)
  have h2 := Int.emod_lt_of_pos a hp
  by_cases c : 0 ≤ a ∨ p ∣ a
  · rw [if_pos c] at h; omega
  · rw [if_neg c] at h
    have h3 : a % p ≠ 0 := by
      intro h0
      exact c (Or.inr (Int.dvd_of_emod_eq_zero h0))
    omega

theorem tmod_add_emod {a p : Int} (hp : 0 < p) : (Int.tmod a p + p) % p = a % p := by
  have h := tmod_fix (a := a) hp
  have hb := tmod_bounds (a := a) hp
  by_cases c : Int.tmod a p < 0
  · rw [if_pos c] at h
    rw [h, Int.emod_emod]
  · rw [if_neg c] at h
    rw [Int.add_emod_right, h, Int.emod_emod]

theorem em_lt {a p : Int} (hp : 0 < p) : 0 ≤ a % p ∧ a % p < p := ⟨Int.emod_nonneg a (by omega), Int.emod_lt_of_pos a hp⟩
theorem em_id {a p : Int} (h0 : 0 ≤ a) (h1 : a < p) : a % p = a := Int.emod_eq_of_lt h0 h1

theorem eadd {p a a' b b' : Int} (h : a % p = a' % p) (k : b % p = b' % p) : (a + b) % p = (a' + b') % p := by
  rw [Int.add_emod, h, k, ← Int.add_emod]
theorem emul {p a a' b b' : Int} (h : a % p = a' % p) (k : b % p = b' % p) : (a * b) % p = (a' * b') % p := by
  rw [Int.mul_emod, h, k, ← Int.mul_emod]
theorem esub {p a a' b b' : Int} (h : a % p = a' % p) (k : b % p = b' % p) : (a - b) % p = (a' - b') % p := by
  rw [Int.sub_emod, h, k, ← Int.sub_emod]
theorem eneg {p a a' : Int} (h : a % p = a' % p) : (-a) % p = (-a') % p := by
  have := esub (p := p) (a := 0) (a' := 0) rfl h
  simpa using this
theorem eadd_l {p a b : Int} : (a % p + b) % p = (a + b) % p := eadd (Int.emod_emod _ _) rfl
theorem eadd_r {p a b : Int} : (a + b % p) % p = (a + b) % p := eadd rfl (Int.emod_emod _ _)
theorem emul_l {p a b : Int} : (a % p * b) % p = (a * b) % p := emul (Int.emod_emod _ _) rfl
theorem emul_r {p a b : Int} : (a * (b % p)) % p = (a * b) % p := emul rfl (Int.emod_emod _ _)
theorem esub_l {p a b : Int} : (a % p - b) % p = (a - b) % p := esub (Int.emod_emod _ _) rfl
theorem esub_r {p a b : Int} : (a - b % p) % p = (a - b) % p := esub rfl (Int.emod_emod _ _)

theorem mul_nn {a b : Int} (h : 0 ≤ a) (k : 0 ≤ b) : 0 ≤ a * b := Int.mul_nonneg h k
theorem mul_lt_big {a b p : Int} (h0 : 0 ≤ a) (h1 : a < p) (k0 : 0 ≤ b) (k1 : b < p) (hp : p ≤ 1004535809) : 0 ≤ a * b ∧ a * b ≤ 1009092191563284481 := by
  refine ⟨Int.mul_nonneg h0 k0, ?_⟩
  have h2 : a ≤ 1004535809 := by omega
  have k2 : b ≤ 1004535809 := by omega
  calc a * b ≤ 1004535809 * 1004535809 := Int.mul_le_mul h2 k2 k0 (by omega)
    _ ≤ 1009092191563284481 := by decide

/-! ## sums -/
def sm : Nat → (Nat → Int) → Int
  | 0, _ => 0
  | n + 1, h => sm n h + h n

theorem sm_zero (h : Nat → Int) : sm 0 h = 0 := rfl
theorem sm_succ (n : Nat) (h : Nat → Int) : sm (n + 1) h = sm n h + h n := rfl

theorem sm_congr {n : Nat} {h h' : Nat → Int} (e : ∀ i, i < n → h i = h' i) : sm n h = sm n h' := by
  induction n with
  | zero => rfl
  | succ n ih => rw [sm_succ, sm_succ, ih (fun i hi => e i (by omega)), e n (by omega)]

theorem sm_econgr {p : Int} {n : Nat} {h h' : Nat → Int} (e : ∀ i, i < n → h i % p = h' i % p) : sm n h % p = sm n h' % p := by
  induction n with
  | zero => rfl
  | succ n ih => rw [sm_succ, sm_succ]; exact eadd (ih (fun i hi => e i (by omega))) (e n (by omega))

theorem sm_nil {n : Nat} {h : Nat → Int} (e : ∀ i, i < n → h i = 0) : sm n h = 0 := by
  induction n with
  | zero => rfl
  | succ n ih => rw [sm_succ, ih (fun i hi => e i (by omega)), e n (by omega)]; rfl

theorem sm_add (n : Nat) (h h' : Nat → Int) : sm n (fun i => h i + h' i) = sm n h + sm n h' := by
  induction n with
  | zero => rfl
  | succ n ih => simp only [sm_succ, ih]; omega

theorem sm_sub (n : Nat) (h h' : Nat → Int) : sm n (fun i => h i - h' i) = sm n h - sm n h' := by
  induction n with
  | zero => rfl
  | succ n ih => simp only [sm_succ, ih]; omega

theorem sm_neg (n : Nat) (h : Nat → Int) : sm n (fun i => - h i) = - sm n h := by
  induction n with
  | zero => rfl
  | succ n ih => simp only [sm_succ, ih]; omega

theorem sm_mul (c : Int) (n : Nat) (h : Nat → Int) : sm n (fun i => c * h i) = c * sm n h := by
  induction n with
  | zero => simp [sm_zero]
  | succ n ih => simp only [sm_succ, ih, Int.mul_add]

theorem sm_mul_r (c : Int) (n : Nat) (h : Nat → Int) : sm n (fun i => h i * c) = sm n h * c := by
  induction n with
  | zero => simp [sm_zero]
  | succ n ih => simp only [sm_succ, ih, Int.add_mul]

theorem sm_const (c : Int) (n : Nat) : sm n (fun _ => c) = n * c := by
  induction n with
  | zero => simp [sm_zero]
  | succ n ih => simp only [sm_succ, ih, Int.natCast_add, Int.add_mul]; omega

theorem sm_split (n m : Nat) (h : Nat → Int) : sm (n + m) h = sm n h + sm m (fun i => h (n + i)) := by
  induction m with
  | zero => simp [sm_zero]
  | succ m ih => rw [← Nat.add_assoc, sm_succ, sm_succ, ih]; omega

theorem sm_succ' (n : Nat) (h : Nat → Int) : sm (n + 1) h = h 0 + sm n (fun i => h (i + 1)) := by
  rw [Nat.add_comm, sm_split, sm_succ, sm_zero]
  have : sm n (fun i => h (1 + i)) = sm n (fun i => h (i + 1)) := sm_congr (fun i _ => by rw [Nat.add_comm])
  omega

theorem sm_swap (n m : Nat) (h : Nat → Nat → Int) : sm n (fun i => sm m (fun j => h i j)) = sm m (fun j => sm n (fun i => h i j)) := by
  induction n with
  | zero => rw [sm_zero]; exact (sm_nil (fun j _ => rfl)).symm
  | succ n ih => simp only [sm_succ, ih, sm_add]

theorem sm_one {n k : Nat} {h : Nat → Int} (hk : k < n) (e : ∀ i, i < n → i ≠ k → h i = 0) : sm n h = h k := by
  induction n with
  | zero => omega
  | succ n ih =>
    rw [sm_succ]
    by_cases c : k = n
    · subst c
      rw [sm_nil (fun i hi => e i (by omega) (by omega))]; omega
    · rw [ih (by omega) (fun i hi hne => e i (by omega) hne), e n (by omega) (by omega)]; omega

theorem sm_rev (n : Nat) (h : Nat → Int) : sm n h = sm n (fun i => h (n - 1 - i)) := by
  induction n with
  | zero => rfl
  | succ n ih =>
    rw [sm_succ, sm_succ' n (fun i => h (n + 1 - 1 - i)), ih]
    have e1 : n + 1 - 1 - 0 = n := by omega
    have e2 : sm n (fun i => h (n + 1 - 1 - (i + 1))) = sm n (fun i => h (n - 1 - i)) := sm_congr (fun i hi => by congr 1; omega)
    rw [e1, e2]; omega

theorem sm_more {n m : Nat} {h : Nat → Int} (hnm : n ≤ m) (e : ∀ i, n ≤ i → i < m → h i = 0) : sm m h = sm n h := by
  obtain ⟨d, rfl⟩ : ∃ d, m = n + d := ⟨m - n, by omega⟩
  rw [sm_split, sm_nil (fun i hi => e (n + i) (by omega) (by omega))]; omega

theorem sm_emod (p : Int) (n : Nat) (h : Nat → Int) : sm n (fun i => h i % p) % p = sm n h % p := sm_econgr (fun i _ => Int.emod_emod _ _)

theorem sm_even_odd (n : Nat) (h : Nat → Int) : sm (2 * n) h = sm n (fun i => h (2 * i)) + sm n (fun i => h (2 * i + 1)) := by
  induction n with
  | zero => rfl
  | succ n ih =>
    rw [show 2 * (n + 1) = 2 * n + 1 + 1 by omega, sm_succ, sm_succ, ih, sm_succ, sm_succ]; omega

/-- A sum over a triangle, by rows or by diagonals. -/
theorem sm_tri (n : Nat) (h : Nat → Nat → Int) : sm n (fun i => sm (i + 1) (fun j => h j (i - j))) = sm n (fun j => sm (n - j) (fun l => h j l)) := by
  induction n with
  | zero => rfl
  | succ n ih =>
    rw [sm_succ, ih, sm_succ _ (fun j => sm (n + 1 - j) (fun l => h j l))]
    have e1 : sm n (fun j => sm (n + 1 - j) (fun l => h j l)) = sm n (fun j => sm (n - j) (fun l => h j l) + h j (n - j)) :=
      sm_congr (fun j hj => by rw [show n + 1 - j = (n - j) + 1 by omega, sm_succ])
    rw [e1, sm_add, sm_succ n (fun j => h j (n - j))]
    have e2 : n + 1 - n = 1 := by omega
    rw [e2, sm_succ, sm_zero, Nat.sub_self]; omega

/-- A turn by one, by any. -/
theorem sm_turn1 {n : Nat} (hn : 0 < n) (h : Nat → Int) : sm n (fun i => h ((i + 1) % n)) = sm n h := by
  obtain ⟨m, rfl⟩ : ∃ m, n = m + 1 := ⟨n - 1, by omega⟩
  rw [sm_succ, sm_succ' m h, Nat.mod_self]
  have : sm m (fun i => h ((i + 1) % (m + 1))) = sm m (fun i => h (i + 1)) := sm_congr (fun i hi => by rw [Nat.mod_eq_of_lt (by omega)])
  omega
theorem sm_turn {n : Nat} (hn : 0 < n) (r : Nat) (h : Nat → Int) : sm n (fun i => h ((i + r) % n)) = sm n h := by
  induction r with
  | zero => exact sm_congr (fun i hi => by rw [Nat.add_zero, Nat.mod_eq_of_lt hi])
  | succ r ih =>
    rw [← ih, ← sm_turn1 hn (fun i => h ((i + r) % n))]
    exact sm_congr (fun i hi => by
      congr 1
      rw [show i + (r + 1) = (i + 1) + r by omega, Nat.add_mod (i + 1) r n, Nat.add_mod ((i + 1) % n) r n, Nat.mod_mod])

/-! ## powers -/
theorem ipow_add (a : Int) (m n : Nat) : a ^ (m + n) = a ^ m * a ^ n := by
  induction n with
  | zero => rw [Nat.add_zero, Int.pow_zero, Int.mul_one]
  | succ n ih => rw [← Nat.add_assoc, Int.pow_succ, ih, Int.pow_succ, Int.mul_assoc]
theorem ipow_mul (a : Int) (m n : Nat) : a ^ (m * n) = (a ^ m) ^ n := by
  induction n with
  | zero => rw [Nat.mul_zero, Int.pow_zero, Int.pow_zero]
  | succ n ih => rw [Nat.mul_succ, ipow_add, ih, Int.pow_succ]
theorem ipow_one (n : Nat) : (1 : Int) ^ n = 1 := by
  induction n with
  | zero => rfl
  | succ n ih => rw [Int.pow_succ, ih]; rfl
theorem epow {p a b : Int} (n : Nat) (h : a % p = b % p) : a ^ n % p = b ^ n % p := by
  induction n with
  | zero => rw [Int.pow_zero, Int.pow_zero]
  | succ n ih => rw [Int.pow_succ, Int.pow_succ]; exact emul ih h
theorem epow_l {p a : Int} (n : Nat) : (a % p) ^ n % p = a ^ n % p := epow n (Int.emod_emod _ _)
theorem ipow2 (a : Int) (n : Nat) : (a * a) ^ n = a ^ (2 * n) := by rw [ipow_mul]; congr 1; rw [Int.pow_succ, Int.pow_succ, Int.pow_zero, Int.one_mul]

/-- a to the e modulo p, by squaring; for the kernel. -/
def pwm (p : Nat) : Nat → Nat → Nat → Nat
  | 0, _, _ => 1 % p
  | k + 1, a, e => if e % 2 = 1 then a * pwm p k (a * a % p) (e / 2) % p else pwm p k (a * a % p) (e / 2)
theorem pwm_eq (p : Nat) : ∀ (k a e : Nat), e < 2 ^ k → pwm p k a e = a ^ e % p := by
  intro k
  induction k with
  | zero => intro a e he; have : e = 0 := by simp at he; omega
            subst this; rfl
  | succ k ih =>
    intro a e he
    have h2 : e / 2 < 2 ^ k := by rw [Nat.pow_succ] at he; omega
    unfold pwm
    rw [ih (a * a % p) (e / 2) h2]
    have e1 : (a * a % p) ^ (e / 2) % p = a ^ (2 * (e / 2)) % p := by
      rw [← Nat.pow_mod, Nat.pow_mul]; congr 2; rw [Nat.pow_succ, Nat.pow_succ, Nat.pow_zero, Nat.one_mul]
    by_cases c : e % 2 = 1
    · rw [if_pos c, e1, Nat.mul_mod_mod, ← Nat.pow_succ']
      congr 2; omega
    · rw [if_neg c, e1]
      congr 2; omega
theorem pwm_int {p : Nat} (k a e : Nat) (h : e < 2 ^ k) : (a : Int) ^ e % (p : Int) = (pwm p k a e : Nat) := by
  rw [pwm_eq p k a e h, Int.natCast_emod, Int.natCast_pow]

/-- The inverse, as the program has it. -/
def inv (p a : Int) : Int := a ^ (p - 2).toNat % p
theorem inv_lt {p : Int} (hp : 0 < p) (a : Int) : 0 ≤ inv p a ∧ inv p a < p := em_lt hp

end G7
