import Derived.Test.YtgjogfohknjpmaaGH
/- The maps that put a power for the variable, and their sum. -/
set_option linter.unusedVariables false
namespace G7
open Go.RowKit Go.Proofs.YtgjogfohknjpmaaW.PrintWords Go.Proofs.YtgjogfohknjpmaaW.PrintLast Go.Proofs.YtgjogfohknjpmaaW.PrintMore

theorem nadd {m a a' b b' : Nat} (h : a % m = a' % m) (k : b % m = b' % m) : (a + b) % m = (a' + b') % m := by
  rw [Nat.add_mod, h, k, ← Nat.add_mod]
theorem nmul {m a a' b b' : Nat} (h : a % m = a' % m) (k : b % m = b' % m) : (a * b) % m = (a' * b') % m := by
  rw [Nat.mul_mod, h, k, ← Nat.mul_mod]
/-- An odd number of halves is a half. -/
theorem odd_half {n h : Nat} (hh : h % 2 = 1) : (n * h) % (2 * n) = n % (2 * n) := by
  obtain ⟨q, rfl⟩ : ∃ q, h = 1 + 2 * q := ⟨h / 2, by omega⟩
  rw [Nat.mul_add, Nat.mul_one, show n * (2 * q) = 2 * n * q by rw [Nat.mul_left_comm, Nat.mul_assoc], Nat.add_mul_mod_self_left]
theorem odd_pow {g : Nat} (hg : g % 2 = 1) : ∀ k : Nat, g ^ (2 ^ k) % 2 ^ (k + 1) = 1 := by
  intro k
  induction k with
  | zero => simpa using hg
  | succ k ih =>
    have e : g ^ (2 ^ (k + 1)) = g ^ (2 ^ k) * g ^ (2 ^ k) := by rw [Nat.pow_succ 2 k, Nat.mul_two, Nat.pow_add]
    obtain ⟨q, hq⟩ : ∃ q, g ^ (2 ^ k) = 1 + 2 ^ (k + 1) * q := ⟨g ^ (2 ^ k) / 2 ^ (k + 1), by have := Nat.mod_add_div (g ^ (2 ^ k)) (2 ^ (k + 1)); omega⟩
    obtain ⟨M, hM⟩ : ∃ M, M = 2 ^ (k + 1) := ⟨_, rfl⟩
    obtain ⟨L, hL⟩ : ∃ L, M = 2 * L := ⟨2 ^ k, by rw [hM, Nat.pow_succ, Nat.mul_comm]⟩
    have e2 : 2 ^ (k + 1 + 1) = 2 * M := by rw [hM, Nat.pow_succ, Nat.mul_comm]
    rw [e, hq, e2, ← hM]
    have e3 : (1 + M * q) * (1 + M * q) = 1 + 2 * M * (q + L * q * q) := by
      have : (M * q) * (M * q) = 2 * M * (L * q * q) := by
        rw [show (M * q) * (M * q) = M * (M * q * q) by rw [Nat.mul_assoc, Nat.mul_left_comm q M q, Nat.mul_assoc M q q]]
        rw [show M * q * q = 2 * (L * q * q) by rw [hL, Nat.mul_assoc, Nat.mul_assoc, Nat.mul_assoc L]]
        rw [Nat.mul_left_comm M 2 (L * q * q), Nat.mul_assoc 2 M (L * q * q)]
      rw [Nat.add_mul, Nat.one_mul, Nat.mul_add, Nat.mul_one, this, Nat.mul_add (2 * M), show 2 * M * q = M * q + M * q by rw [Nat.mul_assoc, Nat.two_mul]]
      omega
    rw [e3, Nat.add_mul_mod_self_left, Nat.mod_eq_of_lt]
    have := Nat.two_pow_pos (k + 1)
    omega
/-- What turns the multiplication by g back. -/
def hv (n g : Nat) : Nat := g ^ (n - 1) % (2 * n)
theorem hv_mul {k g : Nat} (hg : g % 2 = 1) : (g * hv (2 ^ k) g) % (2 * 2 ^ k) = 1 := by
  have hp := Nat.two_pow_pos k
  unfold hv
  rw [Nat.mul_mod_mod]
  have e : g * g ^ (2 ^ k - 1) = g ^ (2 ^ k) := by
    rw [Nat.mul_comm, ← Nat.pow_succ]
    congr 1; omega
  rw [e, show 2 * 2 ^ k = 2 ^ (k + 1) by rw [Nat.pow_succ, Nat.mul_comm]]
  exact odd_pow hg k
theorem odd_of_mul {n g h : Nat} (hn : 0 < n) (e : (g * h) % (2 * n) = 1) : h % 2 = 1 := by
  have h1 : (g * h) % 2 = 1 := by
    have : (g * h) % (2 * n) % 2 = (g * h) % 2 := Nat.mod_mod_of_dvd _ ⟨n, rfl⟩
    rw [← this, e]
  rw [Nat.mul_mod] at h1
  rcases Nat.mod_two_eq_zero_or_one h with c | c
  · rw [c, Nat.mul_zero] at h1; omega
  · exact c

/-- A vector goes on with the other sign. -/
def sg (a : List Int) (n m : Nat) : Int := if m % (2 * n) < n then rd a ((m % (2 * n) : Nat) : Int) else -(rd a ((m % (2 * n) - n : Nat) : Int))
theorem sg_congr {a : List Int} {n m m' : Nat} (h : m % (2 * n) = m' % (2 * n)) : sg a n m = sg a n m' := by unfold sg; rw [h]
theorem sg_lt {a : List Int} {n m : Nat} (h : m < n) : sg a n m = rd a (m : Int) := by
  unfold sg; rw [Nat.mod_eq_of_lt (by omega), if_pos h]
theorem add_half {n m : Nat} (hn : 0 < n) : (m + n) % (2 * n) = if m % (2 * n) < n then m % (2 * n) + n else m % (2 * n) - n := by
  have hm := Nat.mod_lt m (show 0 < 2 * n by omega)
  rw [Nat.add_mod, Nat.mod_eq_of_lt (show n < 2 * n by omega)]
  by_cases c : m % (2 * n) < n
  · rw [if_pos c, Nat.mod_eq_of_lt (by omega)]
  · rw [if_neg c, show m % (2 * n) + n = (m % (2 * n) - n) + 2 * n by omega, Nat.add_mod_right, Nat.mod_eq_of_lt (by omega)]
theorem sg_half {a : List Int} {n : Nat} (m : Nat) (hn : 0 < n) : sg a n (m + n) = - sg a n m := by
  have hm := Nat.mod_lt m (show 0 < 2 * n by omega)
  unfold sg
  rw [add_half hn]
  by_cases c : m % (2 * n) < n
  · rw [if_pos c, if_pos c, if_neg (by omega), Nat.add_sub_cancel]
  · rw [if_neg c, if_neg c, if_pos (by omega), Int.neg_neg]
/-- Where element i goes. -/
def pos (n g i : Nat) : Nat := if i * g % (2 * n) < n then i * g % (2 * n) else i * g % (2 * n) - n
theorem pos_lt {n : Nat} (hn : 0 < n) (g i : Nat) : pos n g i < n := by
  have hm := Nat.mod_lt (i * g) (show 0 < 2 * n by omega)
  unfold pos; split <;> omega
theorem mul_back {n g h i : Nat} (e : (g * h) % (2 * n) = 1) : (i * g * h) % (2 * n) = i % (2 * n) := by
  by_cases hn : 2 * n = 0 ∨ 2 * n = 1
  · rcases hn with c | c
    · rw [c, Nat.mod_zero] at e; rw [Nat.mul_assoc, e, Nat.mul_one]
    · omega
  · have : (g * h) % (2 * n) = 1 % (2 * n) := by rw [e, Nat.mod_eq_of_lt (by omega)]
    rw [Nat.mul_assoc, nmul rfl this, Nat.mul_one]
/-- The value that comes to the place of element i. -/
theorem pos_val {a : List Int} {n g h i : Nat} (hi : i < n) (e : (g * h) % (2 * n) = 1) :
    (i * g % (2 * n) < n → sg a n (pos n g i * h) = rd a (i : Int)) ∧ (¬ (i * g % (2 * n) < n) → sg a n (pos n g i * h) = -(rd a (i : Int))) := by
  have hh := odd_of_mul (by omega) e
  unfold pos
  constructor
  · intro c
    rw [if_pos c, ← sg_lt hi]
    apply sg_congr
    rw [Nat.mod_mul_mod, mul_back e]
  · intro c
    rw [if_neg c, ← sg_lt (a := a) hi]
    have h1 : sg a n ((i * g % (2 * n) - n) * h + n) = sg a n i := by
      apply sg_congr
      have h2 : ((i * g % (2 * n) - n) * h + n) % (2 * n) = ((i * g % (2 * n) - n) * h + n * h) % (2 * n) := nadd rfl (odd_half hh).symm
      rw [h2, ← Nat.add_mul, show i * g % (2 * n) - n + n = i * g % (2 * n) by omega, Nat.mod_mul_mod, mul_back e]
    rw [sg_half _ (by omega)] at h1
    omega
/-- Every place is come to. -/
theorem pos_surj {n g h c : Nat} (hc : c < n) (hg : g % 2 = 1) (e : (g * h) % (2 * n) = 1) : ∃ i, i < n ∧ pos n g i = c := by
  have hm := Nat.mod_lt (c * h) (show 0 < 2 * n by omega)
  have e' : (h * g) % (2 * n) = 1 := by rw [Nat.mul_comm]; exact e
  have hb : (c * h % (2 * n) * g) % (2 * n) = c := by rw [Nat.mod_mul_mod, mul_back e', Nat.mod_eq_of_lt (by omega)]
  by_cases q : c * h % (2 * n) < n
  · refine ⟨_, q, ?_⟩
    unfold pos
    rw [hb, if_pos hc]
  · refine ⟨c * h % (2 * n) - n, by omega, ?_⟩
    have h1 : ((c * h % (2 * n) - n) * g + n) % (2 * n) = c := by
      have h2 : ((c * h % (2 * n) - n) * g + n) % (2 * n) = ((c * h % (2 * n) - n) * g + n * g) % (2 * n) := nadd rfl (odd_half hg).symm
      rw [h2, ← Nat.add_mul, show c * h % (2 * n) - n + n = c * h % (2 * n) by omega, hb]
    rw [add_half (by omega)] at h1
    have hm2 := Nat.mod_lt ((c * h % (2 * n) - n) * g) (show 0 < 2 * n by omega)
    unfold pos
    by_cases r : (c * h % (2 * n) - n) * g % (2 * n) < n
    · rw [if_pos r] at h1; omega
    · rw [if_neg r] at h1 ⊢; exact h1
/-- The image. -/
def autS (p : Int) (g : Nat) (a : List Int) : List Int := (List.range a.length).map (fun c => sg a a.length (c * hv a.length g) % p)
theorem autS_len (p : Int) (g : Nat) (a : List Int) : (autS p g a).length = a.length := by simp [autS]
theorem autS_el {p : Int} (hp : 0 < p) (g : Nat) (a : List Int) : El p (autS p g a) := El.map (fun i _ => em_lt hp)
theorem autS_rd {p : Int} {g : Nat} {a : List Int} {c : Nat} (h : c < a.length) : rd (autS p g a) (c : Int) = sg a a.length (c * hv a.length g) % p := by unfold autS; rw [rd_map _ h]
theorem autS_ok {f : Int} {a : List Int} (ha : VecOk f a) (g : Nat) : VecOk f (autS (md f) g a) := by
  obtain ⟨hf, ⟨k, h1, h2, h3⟩, _⟩ := ha
  exact ⟨hf, ⟨k, h1, h2, by rw [autS_len]; exact h3⟩, autS_el (pm_of hf).pos g a⟩
/-- What the loops keep. -/
def auI (p : Int) (a : List Int) (g i : Nat) (out : List Int) : Prop := out.length = a.length ∧ ∀ j, j < i → rd out ((pos a.length g j : Nat) : Int) = sg a a.length (pos a.length g j * hv a.length g) % p
theorem auI_zero {p : Int} {a : List Int} {g : Nat} {out : List Int} (h : out.length = a.length) : auI p a g 0 out := ⟨h, fun j hj => by omega⟩
theorem auI_step {p : Int} {a : List Int} {g i : Nat} {out : List Int} {v : Int} (h : auI p a g i out) (hi : i < a.length) (hv : v = sg a a.length (pos a.length g i * hv a.length g) % p) : auI p a g (i + 1) (out.set (pos a.length g i) v) := by
  refine ⟨by rw [List.length_set]; exact h.1, fun j hj => ?_⟩
  have hp := pos_lt (n := a.length) (by omega) g i
  by_cases c : pos a.length g i = pos a.length g j
  · rw [← c, rd_set_eq (by rw [h.1]; exact hp), hv]
  · rw [rd_set_ne c]
    refine h.2 j ?_
    by_cases c2 : j = i
    · subst c2; exact absurd rfl c
    · omega
theorem auI_end {p : Int} {a : List Int} {k g : Nat} {out : List Int} (hk : a.length = 2 ^ k) (hg : g % 2 = 1) (h : auI p a g a.length out) : out = autS p g a := by
  have e : (g * hv a.length g) % (2 * a.length) = 1 := by rw [hk]; exact hv_mul hg
  refine set_map_rd h.1 (fun c hc => ?_)
  obtain ⟨i, hi, rfl⟩ := pos_surj hc hg e
  exact h.2 i hi

/-! ## the sum over all odd powers -/
def ee (n m c : Nat) : Int := if m % (2 * n) = c then 1 else if m % (2 * n) = c + n then -1 else 0
theorem ee_half {n m c : Nat} (hc : c < n) : ee n (m + n) c = - ee n m c := by
  have hm := Nat.mod_lt m (show 0 < 2 * n by omega)
  unfold ee
  rw [add_half (by omega)]
  by_cases q : m % (2 * n) < n
  · rw [if_pos q, if_neg (by omega)]
    by_cases r : m % (2 * n) = c
    · rw [if_pos (by omega), if_pos r]
    · rw [if_neg (by omega), if_neg r, if_neg (by omega)]; rfl
  · rw [if_neg q]
    by_cases r : m % (2 * n) = c + n
    · rw [if_pos (by omega), if_neg (by omega), if_pos r]; rfl
    · rw [if_neg (by omega), if_neg (by omega), if_neg (by omega), if_neg r]; rfl
theorem ee_congr {n m m' c : Nat} (h : m % (2 * n) = m' % (2 * n)) : ee n m c = ee n m' c := by unfold ee; rw [h]
/-- An element of the image as a sum over all elements. -/
theorem sg_sum {a : List Int} {n g h c : Nat} (hc : c < n) (hg : g % 2 = 1) (e : (g * h) % (2 * n) = 1) : sg a n (c * h) = sm n (fun i => rd a (i : Int) * ee n (i * g) c) := by
  obtain ⟨i, hi, rfl⟩ := pos_surj hc hg e
  have hv := pos_val (a := a) hi e
  have hpl := pos_lt (n := n) (by omega) g i
  rw [sm_one hi (fun j hj hne => ?_)]
  · show _ = rd a (i : Int) * ee n (i * g) (pos n g i)
    by_cases q : i * g % (2 * n) < n
    · rw [hv.1 q]
      unfold ee pos
      rw [if_pos q, if_pos rfl, Int.mul_one]
    · rw [hv.2 q]
      unfold ee pos
      rw [if_neg q, if_neg (by omega), if_pos (by omega), Int.mul_neg, Int.mul_one]
  · show rd a (j : Int) * ee n (j * g) (pos n g i) = 0
    have hj2 : ∀ d, (j * g) % (2 * n) = (i * g + d) % (2 * n) → (j % (2 * n)) = (i + d * h) % (2 * n) := fun d hd => by
      rw [← mul_back (i := j) e, nmul hd rfl, Nat.add_mul, nadd (mul_back e) rfl]
    have h0 : ¬ (j * g % (2 * n) = i * g % (2 * n)) := fun k => by
      have := hj2 0 k
      rw [Nat.zero_mul, Nat.add_zero, Nat.mod_eq_of_lt (by omega), Nat.mod_eq_of_lt (by omega)] at this
      exact hne this
    have h1 : ¬ (j * g % (2 * n) = (i * g + n) % (2 * n)) := fun k => by
      have := hj2 n k
      rw [nadd rfl (odd_half (odd_of_mul (by omega) e)), Nat.mod_eq_of_lt (by omega), Nat.mod_eq_of_lt (by omega)] at this
      omega
    rw [add_half (by omega)] at h1
    have hm := Nat.mod_lt (i * g) (show 0 < 2 * n by omega)
    have hz : ee n (j * g) (pos n g i) = 0 := by
      unfold ee pos
      by_cases q : i * g % (2 * n) < n
      · rw [if_pos q] at h1
        rw [if_pos q, if_neg h0, if_neg h1]
      · rw [if_neg q] at h1
        rw [if_neg q, if_neg h1, if_neg (by omega)]
    rw [hz, Int.mul_zero]
theorem two_adic : ∀ (k i : Nat), 0 < i → i < 2 ^ k → ∃ r u, i * (2 * r) = 2 ^ k * u ∧ u % 2 = 1 := by
  intro k
  induction k with
  | zero => intro i h0 h1; simp at h1; omega
  | succ k ih =>
    intro i h0 h1
    have e : 2 ^ (k + 1) = 2 * 2 ^ k := by rw [Nat.pow_succ, Nat.mul_comm]
    by_cases c : i % 2 = 0
    · obtain ⟨r, u, hr, hu⟩ := ih (i / 2) (by omega) (by omega)
      refine ⟨r, u, ?_, hu⟩
      rw [e, Nat.mul_assoc 2, ← hr, ← Nat.mul_assoc 2 (i / 2), show 2 * (i / 2) = i by omega]
    · exact ⟨2 ^ k, i, by rw [e, Nat.mul_comm], by omega⟩
theorem ee_sum {k i c : Nat} (h0 : 0 < i) (h1 : i < 2 ^ k) (hc : c < 2 ^ k) : sm (2 ^ k) (fun t => ee (2 ^ k) (i * (2 * t + 1)) c) = 0 := by
  obtain ⟨r, u, hr, hu⟩ := two_adic k i h0 h1
  have hp := Nat.two_pow_pos k
  generalize 2 ^ k = n at *
  have ht := sm_turn hp r (fun t => ee n (i * (2 * t + 1)) c)
  have hn : sm n (fun t => (fun t => ee n (i * (2 * t + 1)) c) ((t + r) % n)) = sm n (fun t => - ee n (i * (2 * t + 1)) c) := sm_congr (fun t _ => by
    show ee n (i * (2 * ((t + r) % n) + 1)) c = - ee n (i * (2 * t + 1)) c
    rw [← ee_half hc]
    apply ee_congr
    have e1 : (i * (2 * ((t + r) % n) + 1)) % (2 * n) = (i * (2 * (t + r) + 1)) % (2 * n) := by
      refine nmul rfl (nadd ?_ rfl)
      rw [← Nat.mul_mod_mul_left, Nat.mod_mod]
    rw [e1, show i * (2 * (t + r) + 1) = i * (2 * t + 1) + i * (2 * r) by rw [← Nat.mul_add]; congr 1; omega, hr]
    exact nadd rfl (odd_half hu))
  rw [hn, sm_neg] at ht
  omega
/-- The sum of the images by all odd powers. -/
theorem tr_sum {a : List Int} {k c : Nat} (hc : c < 2 ^ k) : sm (2 ^ k) (fun t => sg a (2 ^ k) (c * hv (2 ^ k) (2 * t + 1))) = if c = 0 then ((2 ^ k : Nat) : Int) * rd a 0 else 0 := by
  have hp := Nat.two_pow_pos k
  by_cases h : c = 0
  · subst h
    rw [if_pos rfl, ← sm_const]
    exact sm_congr (fun t _ => by rw [Nat.zero_mul, sg_lt hp]; rfl)
  · rw [if_neg h]
    have e1 : sm (2 ^ k) (fun t => sg a (2 ^ k) (c * hv (2 ^ k) (2 * t + 1))) = sm (2 ^ k) (fun t => sm (2 ^ k) (fun i => rd a (i : Int) * ee (2 ^ k) (i * (2 * t + 1)) c)) :=
      sm_congr (fun t _ => sg_sum hc (by omega) (hv_mul (by omega)))
    rw [e1, sm_swap]
    refine sm_nil (fun i hi => ?_)
    rw [sm_mul]
    by_cases h0 : i = 0
    · subst h0
      rw [sm_nil (fun t _ => ?_), Int.mul_zero]
      unfold ee
      rw [Nat.zero_mul, Nat.zero_mod, if_neg (by omega), if_neg (by omega)]
    · rw [ee_sum (by omega) hi hc, Int.mul_zero]
end G7
