import Derived.Test.YtgjogfohknjpmaaGJ
/- The transform: roots of unity, the reversal of an index's bits, the stages, the sum over all powers of a root. -/
set_option linter.unusedVariables false
namespace G7
open Go.RowKit Go.Proofs.YtgjogfohknjpmaaW.PrintWords Go.Proofs.YtgjogfohknjpmaaW.PrintLast Go.Proofs.YtgjogfohknjpmaaW.PrintMore

/-! ## roots -/
def eK (f : Int) (k : Nat) : Nat := (oddP f).toNat * 2 ^ ((tp f).toNat - k)
def rtf (f : Int) (k : Nat) : Int := gn f ^ eK f k % md f
theorem rtf_lt {f : Int} (h : 0 ≤ f ∧ f < 9) (k : Nat) : 0 ≤ rtf f k ∧ rtf f k < md f := em_lt (pm_of h).pos
theorem gn_half {f : Int} (h : 0 ≤ f ∧ f < 9) : gn f ^ eK f 1 % md f = (-1) % md f := by
  have key : ∀ (p g e : Nat), e < 2 ^ 31 → pwm p 31 g e = p - 1 → 2 ≤ p → (g : Int) ^ e % (p : Int) = (-1) % (p : Int) := fun p g e he hh hp => by
    rw [pwm_int 31 g e he, hh]
    rw [show ((p - 1 : Nat) : Int) = -1 + (p : Int) by omega]
    rw [← Int.add_emod_right (-1), em_id (by omega) (by omega)]
  rcases fcases h.1 h.2 with e | e | e | e | e | e | e | e | e <;> subst e
  · exact key 17 3 8 (by decide) (by decide +kernel) (by decide)
  · exact key 97 5 48 (by decide) (by decide +kernel) (by decide)
  · exact key 193 5 96 (by decide) (by decide +kernel) (by decide)
  · exact key 257 3 128 (by decide) (by decide +kernel) (by decide)
  · exact key 7681 17 3840 (by decide) (by decide +kernel) (by decide)
  · exact key 12289 11 6144 (by decide) (by decide +kernel) (by decide)
  · exact key 998244353 3 499122176 (by decide) (by decide +kernel) (by decide)
  · exact key 469762049 3 234881024 (by decide) (by decide +kernel) (by decide)
  · exact key 1004535809 3 502267904 (by decide) (by decide +kernel) (by decide)
theorem eK_step {f : Int} {k : Nat} (h : k + 1 ≤ (tp f).toNat) : eK f k = eK f (k + 1) * 2 := by
  unfold eK
  rw [show (tp f).toNat - k = (tp f).toNat - (k + 1) + 1 by omega, Nat.pow_succ, Nat.mul_assoc]
theorem eK_pow {f : Int} {k : Nat} (hk : 1 ≤ k) (h : k ≤ (tp f).toNat) : eK f 1 = eK f k * 2 ^ (k - 1) := by
  unfold eK
  rw [Nat.mul_assoc, ← Nat.pow_add, show (tp f).toNat - k + (k - 1) = (tp f).toNat - 1 by omega]
/-- What is asked of a root of unity of order 2 to the k. -/
def RootK (p w : Int) (k : Nat) : Prop := w ^ (2 ^ k) % p = 1 % p ∧ (1 ≤ k → w ^ (2 ^ (k - 1)) % p = (-1) % p)
theorem rtf_root {f : Int} (h : 0 ≤ f ∧ f < 9) {k : Nat} (hk : (k : Int) ≤ tp f) : RootK (md f) (rtf f k) k := by
  have hb := (isF h.1 h.2).bounds
  have half : ∀ j, 1 ≤ j → j ≤ (tp f).toNat → rtf f j ^ (2 ^ (j - 1)) % md f = (-1) % md f := fun j h1 h2 => by
    unfold rtf
    rw [epow_l, ← ipow_mul, ← eK_pow h1 h2]
    exact gn_half h
  refine ⟨?_, fun h1 => half k h1 (by omega)⟩
  by_cases c : k = 0
  · subst c
    unfold rtf
    rw [epow_l, ← ipow_mul, eK_step (f := f) (k := 0) (by omega), Nat.pow_zero, Nat.mul_one, ipow_mul]
    rw [epow 2 (gn_half h)]; rfl
  · have e : rtf f k ^ (2 ^ k) = (rtf f k ^ (2 ^ (k - 1))) ^ 2 := by
      rw [← ipow_mul, ← Nat.pow_succ, show (k - 1).succ = k by omega]
    rw [e, epow 2 (half k (by omega) (by omega))]; rfl
theorem rtf_sq {f : Int} (h : 0 ≤ f ∧ f < 9) {k : Nat} (hk : ((k + 1 : Nat) : Int) ≤ tp f) : rtf f (k + 1) ^ 2 % md f = rtf f k % md f := by
  unfold rtf
  rw [epow_l, Int.emod_emod, ← ipow_mul, ← eK_step (by omega)]
theorem root_mod {p w : Int} {n : Nat} (h : w ^ n % p = 1 % p) (e : Nat) : w ^ (e % n) % p = w ^ e % p := by
  have e1 : w ^ e = w ^ (e % n) * (w ^ n) ^ (e / n) := by
    rw [← ipow_mul, ← ipow_add]; congr 1; have := Nat.mod_add_div e n; omega
  have e2 : (w ^ n) ^ (e / n) % p = 1 % p := by rw [epow _ h, ipow_one]
  rw [e1, emul rfl e2, Int.mul_one]

/-! ## the sum over all powers -/
theorem neg_pow_odd {p w : Int} (h : w % p = (-1) % p) {u : Nat} (hu : u % 2 = 1) : w ^ u % p = (-1) % p := by
  rw [epow u h]
  have : (-1 : Int) ^ u = -1 := by
    rw [show u = 2 * (u / 2) + 1 by omega, Int.pow_succ, ipow_mul]
    rw [show (-1 : Int) ^ 2 = 1 from rfl, ipow_one]; rfl
  rw [this]
theorem half_zero {p s : Int} (hp : p % 2 = 1) (h : s % p = (-s) % p) : s % p = 0 := by
  have h1 : (s + s) % p = 0 := by rw [eadd rfl h, Int.add_right_neg, Int.zero_emod]
  obtain ⟨c, hc⟩ := Int.dvd_of_emod_eq_zero h1
  have hc2 : c % 2 = 0 := by
    have : (s + s) % 2 = 0 := by omega
    rw [hc, Int.mul_emod, hp, Int.one_mul, Int.emod_emod] at this
    exact this
  have : s = p * (c / 2) := by
    have h3 : c = 2 * (c / 2) := by omega
    rw [h3, Int.mul_left_comm] at hc
    omega
  rw [this]; exact Int.mul_emod_right _ _
theorem orth {p w : Int} {k : Nat} (hp : p % 2 = 1) (hw : RootK p w k) (d : Nat) : sm (2 ^ k) (fun i => w ^ (i * d)) % p = (if d % 2 ^ k = 0 then ((2 ^ k : Nat) : Int) else 0) % p := by
  have hn := Nat.two_pow_pos k
  by_cases h0 : d % 2 ^ k = 0
  · rw [if_pos h0]
    have e : ∀ i, i < 2 ^ k → w ^ (i * d) % p = 1 % p := fun i _ => by
      rw [← root_mod hw.1, Nat.mul_mod, h0, Nat.mul_zero, Nat.zero_mod, Int.pow_zero]
    rw [sm_econgr e, sm_const, Int.mul_one]
  · rw [if_neg h0, Int.zero_emod]
    obtain ⟨r, u, hr, hu⟩ := two_adic k (d % 2 ^ k) (by omega) (Nat.mod_lt _ hn)
    have hk : 1 ≤ k := by
      by_cases c : k = 0
      · subst c; rw [Nat.pow_zero, Nat.mod_one] at h0; omega
      · omega
    have e2 : 2 ^ k = 2 ^ (k - 1) * 2 := by rw [← Nat.pow_succ, show (k - 1).succ = k by omega]
    have hr2 : r * (d % 2 ^ k) = 2 ^ (k - 1) * u := by
      have h3 : (d % 2 ^ k) * (2 * r) = 2 * (r * (d % 2 ^ k)) := by rw [Nat.mul_left_comm, Nat.mul_comm r]
      have h4 : 2 ^ k * u = 2 * (2 ^ (k - 1) * u) := by rw [e2, Nat.mul_comm (2 ^ (k - 1)), Nat.mul_assoc]
      omega
    have hm : w ^ (r * d) % p = (-1) % p := by
      rw [← root_mod hw.1, Nat.mul_mod, ← Nat.mul_mod_mod, Nat.mod_mod, ← root_mod hw.1 (r % 2 ^ k * (d % 2 ^ k) % 2 ^ k), Nat.mod_mod, Nat.mod_mul_mod, root_mod hw.1, hr2, ipow_mul]
      exact neg_pow_odd (hw.2 hk) hu
    have ht := sm_turn hn r (fun i => w ^ (i * d))
    have hs : sm (2 ^ k) (fun i => (fun i => w ^ (i * d)) ((i + r) % 2 ^ k)) % p = (- sm (2 ^ k) (fun i => w ^ (i * d))) % p := by
      rw [← sm_neg]
      refine sm_econgr (fun i _ => ?_)
      show w ^ ((i + r) % 2 ^ k * d) % p = (- w ^ (i * d)) % p
      rw [← root_mod hw.1, Nat.mod_mul_mod, root_mod hw.1, Nat.add_mul, ipow_add, emul rfl hm, Int.mul_neg, Int.mul_one]
    rw [ht] at hs
    exact half_zero hp hs

/-! ## the transform by its sum -/
def dft (w : Int) (n : Nat) (a : List Int) (c : Nat) : Int := sm n (fun j => rd a (j : Int) * w ^ (c * j))
def dftS (p w : Int) (a : List Int) : List Int := (List.range a.length).map (fun c => dft w a.length a c % p)
theorem dftS_len (p w : Int) (a : List Int) : (dftS p w a).length = a.length := by simp [dftS]
theorem dftS_el {p : Int} (hp : 0 < p) (w : Int) (a : List Int) : El p (dftS p w a) := El.map (fun i _ => em_lt hp)
theorem dftS_rd {p w : Int} {a : List Int} {c : Nat} (h : c < a.length) : rd (dftS p w a) (c : Int) = dft w a.length a c % p := by unfold dftS; rw [rd_map _ h]
theorem dftS_ok {f : Int} {a : List Int} (ha : VecOk f a) (w : Int) : VecOk f (dftS (md f) w a) := by
  obtain ⟨hf, ⟨k, h1, h2, h3⟩, _⟩ := ha
  exact ⟨hf, ⟨k, h1, h2, by rw [dftS_len]; exact h3⟩, dftS_el (pm_of hf).pos w a⟩

/-! ## the reversal of bits -/
def rv : Nat → Nat → Nat
  | 0, _ => 0
  | m + 1, x => (x % 2) * 2 ^ m + rv m (x / 2)
theorem rv_lt : ∀ (m x : Nat), rv m x < 2 ^ m
  | 0, x => by simp [rv]
  | m + 1, x => by
    have := rv_lt m (x / 2)
    unfold rv
    rw [Nat.pow_succ]
    rcases Nat.mod_two_eq_zero_or_one x with h | h <;> rw [h] <;> omega
theorem rv_top : ∀ (m x e : Nat), x < 2 ^ m → e < 2 → rv (m + 1) (x + e * 2 ^ m) = 2 * rv m x + e := by
  intro m
  induction m with
  | zero =>
    intro x e hx he
    simp at hx
    subst hx
    simp [rv]; omega
  | succ m ih =>
    intro x e hx he
    rw [Nat.pow_succ] at hx
    have h1 : (x + e * 2 ^ (m + 1)) % 2 = x % 2 := by rw [Nat.pow_succ, ← Nat.mul_assoc]; omega
    have h2 : (x + e * 2 ^ (m + 1)) / 2 = x / 2 + e * 2 ^ m := by rw [Nat.pow_succ, ← Nat.mul_assoc]; omega
    show ((x + e * 2 ^ (m + 1)) % 2) * 2 ^ (m + 1) + rv (m + 1) ((x + e * 2 ^ (m + 1)) / 2) = 2 * ((x % 2) * 2 ^ m + rv m (x / 2)) + e
    rw [h1, h2, ih (x / 2) e (by omega) he, Nat.pow_succ, ← Nat.mul_assoc]
    omega
theorem rv_rv : ∀ (m x : Nat), x < 2 ^ m → rv m (rv m x) = x := by
  intro m
  induction m with
  | zero => intro x hx; simp at hx; subst hx; rfl
  | succ m ih =>
    intro x hx
    rw [Nat.pow_succ] at hx
    have e : rv (m + 1) x = rv m (x / 2) + (x % 2) * 2 ^ m := by show (x % 2) * 2 ^ m + rv m (x / 2) = _; omega
    rw [e, rv_top m _ _ (rv_lt m _) (Nat.mod_lt _ (by decide)), ih _ (by omega)]
    omega
theorem rv_even (m b : Nat) : rv (m + 1) (2 * b) = rv m b := by
  show (2 * b % 2) * 2 ^ m + rv m (2 * b / 2) = rv m b
  rw [Nat.mul_mod_right, Nat.zero_mul, Nat.zero_add, Nat.mul_div_cancel_left _ (by decide)]
theorem rv_odd (m b : Nat) : rv (m + 1) (2 * b + 1) = rv m b + 2 ^ m := by
  show ((2 * b + 1) % 2) * 2 ^ m + rv m ((2 * b + 1) / 2) = rv m b + 2 ^ m
  rw [show (2 * b + 1) % 2 = 1 by omega, show (2 * b + 1) / 2 = b by omega]; omega

/-! ## the stages -/
/-- Element c of the block b, when s stages are done: a transform of every 2^(k-s)th element. -/
def stV (w : Int) (k s : Nat) (a : List Int) (b c : Nat) : Int := sm (2 ^ s) (fun m => rd a ((rv (k - s) b + 2 ^ (k - s) * m : Nat) : Int) * w ^ (c * m))
theorem stV_zero (w : Int) (k : Nat) (a : List Int) (b : Nat) : stV w k 0 a b 0 = rd a ((rv k b : Nat) : Int) := by
  unfold stV
  rw [Nat.pow_zero, sm_succ, sm_zero, Nat.mul_zero, Nat.sub_zero, Nat.mul_zero, Nat.add_zero, Int.pow_zero, Int.mul_one, Int.zero_add]
theorem stV_end (w : Int) (k : Nat) (a : List Int) (c : Nat) : stV w k k a 0 c = dft w (2 ^ k) a c := by
  unfold stV dft
  exact sm_congr (fun m _ => by rw [Nat.sub_self, Nat.pow_zero, Nat.one_mul]; congr 2; show ((0 + m : Nat) : Int) = _; rw [Nat.zero_add])
theorem stV_split {p w v : Int} {k s : Nat} (hs : s < k) (hv : v ^ 2 % p = w % p) (a : List Int) (b c : Nat) :
    stV v k (s + 1) a b c % p = (stV w k s a (2 * b) c + stV w k s a (2 * b + 1) c * v ^ c) % p := by
  have hk : k - s = k - (s + 1) + 1 := by omega
  have hpw : ∀ m, v ^ (c * (2 * m)) % p = w ^ (c * m) % p := fun m => by
    rw [show c * (2 * m) = 2 * (c * m) by rw [Nat.mul_left_comm], ipow_mul, epow _ hv]
  unfold stV
  rw [show 2 ^ (s + 1) = 2 * 2 ^ s by rw [Nat.pow_succ, Nat.mul_comm], sm_even_odd, hk, rv_even, rv_odd, ← sm_mul_r]
  refine eadd (sm_econgr (fun m _ => ?_)) (sm_econgr (fun m _ => ?_))
  · refine emul ?_ (hpw m)
    rw [Nat.pow_succ, Nat.mul_assoc]
  · have e1 : v ^ (c * (2 * m + 1)) = v ^ (c * (2 * m)) * v ^ c := by rw [← ipow_add, Nat.mul_add, Nat.mul_one]
    rw [e1, Int.mul_assoc]
    refine emul ?_ (emul (hpw m) rfl)
    rw [Nat.pow_succ, Nat.mul_assoc, Nat.mul_add, Nat.mul_one]
    congr 3; omega
theorem stV_turn {p w : Int} {k s : Nat} (hw : w ^ (2 ^ s) % p = 1 % p) (a : List Int) (b c : Nat) : stV w k s a b (c + 2 ^ s) % p = stV w k s a b c % p := by
  unfold stV
  refine sm_econgr (fun m _ => emul rfl ?_)
  rw [Nat.add_mul, ipow_add, ipow_mul w (2 ^ s) m]
  have : (w ^ (2 ^ s)) ^ m % p = 1 % p := by rw [epow m hw, ipow_one]
  rw [emul rfl this, Int.mul_one]
/-- The upper half of a block. -/
theorem stV_upper {p w v : Int} {k s : Nat} (hs : s < k) (hv : v ^ 2 % p = w % p) (hw : w ^ (2 ^ s) % p = 1 % p) (hh : v ^ (2 ^ s) % p = (-1) % p) (a : List Int) (b c : Nat) :
    stV v k (s + 1) a b (c + 2 ^ s) % p = (stV w k s a (2 * b) c - stV w k s a (2 * b + 1) c * v ^ c) % p := by
  rw [stV_split hs hv, Int.sub_eq_add_neg]
  refine eadd (stV_turn hw a _ c) ?_
  rw [ipow_add, ← Int.mul_neg]
  refine emul (stV_turn hw a _ c) ?_
  rw [emul rfl hh, Int.mul_neg, Int.mul_one]

/-- One stage over a list. -/
def stF (p v : Int) (h : Nat) (x : List Int) (i : Nat) : Int :=
  if i % (2 * h) < h then (rd x ((2 * h * (i / (2 * h)) + i % (2 * h) % h : Nat) : Int) + rd x ((2 * h * (i / (2 * h)) + i % (2 * h) % h + h : Nat) : Int) * v ^ (i % (2 * h) % h)) % p
  else (rd x ((2 * h * (i / (2 * h)) + i % (2 * h) % h : Nat) : Int) - rd x ((2 * h * (i / (2 * h)) + i % (2 * h) % h + h : Nat) : Int) * v ^ (i % (2 * h) % h)) % p
def stgS (p v : Int) (h : Nat) (x : List Int) : List Int := (List.range x.length).map (stF p v h x)
theorem stgS_len (p v : Int) (h : Nat) (x : List Int) : (stgS p v h x).length = x.length := by simp [stgS]
theorem stF_lo {p v : Int} {h b j : Nat} (x : List Int) (hj : j < h) : stF p v h x (2 * h * b + j) = (rd x ((2 * h * b + j : Nat) : Int) + rd x ((2 * h * b + j + h : Nat) : Int) * v ^ j) % p := by
  unfold stF
  rw [Nat.mul_add_mod, Nat.mod_eq_of_lt (show j < 2 * h by omega), if_pos hj, Nat.mod_eq_of_lt hj, Nat.mul_add_div (by omega), Nat.div_eq_of_lt (show j < 2 * h by omega), Nat.add_zero]
theorem stF_hi {p v : Int} {h b j : Nat} (x : List Int) (hj : j < h) : stF p v h x (2 * h * b + j + h) = (rd x ((2 * h * b + j : Nat) : Int) - rd x ((2 * h * b + j + h : Nat) : Int) * v ^ j) % p := by
  unfold stF
  rw [Nat.add_assoc, Nat.mul_add_mod, Nat.mod_eq_of_lt (show j + h < 2 * h by omega), if_neg (by omega), Nat.add_mod_right, Nat.mod_eq_of_lt hj, Nat.mul_add_div (by omega), Nat.div_eq_of_lt (show j + h < 2 * h by omega), Nat.add_zero, Nat.add_assoc]
/-- An index in a block of 2h: its lower or upper half. -/
theorem blk_cases {h i : Nat} (hh : 0 < h) : ∃ b j, j < h ∧ (i = 2 * h * b + j ∨ i = 2 * h * b + j + h) := by
  have hm := Nat.mod_lt i (show 0 < 2 * h by omega)
  have hd := Nat.mod_add_div i (2 * h)
  by_cases c : i % (2 * h) < h
  · exact ⟨i / (2 * h), i % (2 * h), c, Or.inl (by omega)⟩
  · exact ⟨i / (2 * h), i % (2 * h) - h, by omega, Or.inr (by omega)⟩
/-- The list when s stages are done. -/
def stS (p w : Int) (k s : Nat) (a : List Int) : List Int := (List.range (2 ^ k)).map (fun i => stV w k s a (i / 2 ^ s) (i % 2 ^ s) % p)
theorem stS_len (p w : Int) (k s : Nat) (a : List Int) : (stS p w k s a).length = 2 ^ k := by simp [stS]
theorem stS_el {p : Int} (hp : 0 < p) (w : Int) (k s : Nat) (a : List Int) : El p (stS p w k s a) := El.map (fun i _ => em_lt hp)
theorem stS_rd {p w : Int} {k s i : Nat} {a : List Int} (h : i < 2 ^ k) : rd (stS p w k s a) (i : Int) = stV w k s a (i / 2 ^ s) (i % 2 ^ s) % p := by unfold stS; rw [rd_map _ h]
theorem stS_step {p w v : Int} {k s : Nat} (hs : s < k) (hv : v ^ 2 % p = w % p) (hw : w ^ (2 ^ s) % p = 1 % p) (hh : v ^ (2 ^ s) % p = (-1) % p) (a : List Int) : stgS p v (2 ^ s) (stS p w k s a) = stS p v k (s + 1) a := by
  have hpos := Nat.two_pow_pos s
  have e2 : 2 ^ (s + 1) = 2 * 2 ^ s := by rw [Nat.pow_succ, Nat.mul_comm]
  have en : 2 ^ k = 2 * 2 ^ s * 2 ^ (k - (s + 1)) := by rw [← e2, ← Nat.pow_add, show s + 1 + (k - (s + 1)) = k by omega]
  unfold stgS
  rw [stS_len]
  refine map_congr_range (fun i hi => ?_)
  show stF p v (2 ^ s) (stS p w k s a) i = stV v k (s + 1) a (i / 2 ^ (s + 1)) (i % 2 ^ (s + 1)) % p
  rw [e2]
  obtain ⟨b, j, hj, e⟩ := blk_cases (h := 2 ^ s) (i := i) hpos
  have hb : 2 * 2 ^ s * b + 2 * 2 ^ s ≤ 2 ^ k := by
    have hbl : b < 2 ^ (k - (s + 1)) := by
      rw [en] at hi
      exact Nat.lt_of_mul_lt_mul_left (a := 2 * 2 ^ s) (by omega)
    have := Nat.mul_le_mul_left (2 * 2 ^ s) hbl
    rw [en, Nat.mul_succ] at *
    omega
  have r1 : rd (stS p w k s a) ((2 * 2 ^ s * b + j : Nat) : Int) = stV w k s a (2 * b) j % p := by
    rw [stS_rd (by omega), show 2 * 2 ^ s * b + j = 2 ^ s * (2 * b) + j by rw [Nat.mul_comm 2, Nat.mul_assoc], Nat.mul_add_mod, Nat.mod_eq_of_lt hj, Nat.mul_add_div hpos, Nat.div_eq_of_lt hj, Nat.add_zero]
  have r2 : rd (stS p w k s a) ((2 * 2 ^ s * b + j + 2 ^ s : Nat) : Int) = stV w k s a (2 * b + 1) j % p := by
    rw [stS_rd (by omega), show 2 * 2 ^ s * b + j + 2 ^ s = 2 ^ s * (2 * b + 1) + j by rw [Nat.mul_comm 2, Nat.mul_assoc, Nat.mul_add, Nat.mul_one]; omega, Nat.mul_add_mod, Nat.mod_eq_of_lt hj, Nat.mul_add_div hpos, Nat.div_eq_of_lt hj, Nat.add_zero]
  rcases e with e | e
  · subst e
    rw [stF_lo _ hj, r1, r2, Nat.mul_add_mod, Nat.mod_eq_of_lt (show j < 2 * 2 ^ s by omega), Nat.mul_add_div (by omega), Nat.div_eq_of_lt (show j < 2 * 2 ^ s by omega), Nat.add_zero, stV_split hs hv, eadd_l]
    exact eadd rfl emul_l
  · subst e
    rw [stF_hi _ hj, r1, r2, Nat.add_assoc, Nat.mul_add_mod, Nat.mod_eq_of_lt (show j + 2 ^ s < 2 * 2 ^ s by omega), Nat.mul_add_div (by omega), Nat.div_eq_of_lt (show j + 2 ^ s < 2 * 2 ^ s by omega), Nat.add_zero, stV_upper hs hv hw hh, esub_l]
    exact esub rfl emul_l
/-- The list in the order of the reversed indices. -/
def prmS (k : Nat) (a : List Int) : List Int := (List.range (2 ^ k)).map (fun i => rd a ((rv k i : Nat) : Int))
theorem prmS_len (k : Nat) (a : List Int) : (prmS k a).length = 2 ^ k := by simp [prmS]
theorem prmS_el {p : Int} (hp : 0 < p) {k : Nat} {a : List Int} (h : El p a) : El p (prmS k a) := El.map (fun i _ => h.rd hp _)
theorem prmS_st {p : Int} (hp : 0 < p) (w : Int) {k : Nat} {a : List Int} (h : El p a) : prmS k a = stS p w k 0 a := by
  unfold prmS stS
  refine map_congr_range (fun i hi => ?_)
  show _ = stV w k 0 a (i / 2 ^ 0) (i % 2 ^ 0) % p
  rw [Nat.pow_zero, Nat.div_one, Nat.mod_one, stV_zero]
  have := h.rd hp ((rv k i : Nat) : Int)
  rw [em_id this.1 this.2]
theorem stS_end {p w : Int} {k : Nat} {a : List Int} (hl : a.length = 2 ^ k) : stS p w k k a = dftS p w a := by
  unfold stS dftS
  rw [hl]
  refine map_congr_range (fun i hi => ?_)
  rw [Nat.div_eq_of_lt hi, Nat.mod_eq_of_lt hi, stV_end]
/-- The list of a field's transform. -/
def fwS (f : Int) (a : List Int) : List Int := dftS (md f) (rtf f (lg (a.length : Int)).toNat) a
theorem fwS_len (f : Int) (a : List Int) : (fwS f a).length = a.length := dftS_len _ _ _
theorem fwS_eq {f : Int} {a : List Int} {k : Nat} (hk : k ≤ 9) (hl : a.length = 2 ^ k) : fwS f a = dftS (md f) (rtf f k) a := by
  unfold fwS
  rw [hl, lg_pow hk, Int.toNat_natCast]
theorem fwS_ok {f : Int} {a : List Int} (h : VecOk f a) : VecOk f (fwS f a) := dftS_ok h _

/-! ## back -/
def bckS (p w : Int) (a : List Int) : List Int := (List.range a.length).map (fun c => dft w a.length a ((a.length - c) % a.length) * inv p ((a.length : Int) % p) % p)
theorem bckS_len (p w : Int) (a : List Int) : (bckS p w a).length = a.length := by simp [bckS]
theorem bckS_el {p : Int} (hp : 0 < p) (w : Int) (a : List Int) : El p (bckS p w a) := El.map (fun i _ => em_lt hp)
theorem bckS_rd {p w : Int} {a : List Int} {c : Nat} (h : c < a.length) : rd (bckS p w a) (c : Int) = dft w a.length a ((a.length - c) % a.length) * inv p ((a.length : Int) % p) % p := by unfold bckS; rw [rd_map _ h]
/-- The elements of a transform, weighted and summed: a sum over those whose index comes out right. -/
theorem dft_at {p w : Int} {n : Nat} {a : List Int} {c : Nat} (hw : w ^ n % p = 1 % p) : dft w n a (c % n) % p = dft w n a c % p := by
  unfold dft
  exact sm_econgr (fun j _ => emul rfl (by
    rw [← root_mod hw (c % n * j), Nat.mod_mul_mod, root_mod hw]))
end G7
