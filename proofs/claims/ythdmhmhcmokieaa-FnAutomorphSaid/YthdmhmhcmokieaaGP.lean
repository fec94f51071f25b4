import Derived.Test.YthdmhmhcmokieaaGJ
/- The maps of powers are homomorphisms of the twisted ring, and compose. -/
set_option linter.unusedVariables false
namespace G7
open Go.RowKit Go.Proofs.YthdmhmhcmokieaaW.PrintWords Go.Proofs.YthdmhmhcmokieaaW.PrintLast Go.Proofs.YthdmhmhcmokieaaW.PrintMore

theorem sm_perm {n : Nat} {s t : Nat → Nat} (hs : ∀ j, j < n → s j < n) (ht : ∀ i, i < n → t i < n) (hts : ∀ j, j < n → t (s j) = j) (hst : ∀ i, i < n → s (t i) = i) (F : Nat → Int) : sm n (fun j => F (s j)) = sm n F := by
  have h1 : sm n (fun j => F (s j)) = sm n (fun j => sm n (fun i => if i = s j then F i else 0)) := sm_congr (fun j hj => by
    rw [sm_one (hs j hj) (fun i hi hne => if_neg hne), if_pos rfl])
  rw [h1, sm_swap]
  exact sm_congr (fun i hi => by
    rw [sm_one (ht i hi) (fun j hj hne => if_neg (fun c => hne (by rw [c, hts j hj]))), if_pos (hst i hi).symm])
/-- What undoes a product is known modulo 2n. -/
theorem inv_uniq {n g x y : Nat} (hn : 0 < n) (hx : (g * x) % (2 * n) = 1) (hy : (g * y) % (2 * n) = 1) : x % (2 * n) = y % (2 * n) := by
  have h1 : (1 : Nat) % (2 * n) = 1 := Nat.mod_eq_of_lt (by omega)
  have e1 : (g * x * y) % (2 * n) = y % (2 * n) := by rw [nmul (hx.trans h1.symm) rfl, Nat.one_mul]
  have e2 : (g * x * y) % (2 * n) = x % (2 * n) := by rw [Nat.mul_right_comm, nmul (hy.trans h1.symm) rfl, Nat.one_mul]
  rw [← e1, e2]
theorem sg_split {a : List Int} {n m : Nat} (hn : 0 < n) : (m % (2 * n) < n → sg a n m = rd a ((m % (2 * n) : Nat) : Int)) ∧ (¬ (m % (2 * n) < n) → sg a n m = -(rd a ((m % (2 * n) - n : Nat) : Int))) := by
  unfold sg
  exact ⟨fun h => if_pos h, fun h => if_neg h⟩
/-- A list of values of a function with the period 2n that changes its sign by n. -/
theorem sg_list {p : Int} {n : Nat} {a : List Int} {E : Nat → Int} (hn : 0 < n) (hE : ∀ c, c < n → rd a (c : Int) % p = E c % p) (h2 : ∀ m, E (m % (2 * n)) = E m) (h1 : ∀ m, E (m + n) = - E m) (m : Nat) : sg a n m % p = E m % p := by
  have hm := Nat.mod_lt m (show 0 < 2 * n by omega)
  by_cases c : m % (2 * n) < n
  · rw [(sg_split hn).1 c, hE _ c, h2]
  · rw [(sg_split hn).2 c, eneg (hE _ (by omega)), ← h1, show m % (2 * n) - n + n = m % (2 * n) by omega, h2]
theorem sg_aut {p : Int} {k g : Nat} {a : List Int} (hl : a.length = 2 ^ k) (hg : g % 2 = 1) (m : Nat) : sg (autS p g a) (2 ^ k) m % p = sg a (2 ^ k) (m * hv (2 ^ k) g) % p := by
  have hn := Nat.two_pow_pos k
  have hh := odd_of_mul hn (hv_mul (k := k) hg)
  refine sg_list (E := fun m => sg a (2 ^ k) (m * hv (2 ^ k) g)) hn (fun c hc => ?_) (fun m => ?_) (fun m => ?_) m
  · rw [autS_rd (by rw [hl]; exact hc), Int.emod_emod, hl]
  · exact sg_congr (by rw [Nat.mod_mul_mod])
  · show sg a (2 ^ k) ((m + 2 ^ k) * hv (2 ^ k) g) = - sg a (2 ^ k) (m * hv (2 ^ k) g)
    rw [← sg_half _ hn]
    exact sg_congr (by rw [Nat.add_mul]; exact nadd rfl (odd_half hh))
theorem hv_comp {k g h G : Nat} (hg : g % 2 = 1) (hh : h % 2 = 1) (hG : G % (2 * 2 ^ k) = (g * h) % (2 * 2 ^ k)) (c : Nat) : (c * hv (2 ^ k) h * hv (2 ^ k) g) % (2 * 2 ^ k) = (c * hv (2 ^ k) G) % (2 * 2 ^ k) := by
  have hn := Nat.two_pow_pos k
  have h1 : (1 : Nat) % (2 * 2 ^ k) = 1 := Nat.mod_eq_of_lt (by omega)
  have hGo : G % 2 = 1 := by
    have e1 : G % (2 * 2 ^ k) % 2 = G % 2 := Nat.mod_mod_of_dvd _ ⟨2 ^ k, rfl⟩
    have e2 : (g * h) % (2 * 2 ^ k) % 2 = (g * h) % 2 := Nat.mod_mod_of_dvd _ ⟨2 ^ k, rfl⟩
    rw [← e1, hG, e2, Nat.mul_mod, hg, hh]
  rw [Nat.mul_assoc]
  refine nmul rfl (inv_uniq (g := G) hn ?_ (hv_mul hGo))
  rw [nmul hG rfl, show g * h * (hv (2 ^ k) h * hv (2 ^ k) g) = (h * hv (2 ^ k) h) * (g * hv (2 ^ k) g) by rw [Nat.mul_comm (hv (2 ^ k) h), Nat.mul_mul_mul_comm, Nat.mul_comm (g * _)], nmul ((hv_mul hh).trans h1.symm) ((hv_mul hg).trans h1.symm), Nat.one_mul, h1]
theorem aut_aut {p : Int} {k g h G : Nat} {a : List Int} (hl : a.length = 2 ^ k) (hg : g % 2 = 1) (hh : h % 2 = 1) (hG : G % (2 * 2 ^ k) = (g * h) % (2 * 2 ^ k)) : autS p h (autS p g a) = autS p G a := by
  refine ext_rd (by rw [autS_len, autS_len, autS_len]) (fun c hc => ?_)
  rw [autS_len, autS_len] at hc
  rw [autS_rd (by rw [autS_len]; exact hc), autS_rd hc, autS_len, hl, sg_aut hl hg]
  congr 1
  exact sg_congr (hv_comp hg hh hG c)
theorem aut_one {p : Int} (hp : 0 < p) {a : List Int} (ha : El p a) (hn : 0 < a.length) : autS p 1 a = a := by
  refine ext_rd (autS_len _ _ _) (fun c hc => ?_)
  rw [autS_len] at hc
  have h1 : hv a.length 1 = 1 := by unfold hv; rw [Nat.one_pow, Nat.mod_eq_of_lt (by omega)]
  have h2 := ha.rd hp (c : Int)
  rw [autS_rd hc, h1, Nat.mul_one, sg_lt hc, em_id h2.1 h2.2]

/-! ## products -/
theorem tt_sg {a b : List Int} {n c j : Nat} (hc : c < n) (hj : j < n) : tt a b n c j = -(sg a n j * sg b n (c + n - j)) := by
  unfold tt
  rw [sg_lt hj]
  by_cases q : j ≤ c
  · rw [if_pos q, show c + n - j = (c - j) + n by omega, sg_half _ (by omega), sg_lt (by omega), Int.mul_neg, Int.neg_neg]
  · rw [if_neg q, sg_lt (by omega), show c + n - j = n + c - j by omega]
/-- The product's coefficients, for all indices. -/
def tE (a b : List Int) (n m : Nat) : Int := sm n (fun j => -(sg a n j * sg b n (m + n + (2 * n - 1) * j)))
theorem neg_idx {n j : Nat} (hj : j ≤ n) (m : Nat) : (m + n + (2 * n - 1) * j) % (2 * n) = (m + n - j) % (2 * n) := by
  have h : m + n + (2 * n - 1) * j = (m + n - j) + 2 * n * j := by
    rw [Nat.sub_mul, Nat.one_mul]
    have : j ≤ 2 * n * j := by
      by_cases c : j = 0
      · subst c; omega
      · exact Nat.le_mul_of_pos_left j (by omega)
    omega
  rw [h, Nat.add_mul_mod_self_left]
theorem tE_rd {p : Int} {a b : List Int} {c : Nat} (hc : c < a.length) : rd (twS p a b) (c : Int) % p = tE a b a.length c % p := by
  unfold twS tE
  rw [rd_map _ hc, Int.emod_emod]
  congr 1
  exact sm_congr (fun j hj => by rw [tt_sg hc hj, sg_congr (neg_idx (by omega) c)])
theorem tE_mod (a b : List Int) (n m : Nat) : tE a b n (m % (2 * n)) = tE a b n m := by
  unfold tE
  exact sm_congr (fun j _ => by
    congr 2
    refine sg_congr ?_
    rw [Nat.add_assoc, Nat.mod_add_mod, ← Nat.add_assoc])
theorem tE_half (a b : List Int) {n : Nat} (hn : 0 < n) (m : Nat) : tE a b n (m + n) = - tE a b n m := by
  unfold tE
  rw [← sm_neg]
  exact sm_congr (fun j _ => by
    rw [show m + n + n + (2 * n - 1) * j = (m + n + (2 * n - 1) * j) + n by omega, sg_half _ hn, Int.mul_neg])
/-- The image of a product. -/
theorem aut_mul {p : Int} {k g : Nat} {a b : List Int} (hl : a.length = 2 ^ k) (hb : b.length = 2 ^ k) (hg : g % 2 = 1) : autS p g (twS p a b) = twS p (autS p g a) (autS p g b) := by
  have hn := Nat.two_pow_pos k
  have hgh := hv_mul (k := k) hg
  have hh := odd_of_mul hn hgh
  refine ext_rd (by rw [autS_len, twS_len, twS_len, autS_len]) (fun c hc => ?_)
  rw [autS_len, twS_len] at hc
  have hid : ∀ x : Int, x % p % p = x % p := fun x => Int.emod_emod _ _
  have e1 : rd (autS p g (twS p a b)) (c : Int) = tE a b (2 ^ k) (c * hv (2 ^ k) g) % p := by
    rw [autS_rd (by rw [twS_len]; exact hc), twS_len, hl]
    exact sg_list (E := tE a b (2 ^ k)) hn (fun i hi => by rw [tE_rd (by omega), hl]) (tE_mod a b _) (tE_half a b hn) _
  have e2 : rd (twS p (autS p g a) (autS p g b)) (c : Int) = tE (autS p g a) (autS p g b) (2 ^ k) c % p := by
    have h1 := tE_rd (p := p) (a := autS p g a) (b := autS p g b) (c := c) (by rw [autS_len]; exact hc)
    rw [autS_len, hl] at h1
    rw [← h1]
    unfold twS
    rw [rd_map _ (by rw [autS_len]; exact hc), hid]
  rw [e1, e2]
  have hhn : (hv (2 ^ k) g * g) % (2 * 2 ^ k) = 1 := by rw [Nat.mul_comm]; exact hgh
  have hmn : ∀ x y : Nat, x % (2 * 2 ^ k) = y % (2 * 2 ^ k) → x % 2 ^ k = y % 2 ^ k := fun x y q => by
    have e : ∀ z : Nat, z % (2 * 2 ^ k) % 2 ^ k = z % 2 ^ k := fun z => Nat.mod_mod_of_dvd _ ⟨2, by rw [Nat.mul_comm]⟩
    rw [← e x, q, e y]
  have hper := sm_perm (n := 2 ^ k) (s := fun j => (j * hv (2 ^ k) g) % 2 ^ k) (t := fun i => (i * g) % 2 ^ k) (fun j _ => Nat.mod_lt _ hn) (fun j _ => Nat.mod_lt _ hn)
    (fun j hj => by
      show (j * hv (2 ^ k) g) % 2 ^ k * g % 2 ^ k = j
      rw [Nat.mod_mul_mod, hmn _ _ (mul_back hhn), Nat.mod_eq_of_lt hj])
    (fun j hj => by
      show (j * g) % 2 ^ k * hv (2 ^ k) g % 2 ^ k = j
      rw [Nat.mod_mul_mod, hmn _ _ (mul_back hgh), Nat.mod_eq_of_lt hj])
    (fun x => -(sg a (2 ^ k) x * sg b (2 ^ k) (c * hv (2 ^ k) g + 2 ^ k + (2 * 2 ^ k - 1) * x)))
  unfold tE
  rw [← hper]
  refine sm_econgr (fun j hj => ?_)
  show (-(sg a (2 ^ k) (j * hv (2 ^ k) g % 2 ^ k) * sg b (2 ^ k) (c * hv (2 ^ k) g + 2 ^ k + (2 * 2 ^ k - 1) * (j * hv (2 ^ k) g % 2 ^ k)))) % p = _
  have hodd : (2 * 2 ^ k - 1) % 2 = 1 := by omega
  have hP : ∀ x d : Nat, sg a (2 ^ k) (x + 2 ^ k * d) * sg b (2 ^ k) (c * hv (2 ^ k) g + 2 ^ k + (2 * 2 ^ k - 1) * (x + 2 ^ k * d)) = sg a (2 ^ k) x * sg b (2 ^ k) (c * hv (2 ^ k) g + 2 ^ k + (2 * 2 ^ k - 1) * x) := by
    intro x d
    induction d with
    | zero => rw [Nat.mul_zero, Nat.add_zero]
    | succ d ih =>
      rw [← ih, show x + 2 ^ k * (d + 1) = x + 2 ^ k * d + 2 ^ k by rw [Nat.mul_succ]; omega, sg_half _ hn]
      have e : sg b (2 ^ k) (c * hv (2 ^ k) g + 2 ^ k + (2 * 2 ^ k - 1) * (x + 2 ^ k * d + 2 ^ k)) = - sg b (2 ^ k) (c * hv (2 ^ k) g + 2 ^ k + (2 * 2 ^ k - 1) * (x + 2 ^ k * d)) := by
        rw [← sg_half _ hn]
        refine sg_congr ?_
        rw [Nat.mul_add (2 * 2 ^ k - 1) (x + 2 ^ k * d), ← Nat.add_assoc]
        exact nadd rfl (by rw [Nat.mul_comm]; exact odd_half hodd)
      rw [e, Int.neg_mul_neg]
  have e3 := hP (j * hv (2 ^ k) g % 2 ^ k) (j * hv (2 ^ k) g / 2 ^ k)
  rw [show j * hv (2 ^ k) g % 2 ^ k + 2 ^ k * (j * hv (2 ^ k) g / 2 ^ k) = j * hv (2 ^ k) g from Nat.mod_add_div _ _] at e3
  rw [← e3]
  refine eneg ?_
  have f1 := sg_aut (p := p) hl hg j
  have f2 := sg_aut (p := p) hb hg (c + 2 ^ k + (2 * 2 ^ k - 1) * j)
  rw [emul f1 f2]
  congr 2
  refine sg_congr ?_
  rw [Nat.add_mul, Nat.add_mul, Nat.mul_assoc (2 * 2 ^ k - 1)]
  exact nadd (nadd rfl (odd_half hh).symm) rfl
end G7
