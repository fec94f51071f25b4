import Derived.Test.YtmhkloeenmnlhaaGG
/- Powers of series, roots, logarithms, exponentials, substitution. -/
set_option linter.unusedVariables false
namespace G7
open Go.RowKit Go.Proofs.YtmhkloeenmnlhaaW.PrintWords Go.Proofs.YtmhkloeenmnlhaaW.PrintLast Go.Proofs.YtmhkloeenmnlhaaW.PrintMore

theorem cm_swap4 (a b c d : Nat → Int) : cm (cm a b) (cm c d) = cm (cm a c) (cm b d) := by
  rw [cm_assoc, cm_assoc a c, ← cm_assoc b c d, cm_comm b c, cm_assoc c b d]
/-- Powers. -/
def cpw (f : Nat → Int) : Nat → (Nat → Int)
  | 0 => sOne
  | n + 1 => cm (cpw f n) f
theorem cpw_succ (f : Nat → Int) (n : Nat) : cpw f (n + 1) = cm (cpw f n) f := rfl
theorem cpw_add (f : Nat → Int) (m n : Nat) : cpw f (m + n) = cm (cpw f m) (cpw f n) := by
  induction n with
  | zero => rw [Nat.add_zero]; exact (cm_one_r _).symm
  | succ n ih => rw [← Nat.add_assoc, cpw_succ, cpw_succ, ih, cm_assoc]
theorem cpw_sq (f : Nat → Int) (n : Nat) : cpw (cm f f) n = cpw f (2 * n) := by
  induction n with
  | zero => rfl
  | succ n ih => rw [show 2 * (n + 1) = 2 * n + 1 + 1 by omega, cpw_succ, cpw_succ, cpw_succ, ih, cm_assoc]
theorem sq_cpw {p : Int} {n : Nat} {f g : Nat → Int} (h : sq p n f g) : ∀ k, sq p n (cpw f k) (cpw g k)
  | 0 => sq_refl _ _ _
  | k + 1 => sq_mul (sq_cpw h k) h
theorem cpw_inv {p : Int} {n : Nat} {f g : Nat → Int} (h : sq p n (cm f g) sOne) : ∀ k, sq p n (cm (cpw f k) (cpw g k)) sOne
  | 0 => sq_of_eq (cm_one sOne)
  | k + 1 => by
    rw [cpw_succ, cpw_succ, cm_swap4]
    exact sq_trans (sq_mul (cpw_inv h k) h) (sq_of_eq (cm_one sOne))
theorem ser_powR {p : Int} {N : Nat} : ∀ (n e : Nat) (x out : List Int), e < 2 ^ n → x.length = N → out.length = N → sq p N (ser (powR (mulS p) n e x out)) (cm (ser out) (cpw (ser x) e)) := by
  intro n
  induction n with
  | zero =>
    intro e x out he hx ho
    have : e = 0 := by simp at he; omega
    subst this
    rw [powR_zero]; exact sq_of_eq (cm_one_r _).symm
  | succ n ih =>
    intro e x out he hx ho
    unfold powR
    by_cases c : e = 0
    · rw [if_pos c]; subst c; exact sq_of_eq (cm_one_r _).symm
    · rw [if_neg c]
      have h2 : e / 2 < 2 ^ n := by rw [Nat.pow_succ] at he; omega
      have hxx := ser_mulS p x x
      rw [hx] at hxx
      have ho' : (if e % 2 = 1 then mulS p out x else out).length = N := by
        split
        · rw [mulS_len]; exact ho
        · exact ho
      refine sq_trans (ih (e / 2) (mulS p x x) _ h2 (by rw [mulS_len]; exact hx) ho') ?_
      have h3 : sq p N (cpw (ser (mulS p x x)) (e / 2)) (cpw (ser x) (2 * (e / 2))) := sq_trans (sq_cpw hxx _) (sq_of_eq (cpw_sq _ _))
      by_cases d : e % 2 = 1
      · rw [if_pos d]
        have hox := ser_mulS p out x
        rw [ho] at hox
        refine sq_trans (sq_mul hox h3) (sq_of_eq ?_)
        rw [cm_assoc, cm_comm (ser x), ← cpw_succ, show 2 * (e / 2) + 1 = e by omega]
      · rw [if_neg d]
        refine sq_trans (sq_mul (sq_refl _ _ _) h3) (sq_of_eq ?_)
        rw [show 2 * (e / 2) = e by omega]
theorem ser_oneS (p : Int) (n : Nat) : sq p n (ser (oneS n)) sOne := by
  intro i hi
  unfold ser oneS sOne
  cases i with
  | zero => rfl
  | succ i =>
    have : rd (1 :: List.replicate (n - 1) 0) ((i + 1 : Nat) : Int) = rd (List.replicate (n - 1) 0) (i : Int) := by
      simp only [rd, Int.toNat_natCast, List.getD_cons_succ]
    rw [this, rd_rep, if_neg (by omega)]
/-- A power with an integer for its exponent; I is the inverse of A. -/
def zp (A I : Nat → Int) (e : Int) : Nat → Int := if e < 0 then cpw I e.natAbs else cpw A e.natAbs
theorem zp_mix {p : Int} {n : Nat} {A I : Nat → Int} (h : sq p n (cm A I) sOne) (m k : Nat) : sq p n (cm (cpw A m) (cpw I k)) (zp A I ((m : Int) - (k : Int))) := by
  unfold zp
  by_cases c : k ≤ m
  · rw [if_neg (by omega), show ((m : Int) - (k : Int)).natAbs = m - k by omega]
    have e : cpw A m = cm (cpw A (m - k)) (cpw A k) := by rw [← cpw_add]; congr 1; omega
    rw [e, cm_assoc]
    exact sq_trans (sq_mul (sq_refl _ _ _) (cpw_inv h k)) (sq_of_eq (cm_one_r _))
  · rw [if_pos (by omega), show ((m : Int) - (k : Int)).natAbs = k - m by omega]
    have e : cpw I k = cm (cpw I m) (cpw I (k - m)) := by rw [← cpw_add]; congr 1; omega
    rw [e, ← cm_assoc]
    exact sq_trans (sq_mul (cpw_inv h m) (sq_refl _ _ _)) (sq_of_eq (cm_one _))
theorem zp_add {p : Int} {n : Nat} {A I : Nat → Int} (h : sq p n (cm A I) sOne) (d e : Int) : sq p n (cm (zp A I d) (zp A I e)) (zp A I (d + e)) := by
  by_cases c : d < 0 <;> by_cases c' : e < 0
  · have e1 : zp A I d = cpw I d.natAbs := if_pos c
    have e2 : zp A I e = cpw I e.natAbs := if_pos c'
    have e3 : zp A I (d + e) = cpw I (d + e).natAbs := if_pos (by omega)
    rw [e1, e2, e3, ← cpw_add, show (d + e).natAbs = d.natAbs + e.natAbs by omega]; exact sq_refl _ _ _
  · have e1 : zp A I d = cpw I d.natAbs := if_pos c
    have e2 : zp A I e = cpw A e.natAbs := if_neg c'
    have := zp_mix h e.natAbs d.natAbs
    rw [e1, e2, cm_comm, show d + e = (e.natAbs : Int) - (d.natAbs : Int) by omega]; exact this
  · have e1 : zp A I d = cpw A d.natAbs := if_neg c
    have e2 : zp A I e = cpw I e.natAbs := if_pos c'
    have := zp_mix h d.natAbs e.natAbs
    rw [e1, e2, show d + e = (d.natAbs : Int) - (e.natAbs : Int) by omega]; exact this
  · have e1 : zp A I d = cpw A d.natAbs := if_neg c
    have e2 : zp A I e = cpw A e.natAbs := if_neg c'
    have e3 : zp A I (d + e) = cpw A (d + e).natAbs := if_neg (by omega)
    rw [e1, e2, e3, ← cpw_add, show (d + e).natAbs = d.natAbs + e.natAbs by omega]; exact sq_refl _ _ _

/-- The root of a square. -/
theorem pc_ser (a b : List Int) (c : Nat) : pc a b c = sm (c + 1) (fun j => rd a (j : Int) * rd b ((c - j : Nat) : Int)) := by
  rw [pc_cm]; rfl
theorem sqrS_sq {p : Int} (hp : 2 < p) {b : List Int} (hb : El p b) (h1 : rd b 0 = 1) (hl : 1 ≤ b.length) (h2 : 2 * inv p 2 % p = 1 % p) : sqrS p (mulS p b b) = b := by
  have key : ∀ n, n ≤ b.length → bld (sqrF p (mulS p b b)) n = b.take n := by
    intro n
    induction n with
    | zero => intro _; simp [bld]
    | succ n ih =>
      intro hn
      show bld (sqrF p (mulS p b b)) n ++ [sqrF p (mulS p b b) (bld (sqrF p (mulS p b b)) n)] = _
      rw [ih (by omega), List.take_succ_eq_append_getElem (by omega)]
      congr 2
      have hlen : (b.take n).length = n := by rw [List.length_take]; omega
      have hbn := hb.rd (by omega) (n : Int)
      rw [← rd_at (l := b) (i := n) (by omega)]
      unfold sqrF
      rw [hlen]
      by_cases c : n = 0
      · rw [if_pos c]; subst c; exact h1.symm
      · rw [if_neg c]
        obtain ⟨m, rfl⟩ : ∃ m, n = m + 1 := ⟨n - 1, by omega⟩
        have e1 : sm (m + 1 - 1) (sqrT (b.take (m + 1))) = sm m (fun j => rd b ((j + 1 : Nat) : Int) * rd b ((m + 1 - (j + 1) : Nat) : Int)) := by
          rw [Nat.add_sub_cancel]
          refine sm_congr (fun j hj => ?_)
          unfold sqrT
          rw [hlen]
          have t1 : rd (b.take (m + 1)) ((j + 1 : Nat) : Int) = rd b ((j + 1 : Nat) : Int) := by simp [rd, List.getD, show j + 1 < m + 1 by omega]
          have t2 : rd (b.take (m + 1)) ((m + 1 - 1 - j : Nat) : Int) = rd b ((m + 1 - (j + 1) : Nat) : Int) := by
            rw [show m + 1 - 1 - j = m + 1 - (j + 1) by omega]
            generalize hq : m + 1 - (j + 1) = q
            simp [rd, List.getD, show q < m + 1 by omega]
          rw [t1, t2]
        have e2 : pc b b (m + 1) = rd b 0 * rd b ((m + 1 : Nat) : Int) + sm m (fun j => rd b ((j + 1 : Nat) : Int) * rd b ((m + 1 - (j + 1) : Nat) : Int)) + rd b ((m + 1 : Nat) : Int) * rd b 0 := by
          rw [pc_ser, sm_succ', sm_succ, Nat.sub_self, Nat.sub_zero]
          have z : ((0 : Nat) : Int) = 0 := rfl
          rw [z]; omega
        rw [e1, mulS_rd (by omega), e2, h1, Int.one_mul, Int.mul_one]
        generalize sm m (fun j => rd b ((j + 1 : Nat) : Int) * rd b ((m + 1 - (j + 1) : Nat) : Int)) = S
        generalize rd b ((m + 1 : Nat) : Int) = x at *
        have e3 : ((x + S + x) % p - S) * inv p 2 % p = x * (2 * inv p 2) % p := by
          rw [emul (p := p) (a' := 2 * x) (b := inv p 2) (b' := inv p 2) (by rw [esub_l]; congr 1; omega) rfl]
          congr 1
          rw [Int.mul_comm 2 x, Int.mul_assoc]
        rw [e3, emul rfl h2, Int.mul_one, em_id hbn.1 hbn.2]
  have := key b.length (Nat.le_refl _)
  rw [List.take_length] at this
  unfold sqrS
  rw [mulS_len]; exact this

/-! ## logarithm and exponential -/
/-- log: D(log a) · a = D a, as far as it reaches. -/
theorem ser_log {p : Int} {a L : List Int} {d : List Int} (hd : sq p (a.length - 1) (ser d) (sD (ser a))) (hi : sq p a.length (cm (ser a) (ser (invS p a))) sOne)
    (hL : sq p (a.length - 1) (sD (ser L)) (cm (ser d) (ser (invS p a)))) : sq p (a.length - 1) (cm (sD (ser L)) (ser a)) (sD (ser a)) := by
  refine sq_trans (sq_mul hL (sq_refl _ _ _)) ?_
  rw [cm_assoc, cm_comm (ser (invS p a))]
  refine sq_trans (sq_mul hd (sq_le hi (by omega))) (sq_of_eq (cm_one_r _))
/-- Two series with the same logarithmic derivative and the same beginning are the same. -/
theorem sq_of_logD {p : Int} {n : Nat} {f g l : Nat → Int} (hinv : ∀ i : Nat, 1 ≤ i → i < n → ∃ u : Int, (i : Int) * u % p = 1 % p) (h0 : f 0 % p = g 0 % p)
    (hf : sq p (n - 1) (sD f) (cm l f)) (hg : sq p (n - 1) (sD g) (cm l g)) : sq p n f g := by
  have key : ∀ m, m ≤ n → sq p m f g := by
    intro m
    induction m with
    | zero => intro _ i hi; omega
    | succ m ih =>
      intro hm i hi
      by_cases c : i < m
      · exact ih (by omega) i c
      · obtain rfl : i = m := by omega
        cases i with
        | zero => exact h0
        | succ i =>
          obtain ⟨u, hu⟩ := hinv (i + 1) (by omega) (by omega)
          have h1 := hf i (by omega)
          have h2 := hg i (by omega)
          have h3 : cm l f i % p = cm l g i % p := sq_mul (sq_refl p (i + 1) l) (ih (by omega)) i (by omega)
          have h : sD f i % p = sD g i % p := h1.trans (h3.trans h2.symm)
          unfold sD at h
          have k : ∀ x : Int, x % p = u * (((i + 1 : Nat) : Int) * x) % p := fun x => by
            rw [← Int.mul_assoc, Int.mul_comm u, emul hu rfl, Int.one_mul]
          rw [k (f (i + 1)), k (g (i + 1))]
          exact emul rfl h
  exact key n (Nat.le_refl _)
/-- exp: D(exp b) = D b · exp b. -/
theorem ser_exp {p : Int} {b : List Int} (hinv : ∀ i : Nat, 1 ≤ i → i < b.length → (i : Int) * inv p ((i : Int) % p) % p = 1 % p) : sq p (b.length - 1) (sD (ser (expS p b))) (cm (sD (ser b)) (ser (expS p b))) := by
  intro i hi
  unfold sD
  have hx : ser (expS p b) (i + 1) = expF p b (bld (expF p b) (i + 1)) := by
    unfold ser expS; exact bld_at (expF p b) (by omega)
  have hF : expF p b (bld (expF p b) (i + 1)) % p = sm (i + 1) (expT b (bld (expF p b) (i + 1))) * inv p (((i + 1 : Nat) : Int) % p) % p := by
    unfold expF
    rw [bld_len, if_neg (by omega), Int.emod_emod]
  have hT : cm (fun n => ((n + 1 : Nat) : Int) * ser b (n + 1)) (ser (expS p b)) i = sm (i + 1) (expT b (bld (expF p b) (i + 1))) := by
    unfold cm
    refine sm_congr (fun j hj => ?_)
    unfold expT ser expS
    rw [bld_len, show i + 1 - 1 - j = i - j by omega, bld_keep (expF p b) (i := i - j) (n := i + 1) (by omega) b.length (by omega)]
  rw [hx, hT]
  generalize sm (i + 1) (expT b (bld (expF p b) (i + 1))) = T at *
  rw [emul rfl hF, Int.mul_left_comm, emul rfl (hinv (i + 1) (by omega) (by omega)), Int.mul_one]
theorem ser_exp0 {p : Int} {b : List Int} (h : 1 ≤ b.length) : ser (expS p b) 0 = 1 := by
  unfold ser expS
  rw [bld_at (expF p b) (show 0 < b.length by omega)]
  show expF p b [] = 1
  simp [expF]
theorem expS_len (p : Int) (b : List Int) : (expS p b).length = b.length := bld_len _ _

/-! ## substitution -/
def sConst (c : Int) (n : Nat) : Int := if n = 0 then c else 0
/-- The first n terms of A, at X. -/
def cmp (A X : Nat → Int) : Nat → (Nat → Int)
  | 0 => fun _ => 0
  | n + 1 => sAdd (cmp A X n) (fun i => A n * cpw X n i)
theorem cmp_at (A X : Nat → Int) : ∀ (n i : Nat), cmp A X n i = sm n (fun k => A k * cpw X k i)
  | 0, _ => rfl
  | n + 1, i => by show cmp A X n i + A n * cpw X n i = _; rw [cmp_at A X n i, sm_succ]
/-- What begins with 0 has powers that begin late. -/
theorem cpw_late {p : Int} {X : Nat → Int} (h0 : X 0 % p = 0) : ∀ (k i : Nat), i < k → cpw X k i % p = 0 := by
  intro k
  induction k with
  | zero => intro i hi; omega
  | succ k ih =>
    intro i hi
    rw [cpw_succ]
    unfold cm
    have : sm (i + 1) (fun j => cpw X k j * X (i - j)) % p = sm (i + 1) (fun _ => 0) % p := by
      refine sm_econgr (fun j hj => ?_)
      by_cases c : j < k
      · have := emul (p := p) (a := cpw X k j) (a' := 0) (b := X (i - j)) (b' := X (i - j)) (by rw [ih j c, Int.zero_emod]) rfl
        rw [this, Int.zero_mul]
      · have e : i - j = 0 := by omega
        rw [e]
        have := emul (p := p) (a := cpw X k j) (a' := cpw X k j) (b := X 0) (b' := 0) rfl (by rw [h0, Int.zero_emod])
        rw [this, Int.mul_zero]
    rw [this, sm_nil (fun _ _ => rfl), Int.zero_emod]
/-- Horner. -/
def hrn (A X : Nat → Int) : Nat → (Nat → Int) → (Nat → Int)
  | 0, s => s
  | d + 1, s => hrn A X d (sAdd (cm s X) (sConst (A d)))
theorem cm_const (c : Int) (f : Nat → Int) (i : Nat) : cm (sConst c) f i = c * f i := by
  unfold cm
  rw [sm_one (k := 0) (by omega) (fun j hj hne => by unfold sConst; rw [if_neg hne, Int.zero_mul])]
  unfold sConst
  rw [if_pos rfl, Nat.sub_zero]
theorem hrn_cmp (A X : Nat → Int) : ∀ (d : Nat) (s : Nat → Int), hrn A X d s = sAdd (cmp A X d) (cm s (cpw X d)) := by
  intro d
  induction d with
  | zero => intro s; funext i; show s i = 0 + cm s sOne i; rw [cm_one_r]; omega
  | succ d ih =>
    intro s
    show hrn A X d (sAdd (cm s X) (sConst (A d))) = _
    rw [ih, cm_add_l]
    funext i
    show cmp A X d i + (cm (cm s X) (cpw X d) i + cm (sConst (A d)) (cpw X d) i) = (cmp A X d i + A d * cpw X d i) + cm s (cpw X (d + 1)) i
    rw [cm_const, cpw_succ, cm_assoc, cm_comm X]
    omega
theorem ser_intoR {p : Int} {N : Nat} (a b : List Int) (hN : 1 ≤ N) (hb : b.length = N) : ∀ (d : Nat) (out : List Int) (s : Nat → Int), out.length = N → sq p N (ser out) s → sq p N (ser (intoR p a b d out)) (hrn (ser a) (ser b) d s) := by
  intro d
  induction d with
  | zero => intro out s ho hs; exact hs
  | succ d ih =>
    intro out s ho hs
    unfold intoR
    refine ih _ _ (by rw [List.length_set, mulS_len]; exact ho) ?_
    have hm := ser_mulS p out b
    rw [ho] at hm
    have hm2 : sq p N (ser (mulS p out b)) (cm s (ser b)) := sq_trans hm (sq_mul hs (sq_refl _ _ _))
    intro i hi
    unfold sAdd
    by_cases c : i = 0
    · subst c
      have : ser ((mulS p out b).set 0 ((rd (mulS p out b) 0 + rd a (d : Int)) % p)) 0 = (rd (mulS p out b) 0 + rd a (d : Int)) % p := by
        unfold ser; exact rd_set_eq (by rw [mulS_len]; omega)
      rw [this, Int.emod_emod]
      exact eadd (hm2 0 hi) rfl
    · have : ser ((mulS p out b).set 0 ((rd (mulS p out b) 0 + rd a (d : Int)) % p)) i = ser (mulS p out b) i := by
        unfold ser; exact rd_set_ne (by omega)
      rw [this, hm2 i hi]
      unfold sConst
      rw [if_neg c, Int.add_zero]
theorem ser_into {p : Int} {a b : List Int} (h1 : 1 ≤ a.length) (e : a.length = b.length) : sq p a.length (ser (intoS p a b)) (cmp (ser a) (ser b) a.length) := by
  unfold intoS
  have h := ser_intoR (p := p) a b h1 e.symm a.length (List.replicate a.length 0) (fun _ => 0) (by simp) (fun i hi => by unfold ser; rw [rd_rep])
  refine sq_trans h (sq_of_eq ?_)
  rw [hrn_cmp]
  funext i
  show cmp _ _ _ i + cm (fun _ => 0) _ i = _
  have : cm (fun _ => 0) (cpw (ser b) a.length) i = 0 := by unfold cm; exact sm_nil (fun j _ => Int.zero_mul _)
  rw [this, Int.add_zero]
/-- Substitution keeps products. -/
theorem cmp_mul {p : Int} {n : Nat} {A C X : Nat → Int} (h0 : X 0 % p = 0) : sq p n (cm (cmp A X n) (cmp C X n)) (cmp (cm A C) X n) := by
  intro i hi
  have h1 : cm (cmp A X n) (cmp C X n) i = sm n (fun k => sm n (fun l => A k * C l * cpw X (k + l) i)) := by
    unfold cm
    have e1 : sm (i + 1) (fun j => cmp A X n j * cmp C X n (i - j)) = sm (i + 1) (fun j => sm n (fun k => sm n (fun l => A k * C l * (cpw X k j * cpw X l (i - j))))) := by
      refine sm_congr (fun j hj => ?_)
      rw [cmp_at, cmp_at, ← sm_mul_r]
      refine sm_congr (fun k hk => ?_)
      rw [← sm_mul]
      refine sm_congr (fun l hl => ?_)
      rw [Int.mul_assoc, Int.mul_left_comm (cpw X k j), ← Int.mul_assoc]
    rw [e1, sm_swap]
    refine sm_congr (fun k hk => ?_)
    rw [sm_swap]
    refine sm_congr (fun l hl => ?_)
    rw [sm_mul, cpw_add]; rfl
  have h2 : sm n (fun k => sm n (fun l => A k * C l * cpw X (k + l) i)) % p = sm n (fun k => sm (n - k) (fun l => A k * C l * cpw X (k + l) i)) % p := by
    refine sm_econgr (fun k hk => ?_)
    have : n = (n - k) + k := by omega
    have e : sm n (fun l => A k * C l * cpw X (k + l) i) = sm (n - k) (fun l => A k * C l * cpw X (k + l) i) + sm k (fun l => A k * C (n - k + l) * cpw X (k + (n - k + l)) i) := by
      rw [← sm_split, ← this]
    rw [e]
    have z : sm k (fun l => A k * C (n - k + l) * cpw X (k + (n - k + l)) i) % p = sm k (fun _ => 0) % p := by
      refine sm_econgr (fun l hl => ?_)
      have := emul (p := p) (a := A k * C (n - k + l)) (b := cpw X (k + (n - k + l)) i) (b' := 0) rfl (by rw [cpw_late h0 _ i (by omega), Int.zero_emod])
      rw [this, Int.mul_zero]
    have := eadd (p := p) (a := sm (n - k) (fun l => A k * C l * cpw X (k + l) i)) rfl z
    rw [this, sm_nil (fun _ _ => rfl), Int.add_zero]
  rw [h1, h2, cmp_at, ← sm_tri n (fun k l => A k * C l * cpw X (k + l) i)]
  congr 1
  refine sm_congr (fun m hm => ?_)
  unfold cm
  rw [← sm_mul_r]
  exact sm_congr (fun j hj => by rw [show j + (m - j) = m by omega])
end G7
