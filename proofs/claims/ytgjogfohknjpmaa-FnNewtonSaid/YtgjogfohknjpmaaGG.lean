import Derived.Test.YtgjogfohknjpmaaGE
import Derived.Test.YtgjogfohknjpmaaGF
/- Power series with integer coefficients, and what the series functions are among them. -/
set_option linter.unusedVariables false
namespace G7
open Go.RowKit Go.Proofs.YtgjogfohknjpmaaW.PrintWords Go.Proofs.YtgjogfohknjpmaaW.PrintLast Go.Proofs.YtgjogfohknjpmaaW.PrintMore

/-- The product of two series. -/
def cm (f g : Nat → Int) (n : Nat) : Int := sm (n + 1) (fun j => f j * g (n - j))
def sOne (n : Nat) : Int := if n = 0 then 1 else 0
def sAdd (f g : Nat → Int) (n : Nat) : Int := f n + g n
/-- The derivative. -/
def sD (f : Nat → Int) (n : Nat) : Int := ((n + 1 : Nat) : Int) * f (n + 1)
theorem cm_comm (f g : Nat → Int) : cm f g = cm g f := by
  funext n
  unfold cm
  rw [sm_rev]
  exact sm_congr (fun i hi => by
    rw [show n + 1 - 1 - i = n - i by omega, show n - (n - i) = i by omega, Int.mul_comm])
theorem cm_one (f : Nat → Int) : cm sOne f = f := by
  funext n
  unfold cm
  rw [sm_one (k := 0) (by omega) (fun i hi hne => by unfold sOne; rw [if_neg hne, Int.zero_mul])]
  unfold sOne
  rw [if_pos rfl, Int.one_mul, Nat.sub_zero]
theorem cm_one_r (f : Nat → Int) : cm f sOne = f := by rw [cm_comm, cm_one]
theorem cm_assoc (f g h : Nat → Int) : cm (cm f g) h = cm f (cm g h) := by
  funext n
  unfold cm
  have e1 : sm (n + 1) (fun j => sm (j + 1) (fun i => f i * g (j - i)) * h (n - j)) = sm (n + 1) (fun j => sm (j + 1) (fun i => (fun a b => f a * g b * h (n - a - b)) i (j - i))) :=
    sm_congr (fun j hj => by
      rw [← sm_mul_r]
      exact sm_congr (fun i hi => by
        show f i * g (j - i) * h (n - j) = f i * g (j - i) * h (n - i - (j - i))
        congr 2; omega))
  rw [e1, sm_tri (n + 1) (fun a b => f a * g b * h (n - a - b))]
  exact sm_congr (fun i hi => by
    rw [← sm_mul, show n + 1 - i = n - i + 1 by omega]
    exact sm_congr (fun j hj => by rw [Int.mul_assoc]))
theorem cm_add_l (f g h : Nat → Int) : cm (sAdd f g) h = sAdd (cm f h) (cm g h) := by
  funext n
  unfold cm sAdd
  rw [← sm_add]
  exact sm_congr (fun i hi => by rw [Int.add_mul])
theorem cm_add_r (f g h : Nat → Int) : cm h (sAdd f g) = sAdd (cm h f) (cm h g) := by rw [cm_comm, cm_add_l, cm_comm f, cm_comm g]
/-- The product's derivative. -/
theorem sD_cm (f g : Nat → Int) : sD (cm f g) = sAdd (cm (sD f) g) (cm f (sD g)) := by
  funext n
  unfold sD sAdd cm
  have e1 : ((n + 1 : Nat) : Int) * sm (n + 1 + 1) (fun j => f j * g (n + 1 - j)) = sm (n + 1 + 1) (fun j => (j : Int) * f j * g (n + 1 - j)) + sm (n + 1 + 1) (fun j => f j * (((n + 1 - j : Nat) : Int) * g (n + 1 - j))) := by
    rw [← sm_mul, ← sm_add]
    exact sm_congr (fun j hj => by
      have : ((n + 1 : Nat) : Int) = (j : Int) + ((n + 1 - j : Nat) : Int) := by omega
      rw [this]
      generalize ((n + 1 - j : Nat) : Int) = m
      rw [Int.add_mul, Int.mul_assoc (j : Int), Int.mul_left_comm m])
  rw [e1]
  have e2 : sm (n + 1 + 1) (fun j => (j : Int) * f j * g (n + 1 - j)) = sm (n + 1) (fun j => ((j + 1 : Nat) : Int) * f (j + 1) * g (n - j)) := by
    rw [sm_succ' (n + 1)]
    have : ((0 : Nat) : Int) * f 0 * g (n + 1 - 0) = 0 := by simp
    rw [this, Int.zero_add]
    exact sm_congr (fun j hj => by rw [show n + 1 - (j + 1) = n - j by omega])
  have e3 : sm (n + 1 + 1) (fun j => f j * (((n + 1 - j : Nat) : Int) * g (n + 1 - j))) = sm (n + 1) (fun j => f j * (((n - j + 1 : Nat) : Int) * g (n - j + 1))) := by
    rw [sm_succ (n + 1), Nat.sub_self]
    have : f (n + 1) * (((0 : Nat) : Int) * g 0) = 0 := by simp
    rw [this, Int.add_zero]
    exact sm_congr (fun j hj => by rw [show n + 1 - j = n - j + 1 by omega])
  rw [e2, e3]

/-- Equal modulo p, below n. -/
def sq (p : Int) (n : Nat) (f g : Nat → Int) : Prop := ∀ i, i < n → f i % p = g i % p
theorem sq_refl (p : Int) (n : Nat) (f : Nat → Int) : sq p n f f := fun _ _ => rfl
theorem sq_symm {p : Int} {n : Nat} {f g : Nat → Int} (h : sq p n f g) : sq p n g f := fun i hi => (h i hi).symm
theorem sq_trans {p : Int} {n : Nat} {f g h : Nat → Int} (a : sq p n f g) (b : sq p n g h) : sq p n f h := fun i hi => (a i hi).trans (b i hi)
theorem sq_le {p : Int} {n m : Nat} {f g : Nat → Int} (h : sq p n f g) (hm : m ≤ n) : sq p m f g := fun i hi => h i (by omega)
theorem sq_add {p : Int} {n : Nat} {f f' g g' : Nat → Int} (a : sq p n f f') (b : sq p n g g') : sq p n (sAdd f g) (sAdd f' g') := fun i hi => eadd (a i hi) (b i hi)
theorem sq_mul {p : Int} {n : Nat} {f f' g g' : Nat → Int} (a : sq p n f f') (b : sq p n g g') : sq p n (cm f g) (cm f' g') := fun i hi =>
  sm_econgr (fun j hj => emul (a j (by omega)) (b (i - j) (by omega)))
theorem sq_D {p : Int} {n : Nat} {f g : Nat → Int} (h : sq p n f g) : sq p (n - 1) (sD f) (sD g) := fun i hi => emul rfl (h (i + 1) (by omega))
theorem sq_of_eq {p : Int} {n : Nat} {f g : Nat → Int} (h : f = g) : sq p n f g := h ▸ sq_refl p n f
/-- A factor with an inverse may be struck. -/
theorem sq_cancel {p : Int} {n : Nat} {f g u v : Nat → Int} (huv : sq p n (cm u v) sOne) (h : sq p n (cm f u) (cm g u)) : sq p n f g := by
  have k : ∀ x : Nat → Int, sq p n (cm (cm x u) v) x := fun x => by
    rw [cm_assoc]
    exact sq_trans (sq_mul (sq_refl _ _ x) huv) (sq_of_eq (cm_one_r x))
  exact sq_trans (sq_symm (k f)) (sq_trans (sq_mul h (sq_refl _ _ v)) (k g))

/-- A list as a series. -/
def ser (l : List Int) (i : Nat) : Int := rd l (i : Int)
theorem pc_cm (a b : List Int) (c : Nat) : pc a b c = cm (ser a) (ser b) c := by
  unfold pc cm ser
  exact sm_congr (fun j hj => tm_in (by omega))
theorem ser_mulS (p : Int) (a b : List Int) : sq p a.length (ser (mulS p a b)) (cm (ser a) (ser b)) := fun i hi => by
  show rd (mulS p a b) (i : Int) % p = _
  rw [mulS_rd hi, Int.emod_emod, pc_cm]
theorem ser_eq {p : Int} {a b : List Int} (hp : 0 < p) (ha : El p a) (hb : El p b) (e : a.length = b.length) (h : sq p a.length (ser a) (ser b)) : a = b := by
  refine ext_rd e (fun i hi => ?_)
  have h1 := ha.rd hp (i : Int)
  have h2 := hb.rd hp (i : Int)
  have := h i hi
  unfold ser at this
  rwa [em_id h1.1 h1.2, em_id h2.1 h2.2] at this
/-- The inverse is one. -/
theorem ser_invS {p : Int} {a : List Int} (h0 : rd a 0 * inv p (rd a 0) % p = 1 % p) : sq p a.length (cm (ser a) (ser (invS p a))) sOne := by
  intro i hi
  unfold invS
  cases i with
  | zero =>
    unfold cm
    rw [sm_succ, sm_zero, Int.zero_add]
    show ser a 0 * ser (bld (invF p a) a.length) (0 - 0) % p = sOne 0 % p
    unfold ser
    rw [bld_at (invF p a) (show 0 < a.length by omega)]
    show rd a 0 * invF p a [] % p = 1 % p
    have e : invF p a [] = inv p (rd a 0) := by simp [invF]
    rw [e]; exact h0
  | succ i =>
    unfold cm
    rw [sm_succ', Nat.sub_zero]
    have hx : ser (bld (invF p a) a.length) (i + 1) = invF p a (bld (invF p a) (i + 1)) := by
      unfold ser; exact bld_at (invF p a) hi
    have hF : invF p a (bld (invF p a) (i + 1)) % p = (-(sm (i + 1) (invT a (bld (invF p a) (i + 1))))) * inv p (rd a 0) % p := by
      unfold invF
      rw [bld_len, if_neg (by omega), Int.emod_emod]
    have hT : sm (i + 1) (fun j => ser a (j + 1) * ser (bld (invF p a) a.length) (i + 1 - (j + 1))) = sm (i + 1) (invT a (bld (invF p a) (i + 1))) :=
      sm_congr (fun j hj => by
        unfold invT ser
        rw [bld_len, show i + 1 - (j + 1) = i + 1 - 1 - j by omega, bld_keep (invF p a) (i := i + 1 - 1 - j) (n := i + 1) (by omega) a.length (by omega)])
    rw [hT, hx]
    generalize sm (i + 1) (invT a (bld (invF p a) (i + 1))) = T at *
    have : (ser a 0 * invF p a (bld (invF p a) (i + 1)) + T) % p = (-T + T) % p := by
      refine eadd ?_ rfl
      have e1 : ser a 0 * invF p a (bld (invF p a) (i + 1)) % p = (rd a 0 * inv p (rd a 0)) * (-T) % p := by
        have := emul (p := p) (a := ser a 0) (a' := rd a 0) rfl hF
        rw [this]
        congr 1
        rw [Int.mul_comm (-T), ← Int.mul_assoc]
      rw [e1, emul h0 rfl, Int.one_mul]
    rw [this, Int.add_left_neg]
    unfold sOne
    rw [if_neg (by omega)]
theorem ser_derS (p : Int) (a : List Int) : sq p (a.length - 1) (ser (derSq p a)) (sD (ser a)) := fun i hi => by
  show rd (derSq p a) (i : Int) % p = ((i + 1 : Nat) : Int) * rd a ((i + 1 : Nat) : Int) % p
  unfold derSq
  rw [rd_app_l (by simp; omega), rd_map _ hi, Int.emod_emod]
/-- The derivative of an integral. -/
theorem ser_sumS {p : Int} {a : List Int} (hinv : ∀ i : Nat, 1 ≤ i → i < a.length → (i : Int) * inv p ((i : Int) % p) % p = 1 % p) : sq p (a.length - 1) (sD (ser (sumS p a))) (ser a) := fun i hi => by
  unfold sD ser
  have e : rd (sumS p a) ((i + 1 : Nat) : Int) = rd a (i : Int) * inv p (((i + 1 : Nat) : Int) % p) % p := by
    unfold sumS
    have : rd (0 :: (List.range (a.length - 1)).map (fun (i : Nat) => rd a (i : Int) * inv p (((i + 1 : Nat) : Int) % p) % p)) ((i + 1 : Nat) : Int) = rd ((List.range (a.length - 1)).map (fun (i : Nat) => rd a (i : Int) * inv p (((i + 1 : Nat) : Int) % p) % p)) (i : Int) := by
      simp only [rd, Int.toNat_natCast, List.getD_cons_succ]
    rw [this, rd_map _ hi]
  rw [e, emul_r, Int.mul_left_comm, emul rfl (hinv (i + 1) (by omega) (by omega)), Int.mul_one]
theorem ser_sumS0 (p : Int) (a : List Int) : ser (sumS p a) 0 = 0 := rfl
/-- A series is known by its derivative and its beginning. -/
theorem sq_of_D {p : Int} {n : Nat} {f g : Nat → Int} (hinv : ∀ i : Nat, 1 ≤ i → i < n → ∃ u : Int, (i : Int) * u % p = 1 % p) (h0 : f 0 % p = g 0 % p) (hD : sq p (n - 1) (sD f) (sD g)) : sq p n f g := by
  intro i hi
  cases i with
  | zero => exact h0
  | succ i =>
    obtain ⟨u, hu⟩ := hinv (i + 1) (by omega) hi
    have h := hD i (by omega)
    unfold sD at h
    have k : ∀ x : Int, x % p = u * (((i + 1 : Nat) : Int) * x) % p := fun x => by
      rw [← Int.mul_assoc, Int.mul_comm u, emul hu rfl, Int.one_mul]
    rw [k (f (i + 1)), k (g (i + 1))]
    exact emul rfl h
end G7
