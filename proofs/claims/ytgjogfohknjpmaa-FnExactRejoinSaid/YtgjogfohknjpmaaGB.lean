import Derived.Test.YtgjogfohknjpmaaWMore
import Derived.Test.YtgjogfohknjpmaaGA
import Derived.Laws.BitsLemmas
/- Words between the printed functions and the plain mathematics: wrap64, rd, lists, 'from some number of rounds on'. -/
set_option linter.unusedVariables false
namespace G7
open Go.RowKit Go.Proofs.YtgjogfohknjpmaaW.PrintWords Go.Proofs.YtgjogfohknjpmaaW.PrintLast Go.Proofs.YtgjogfohknjpmaaW.PrintMore

theorem w64 {x : Int} (h0 : -9223372036854775808 ≤ x) (h1 : x ≤ 9223372036854775807) : wrap64 x = x := by
  unfold wrap64; omega
theorem w_succ {n : Nat} (h : n < 9223372036854775807) : wrap64 ((n : Int) + 1) = ((n + 1 : Nat) : Int) := by
  unfold wrap64; omega
theorem w_wf (x : Int) : -9223372036854775808 ≤ wrap64 x ∧ wrap64 x ≤ 9223372036854775807 := by
  unfold wrap64; omega
theorem wf_i64 {x : Int} (h : (Go.Lit.int .i64 x).wf = true) : -9223372036854775808 ≤ x ∧ x ≤ 9223372036854775807 := by
  simp only [Go.Lit.wf, Go.IntKind.min, Go.IntKind.max, Go.IntKind.signed, Go.IntKind.bits, Bool.and_eq_true, decide_eq_true_eq, if_true] at h
  omega

/-! ## rounds -/
theorem ev_s {α : Type} {g : Nat → Option α} {r : α} (h : Ev (fun k => g (k + 1)) r) : Ev g r := Ev.step (fun _ => rfl) h
theorem ev_c {α : Type} {o : Option α} {r : α} (h : o = some r) : Ev (fun _ => o) r := ⟨0, fun _ _ => h⟩
theorem ev_inj {α : Type} {g : Nat → Option α} {r q : α} (h : Ev g r) (k : Ev g q) : r = q := by
  obtain ⟨K, h⟩ := h
  obtain ⟨L, k⟩ := k
  have h1 := h (max K L) (by omega)
  have k1 := k (max K L) (by omega)
  rw [h1] at k1
  exact Option.some.inj k1
theorem ev_to {α : Type} {g : Nat → Option α} {r q : α} (h : Ev g r) (e : r = q) : Ev g q := e ▸ h

/-! ## lists -/
theorem rd_at {l : List Int} {i : Nat} (h : i < l.length) : rd l (i : Int) = l[i] := by
  simp [rd, h]
theorem rd_nat (l : List Int) (i : Nat) : rd l (i : Int) = l.getD i 0 := by simp [rd]
theorem rd_app_l {l m : List Int} {i : Nat} (h : i < l.length) : rd (l ++ m) (i : Int) = rd l (i : Int) := by
  simp [rd, List.getD, List.getElem?_append, h]
theorem rd_app_r {l : List Int} {x : Int} {i : Nat} (h : i = l.length) : rd (l ++ [x]) (i : Int) = x := by
  subst h; simp [rd]
theorem rd_set_eq {l : List Int} {x : Int} {i : Nat} (h : i < l.length) : rd (l.set i x) (i : Int) = x := by
  simp [rd, h]
theorem rd_set_ne {l : List Int} {x : Int} {i j : Nat} (h : i ≠ j) : rd (l.set i x) (j : Int) = rd l (j : Int) := by
  simp [rd, List.getElem?_set_ne h]
theorem rd_rep (n : Nat) (i : Nat) : rd (List.replicate n 0) (i : Int) = 0 := by
  simp only [rd, Int.toNat_natCast, List.getD_eq_getElem?_getD, List.getElem?_replicate]
  by_cases h : i < n <;> simp [h]
theorem rd_out {l : List Int} {i : Nat} (h : l.length ≤ i) : rd l (i : Int) = 0 := by
  simp [rd, h]
theorem ext_rd {l m : List Int} (h : l.length = m.length) (e : ∀ i : Nat, i < l.length → rd l (i : Int) = rd m (i : Int)) : l = m := by
  apply List.ext_getElem h
  intro i h1 h2
  have := e i h1
  rwa [rd_at h1, rd_at h2] at this
theorem rd_map {n : Nat} (h : Nat → Int) {i : Nat} (hi : i < n) : rd ((List.range n).map h) (i : Int) = h i := by
  simp [rd, hi]

/-- All are elements of the field. -/
def El (p : Int) (l : List Int) : Prop := ∀ x ∈ l, 0 ≤ x ∧ x < p
def elB (p : Int) (l : List Int) : Bool := l.all (fun x => decide (0 ≤ x) && decide (x < p))
theorem elB_iff {p : Int} {l : List Int} : elB p l = true ↔ El p l := by
  unfold elB El; simp
theorem El.rd {p : Int} {l : List Int} (h : El p l) (hp : 0 < p) (i : Int) : 0 ≤ rd l i ∧ rd l i < p := by
  unfold Go.Proofs.YtgjogfohknjpmaaW.PrintWords.rd
  rw [List.getD_eq_getElem?_getD]
  cases e : l[i.toNat]? with
  | none => simp; omega
  | some x => exact h x (List.mem_of_getElem? e)
theorem El.app {p : Int} {l : List Int} {x : Int} (h : El p l) (h0 : 0 ≤ x) (h1 : x < p) : El p (l ++ [x]) := by
  intro y hy
  rcases List.mem_append.1 hy with hy | hy
  · exact h y hy
  · rw [List.mem_singleton] at hy; subst hy; exact ⟨h0, h1⟩
theorem El.set {p : Int} {l : List Int} {x : Int} {i : Nat} (h : El p l) (h0 : 0 ≤ x) (h1 : x < p) : El p (l.set i x) := by
  intro y hy
  rcases List.mem_or_eq_of_mem_set hy with hy | hy
  · exact h y hy
  · subst hy; exact ⟨h0, h1⟩
theorem El.nil {p : Int} : El p [] := fun x hx => by cases hx
theorem El.rep {p : Int} (hp : 0 < p) (n : Nat) : El p (List.replicate n 0) := by
  intro x hx
  rw [List.mem_replicate] at hx
  omega
theorem El.map {p : Int} {n : Nat} {h : Nat → Int} (e : ∀ i, i < n → 0 ≤ h i ∧ h i < p) : El p ((List.range n).map h) := by
  intro x hx
  rw [List.mem_map] at hx
  obtain ⟨i, hi, rfl⟩ := hx
  exact e i (List.mem_range.1 hi)
theorem El.mem_rd {p : Int} {l : List Int} (hl : ∀ i : Nat, i < l.length → 0 ≤ Go.Proofs.YtgjogfohknjpmaaW.PrintWords.rd l (i : Int) ∧ Go.Proofs.YtgjogfohknjpmaaW.PrintWords.rd l (i : Int) < p) : El p l := by
  intro x hx
  obtain ⟨i, hi, rfl⟩ := List.mem_iff_getElem.1 hx
  have := hl i hi
  rwa [rd_at hi] at this

theorem drop_cons {l : List Int} {i : Nat} (h : i < l.length) : l.drop i = rd l (i : Int) :: l.drop (i + 1) := by
  rw [rd_at h]; exact List.drop_eq_getElem_cons h
theorem elB_drop {p : Int} {l : List Int} {i : Nat} (h : i < l.length) : elB p (l.drop i) = (decide (0 ≤ rd l (i : Int)) && decide (rd l (i : Int) < p) && elB p (l.drop (i + 1))) := by
  rw [drop_cons h]; rfl

/-- A coefficient: 0 outside. -/
def cf (l : List Int) (i : Int) : Int := if 0 ≤ i then rd l i else 0
theorem cf_nn {l : List Int} {i : Int} (h : 0 ≤ i) : cf l i = rd l i := if_pos h
theorem cf_neg {l : List Int} {i : Int} (h : i < 0) : cf l i = 0 := if_neg (by omega)
theorem cf_out {l : List Int} {i : Int} (h : (l.length : Int) ≤ i) : cf l i = 0 := by
  rw [cf_nn (by omega)]
  obtain ⟨n, rfl⟩ : ∃ n : Nat, i = n := ⟨i.toNat, by omega⟩
  exact rd_out (by omega)
/-- The coefficients of a product: the sum over the first list. -/
def cv (a b : List Int) (c : Int) : Int := sm a.length (fun i => rd a (i : Int) * cf b (c - (i : Int)))
theorem set_map_rd {l : List Int} {n : Nat} {h : Nat → Int} (hl : l.length = n) (e : ∀ i : Nat, i < n → rd l (i : Int) = h i) : l = (List.range n).map h :=
  ext_rd (by simp [hl]) (fun i hi => by rw [rd_map h (by omega)]; exact e i (by omega))
theorem map_congr_range {n : Nat} {h h' : Nat → Int} (e : ∀ i, i < n → h i = h' i) : (List.range n).map h = (List.range n).map h' :=
  List.map_congr_left (fun i hi => e i (List.mem_range.1 hi))
theorem map_snoc (n : Nat) (h : Nat → Int) : (List.range (n + 1)).map h = (List.range n).map h ++ [h n] := by
  rw [List.range_succ, List.map_append]; rfl

theorem i64_mask (i : Nat) (m : Int) (hi : i ≤ 62) (hm : (BitVec.ofInt 64 m).toNat = 2 ^ i - 1) (n : Int) : Go.bits .and .i64 n m = n % ((2 ^ i : Nat) : Int) := by
  have key : (BitVec.ofInt 64 n &&& BitVec.ofInt 64 m).toNat = (n % ((2 ^ 64 : Nat) : Int)).toNat % 2 ^ i := by
    rw [BitVec.toNat_and, BitVec.toNat_ofInt, hm, Nat.and_two_pow_sub_one_eq_mod]
  show Go.IntKind.i64.wrap ((BitVec.ofInt 64 n &&& BitVec.ofInt 64 m).toNat : Nat) = _
  have hlt : (n % ((2 ^ 64 : Nat) : Int)).toNat % 2 ^ i < 2 ^ i := Nat.mod_lt _ (Nat.two_pow_pos i)
  have h62 : 2 ^ i ≤ 2 ^ 62 := Nat.pow_le_pow_right (by decide) hi
  have hd : (2 ^ 64 : Nat) = 2 ^ i * 2 ^ (64 - i) := by rw [← Nat.pow_add]; congr 1; omega
  rw [key, Go.IntKind.wrap_i64]
  have e : (((n % ((2 ^ 64 : Nat) : Int)).toNat % 2 ^ i : Nat) : Int) = n % ((2 ^ i : Nat) : Int) := by
    rw [Int.natCast_emod, Int.toNat_of_nonneg (Int.emod_nonneg _ (by decide)), hd, Int.natCast_mul]
    exact Int.emod_emod_of_dvd n (Int.dvd_mul_right _ _)
  rw [← e]
  have : (2 ^ 62 : Nat) = 4611686018427387904 := rfl
  omega
theorem i64_and255 (n : Int) : Go.bits .and .i64 n 255 = n % 256 := i64_mask 8 255 (by decide) (by decide) n
theorem i64_and1 (n : Int) : Go.bits .and .i64 n 1 = n % 2 := i64_mask 1 1 (by decide) (by decide) n
theorem shl1 {c : Nat} (h : c ≤ 60) : shl .i64 1 (c : Int) = ((2 ^ c : Nat) : Int) := by
  have h62 : 2 ^ c ≤ 2 ^ 60 := Nat.pow_le_pow_right (by decide) h
  have e60 : (2 ^ 60 : Nat) = 1152921504606846976 := rfl
  have hp : 0 < 2 ^ c := Nat.two_pow_pos c
  unfold shl
  rw [Int.toNat_natCast, Int.one_mul, show min c (Go.IntKind.bits .i64) = c from Nat.min_eq_left (by show c ≤ 64; omega), Go.IntKind.wrap_i64]
  have e : (2 : Int) ^ c = ((2 ^ c : Nat) : Int) := by rw [Int.natCast_pow]; rfl
  rw [e]; omega
theorem u64_id {x : Int} (h0 : 0 ≤ x) (h1 : x ≤ 9223372036854775807) : Go.IntKind.u64.wrap x = x := by
  rw [Go.IntKind.wrap_u64]; omega

/-! ## the bounds of a field's modulus -/
def Pm (p : Int) : Prop := 17 ≤ p ∧ p ≤ 1004535809
theorem Pm.pos {p : Int} (h : Pm p) : 0 < p := by unfold Pm at h; omega
theorem pm_of {f : Int} (h : 0 ≤ f ∧ f < 9) : Pm (md f) := ⟨(isF h.1 h.2).bounds.1, (isF h.1 h.2).bounds.2.1⟩
theorem pm_is {p g t : Int} (h : IsF p g t) : Pm p := ⟨h.bounds.1, h.bounds.2.1⟩

end G7
