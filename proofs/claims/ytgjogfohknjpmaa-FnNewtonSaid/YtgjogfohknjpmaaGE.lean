import Derived.Test.YtgjogfohknjpmaaGD
/- The series functions as lists: product, inverse, integral, logarithm, exponential, root, power, substitution. -/
set_option linter.unusedVariables false
namespace G7
open Go.RowKit Go.Proofs.YtgjogfohknjpmaaW.PrintWords Go.Proofs.YtgjogfohknjpmaaW.PrintLast Go.Proofs.YtgjogfohknjpmaaW.PrintMore

def mulS (p : Int) (a b : List Int) : List Int := (List.range a.length).map (fun c => pc a b c % p)
theorem mulS_len (p : Int) (a b : List Int) : (mulS p a b).length = a.length := by simp [mulS]
theorem mulS_el {p : Int} (hp : 0 < p) (a b : List Int) : El p (mulS p a b) := El.map (fun i _ => em_lt hp)
theorem mulS_rd {p : Int} {a b : List Int} {c : Nat} (h : c < a.length) : rd (mulS p a b) (c : Int) = pc a b c % p := by unfold mulS; rw [rd_map _ h]

/-- The derivative of a series, as far as it reaches. -/
def derSq (p : Int) (a : List Int) : List Int := (List.range (a.length - 1)).map (fun i => ((i + 1 : Nat) : Int) * rd a ((i + 1 : Nat) : Int) % p) ++ [0]
/-- A list of which each element follows from the ones ahead. -/
def bld (F : List Int → Int) : Nat → List Int
  | 0 => []
  | n + 1 => bld F n ++ [F (bld F n)]
theorem bld_len (F : List Int → Int) : ∀ n, (bld F n).length = n
  | 0 => rfl
  | n + 1 => by simp [bld, bld_len F n]
theorem bld_el {p : Int} {F : List Int → Int} (h : ∀ out, 0 ≤ F out ∧ F out < p) : ∀ n, El p (bld F n)
  | 0 => El.nil
  | n + 1 => (bld_el h n).app (h _).1 (h _).2
theorem bld_keep (F : List Int → Int) {i n : Nat} (h : i < n) : ∀ m, n ≤ m → rd (bld F m) (i : Int) = rd (bld F n) (i : Int) := by
  intro m
  induction m with
  | zero => intro hm; omega
  | succ m ih =>
    intro hm
    by_cases e : n = m + 1
    · subst e; rfl
    · show rd (bld F m ++ [F (bld F m)]) (i : Int) = _
      rw [rd_app_l (by rw [bld_len]; omega)]
      exact ih (by omega)
theorem bld_at (F : List Int → Int) {i m : Nat} (h : i < m) : rd (bld F m) (i : Int) = F (bld F i) := by
  rw [bld_keep F (n := i + 1) (by omega) m (by omega)]
  show rd (bld F i ++ [F (bld F i)]) (i : Int) = _
  exact rd_app_r (by rw [bld_len])

/-- The terms of the inverse's sum behind its first element. -/
def invT (a out : List Int) (j : Nat) : Int := rd a ((j + 1 : Nat) : Int) * rd out ((out.length - 1 - j : Nat) : Int)
def invF (p : Int) (a out : List Int) : Int := if out.length = 0 then inv p (rd a 0) else (-(sm out.length (invT a out))) * inv p (rd a 0) % p
theorem invF_lt {p : Int} (hp : 0 < p) (a out : List Int) : 0 ≤ invF p a out ∧ invF p a out < p := by
  unfold invF; split
  · exact inv_lt hp _
  · exact em_lt hp
def invS (p : Int) (a : List Int) : List Int := bld (invF p a) a.length

def sumS (p : Int) (a : List Int) : List Int := 0 :: (List.range (a.length - 1)).map (fun (i : Nat) => rd a (i : Int) * inv p (((i + 1 : Nat) : Int) % p) % p)
theorem sumS_len {p : Int} {a : List Int} (h : 1 ≤ a.length) : (sumS p a).length = a.length := by simp [sumS]; omega
theorem sumS_el {p : Int} (hp : 0 < p) (a : List Int) : El p (sumS p a) := by
  intro x hx
  rcases List.mem_cons.1 hx with hx | hx
  · omega
  · exact El.map (p := p) (fun i _ => em_lt hp) x hx

def expT (b out : List Int) (j : Nat) : Int := ((j + 1 : Nat) : Int) * rd b ((j + 1 : Nat) : Int) * rd out ((out.length - 1 - j : Nat) : Int)
def expF (p : Int) (b out : List Int) : Int := if out.length = 0 then 1 else sm out.length (expT b out) * inv p ((out.length : Int) % p) % p
theorem expF_lt {p : Int} (hp : 1 < p) (a out : List Int) : 0 ≤ expF p a out ∧ expF p a out < p := by
  unfold expF; split
  · omega
  · exact em_lt (by omega)
def expS (p : Int) (b : List Int) : List Int := bld (expF p b) b.length

def sqrT (out : List Int) (j : Nat) : Int := rd out ((j + 1 : Nat) : Int) * rd out ((out.length - 1 - j : Nat) : Int)
def sqrF (p : Int) (a out : List Int) : Int := if out.length = 0 then 1 else (rd a (out.length : Int) - sm (out.length - 1) (sqrT out)) * inv p 2 % p
theorem sqrF_lt {p : Int} (hp : 1 < p) (a out : List Int) : 0 ≤ sqrF p a out ∧ sqrF p a out < p := by
  unfold sqrF; split
  · omega
  · exact em_lt (by omega)
def sqrS (p : Int) (a : List Int) : List Int := bld (sqrF p a) a.length

def intoR (p : Int) (a b : List Int) : Nat → List Int → List Int
  | 0, out => out
  | d + 1, out => intoR p a b d ((mulS p out b).set 0 ((rd (mulS p out b) 0 + rd a (d : Int)) % p))
def intoS (p : Int) (a b : List Int) : List Int := intoR p a b a.length (List.replicate a.length 0)

/-- A power by squaring. -/
def powR (m : List Int → List Int → List Int) : Nat → Nat → List Int → List Int → List Int
  | 0, _, _, out => out
  | n + 1, e, x, out => if e = 0 then out else powR m n (e / 2) (m x x) (if e % 2 = 1 then m out x else out)
theorem powR_zero (m : List Int → List Int → List Int) (n : Nat) (x out : List Int) : powR m n 0 x out = out := by
  cases n <;> simp [powR]
/-- The series 1. -/
def oneS (n : Nat) : List Int := 1 :: List.replicate (n - 1) 0
theorem oneS_len {n : Nat} (h : 1 ≤ n) : (oneS n).length = n := by simp [oneS]; omega
theorem oneS_el {p : Int} (hp : 1 < p) (n : Nat) : El p (oneS n) := by
  intro x hx
  rcases List.mem_cons.1 hx with hx | hx
  · omega
  · rw [List.mem_replicate] at hx; omega
theorem oneS_set {n : Nat} (h : 1 ≤ n) : (List.replicate n (0 : Int)).set (0 : Int).toNat 1 = oneS n := by
  obtain ⟨m, rfl⟩ : ∃ m, n = m + 1 := ⟨n - 1, by omega⟩
  rfl
end G7
