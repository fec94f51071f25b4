/- FnParts returns true for every input: the rows of digits stand for the vector, and Rejoin gives it back where the digits are elements. -/
import Derived.Test.YtgjogfohknjpmaaPFnPartsx9
import Derived.Test.YtgjogfohknjpmaaGB
import Derived.Test.YtgjogfohknjpmaaGD
set_option linter.unusedVariables false
set_option linter.unusedSimpArgs false
namespace Go.Proofs.Ytgjogfohknjpmaa.Pure
open Go.RowKit Go.Proofs.Ytgjogfohknjpmaa.PFnParts Go.Proofs.YtgjogfohknjpmaaW.PrintWords Go.Proofs.YtgjogfohknjpmaaW.PrintLast Go.Proofs.YtgjogfohknjpmaaW.PrintMore G7
theorem dr_New (L : List Int) (hL : L.length ≤ 140737488351232) : ∃ h, Ev (fun k => spec_l01New.f k L) (L, 0, h) := by
  have key : ∀ (d i : Nat) (x : Int), i + d = 4000 → ∃ h, Ev (fun k => spec_l01New.l0 k L x (i : Int)) (L, 0, h) := by
    intro d
    induction d with
    | zero =>
      intro i x hi
      refine ⟨x, ev_s ?_⟩
      have h2 : ¬ ((i : Int) < 4000) := by omega
      by_cases h1 : (i : Int) < (L.length : Int)
      · simp only [spec_l01New.l0, h1, h2, if_true, if_false]; exact Ev.now _
      · simp only [spec_l01New.l0, h1, if_false]; exact Ev.now _
    | succ d ih =>
      intro i x hi
      have h2 : (i : Int) < 4000 := by omega
      have h3 : (0 : Int) ≤ (i : Int) := by omega
      by_cases h1 : (i : Int) < (L.length : Int)
      · obtain ⟨h, hh⟩ := ih (i + 1) (Go.bits .and .i64 (wrap64 ((wrap64 ((wrap64 (x * 149)) + (wrap64 (rd L (i : Int))))) + 11)) 1073741823) (by omega)
        refine ⟨h, ev_s ?_⟩
        simp only [spec_l01New.l0, h1, h2, h3, if_true, w_succ (n := i) (by omega)]
        exact hh
      · refine ⟨x, ev_s ?_⟩
        simp only [spec_l01New.l0, h1, if_false]; exact Ev.now _
  unfold spec_l01New.f
  exact key 4000 0 _ (by omega)

theorem dr_Byte (L : List Int) (hL : L.length ≤ 140737488351232) (i h : Int) (hi : 0 ≤ i) : ∃ x i' h', spec_l01Byte.f L i h = some (x, i', h') ∧ 0 ≤ i' ∧ 0 ≤ x ∧ x ≤ 255 := by
  unfold spec_l01Byte.f
  simp only [i64_and255]
  by_cases c : i < (L.length : Int)
  · rw [if_pos c, if_pos hi]
    exact ⟨_, _, _, rfl, by rw [w64 (by omega) (by omega)]; omega, by omega, by omega⟩
  · rw [if_neg c]
    exact ⟨_, _, _, rfl, hi, by omega, by omega⟩

theorem dr_Below (L : List Int) (hL : L.length ≤ 140737488351232) (i h n : Int) (hi : 0 ≤ i) : ∃ x i' h', spec_l01Below.f L i h n = some (x, i', h') ∧ 0 ≤ i' ∧ 0 ≤ x ∧ (0 < n → x < n) := by
  unfold spec_l01Below.f
  by_cases c : n ≤ 0
  · rw [if_pos c]
    exact ⟨_, _, _, rfl, hi, by omega, by omega⟩
  · rw [if_neg c]
    by_cases c2 : n ≤ 256
    · rw [if_pos c2]
      obtain ⟨x, i1, h1, e1, hi1, hx0, hx1⟩ := dr_Byte L hL i h hi
      simp only [e1, Option.bind_some]
      rw [if_neg (by omega), tmod_nn hx0]
      exact ⟨_, _, _, rfl, hi1, (em_lt (by omega)).1, fun _ => (em_lt (by omega)).2⟩
    · rw [if_neg c2]
      obtain ⟨x, i1, h1, e1, hi1, hx0, hx1⟩ := dr_Byte L hL i h hi
      obtain ⟨y, i2, h2, e2, hi2, hy0, hy1⟩ := dr_Byte L hL i1 h1 hi1
      obtain ⟨z, i3, h3, e3, hi3, hz0, hz1⟩ := dr_Byte L hL i2 h2 hi2
      simp only [e1, e2, e3, Option.bind_some]
      rw [if_neg (by omega), w64 (x := x * 65536) (by omega) (by omega), w64 (x := y * 256) (by omega) (by omega), w64 (x := x * 65536 + y * 256) (by omega) (by omega), w64 (by omega) (by omega), tmod_nn (by omega)]
      exact ⟨_, _, _, rfl, hi3, (em_lt (by omega)).1, fun _ => (em_lt (by omega)).2⟩

theorem dr_Once (L : List Int) (hL : L.length ≤ 140737488351232) (i h n : Int) (hi : 0 ≤ i) : ∃ b i' h', spec_l01Once.f L i h n = some (b, i', h') ∧ 0 ≤ i' := by
  unfold spec_l01Once.f
  obtain ⟨x, i1, h1, e1, hi1, hx0, hx1⟩ := dr_Below L hL i h n hi
  simp only [e1, Option.bind_some]
  exact ⟨_, _, _, rfl, hi1⟩

theorem dr_Pick (L : List Int) (hL : L.length ≤ 140737488351232) (i h : Int) (l : List Int) (hl : 0 < l.length) (hi : 0 ≤ i) : ∃ x i' h', spec_l01PickInt.f L i h l = some (x, i', h') ∧ 0 ≤ i' ∧ x ∈ l := by
  unfold spec_l01PickInt.f
  obtain ⟨x, i1, h1, e1, hi1, hx0, hx1⟩ := dr_Below L hL i h (l.length : Int) hi
  have hx2 := hx1 (by omega)
  simp only [e1, Option.bind_some]
  rw [if_pos hx0, if_pos hx2]
  refine ⟨_, _, _, rfl, hi1, ?_⟩
  obtain ⟨n, rfl⟩ : ∃ n : Nat, x = n := ⟨x.toNat, by omega⟩
  rw [rd_at (by omega)]
  exact List.getElem_mem _

theorem dr_Field (L : List Int) (hL : L.length ≤ 140737488351232) (i h : Int) (hi : 0 ≤ i) : ∃ x i' h', spec_l01DrawField.f L i h = some (x, i', h') ∧ 0 ≤ i' ∧ -1 ≤ x ∧ x ≤ 100 := by
  unfold spec_l01DrawField.f
  obtain ⟨b, i1, h1, e1, hi1⟩ := dr_Once L hL i h 20 hi
  simp only [e1, Option.bind_some]
  cases b with
  | true =>
    obtain ⟨x, i2, h2, e2, hi2, hx⟩ := dr_Pick L hL i1 h1 ([-1, 9, 100] : List Int) (by decide) hi1
    simp only [e2, Option.bind_some, if_true]
    simp only [List.mem_cons, List.mem_nil_iff, or_false] at hx
    exact ⟨_, _, _, rfl, hi2, by omega, by omega⟩
  | false =>
    obtain ⟨x, i2, h2, e2, hi2, hx0, hx1⟩ := dr_Below L hL i1 h1 9 hi1
    have := hx1 (by omega)
    simp only [e2, Option.bind_some, Bool.false_eq_true, if_false]
    exact ⟨_, _, _, rfl, hi2, by omega, by omega⟩

theorem ev_Modulus (f : Int) : spec_Modulus.f f = some (md f) := by
  unfold spec_Modulus.f md
  by_cases h0 : f = 0
  · rw [if_pos h0, if_pos h0]
  rw [if_neg h0, if_neg h0]
  by_cases h1 : f = 1
  · rw [if_pos h1, if_pos h1]
  rw [if_neg h1, if_neg h1]
  by_cases h2 : f = 2
  · rw [if_pos h2, if_pos h2]
  rw [if_neg h2, if_neg h2]
  by_cases h3 : f = 3
  · rw [if_pos h3, if_pos h3]
  rw [if_neg h3, if_neg h3]
  by_cases h4 : f = 4
  · rw [if_pos h4, if_pos h4]
  rw [if_neg h4, if_neg h4]
  by_cases h5 : f = 5
  · rw [if_pos h5, if_pos h5]
  rw [if_neg h5, if_neg h5]
  by_cases h6 : f = 6
  · rw [if_pos h6, if_pos h6]
  rw [if_neg h6, if_neg h6]
  by_cases h7 : f = 7
  · rw [if_pos h7, if_pos h7]
  rw [if_neg h7, if_neg h7]
  by_cases h8 : f = 8
  · rw [if_pos h8, if_pos h8]
  rw [if_neg h8, if_neg h8]

theorem dr_Element (L : List Int) (hL : L.length ≤ 140737488351232) (i h f : Int) (hi : 0 ≤ i) : ∃ x i' h', spec_l01DrawElement.f L i h f = some (x, i', h') ∧ 0 ≤ i' := by
  unfold spec_l01DrawElement.f
  simp only [ev_Modulus, Option.bind_some]
  by_cases c : md f = 0
  · obtain ⟨x, i1, h1, e1, hi1, _⟩ := dr_Below L hL i h 50 hi
    simp only [c, e1, Option.bind_some, if_true]
    exact ⟨_, _, _, rfl, hi1⟩
  · obtain ⟨x, i1, h1, e1, hi1, _⟩ := dr_Below L hL i h 6 hi
    simp only [c, e1, Option.bind_some, if_false]
    by_cases c0 : x = 0
    · obtain ⟨y, i2, h2, e2, hi2, _⟩ := dr_Below L hL i1 h1 3 hi1
      simp only [c0, e2, Option.bind_some, if_true]
      exact ⟨_, _, _, rfl, hi2⟩
    by_cases c1 : x = 1
    · obtain ⟨y, i2, h2, e2, hi2, _⟩ := dr_Below L hL i1 h1 3 hi1
      simp only [c0, c1, e2, Option.bind_some, if_true, if_false]
      exact ⟨_, _, _, rfl, hi2⟩
    by_cases c2 : x = 2
    · obtain ⟨y, i2, h2, e2, hi2, _⟩ := dr_Below L hL i1 h1 16777216 hi1
      obtain ⟨z, i3, h3, e3, hi3, _⟩ := dr_Below L hL i2 h2 256 hi2
      simp only [c0, c1, c2, e2, e3, Option.bind_some, if_true, if_false]
      exact ⟨_, _, _, rfl, hi3⟩
    · obtain ⟨y, i2, h2, e2, hi2, _⟩ := dr_Below L hL i1 h1 30 hi1
      simp only [c0, c1, c2, e2, Option.bind_some, if_false]
      exact ⟨_, _, _, rfl, hi2⟩

theorem dr_List (L : List Int) (hL : L.length ≤ 140737488351232) (i h f n : Int) (hi : 0 ≤ i) (hn : n ≤ 1048576) : ∃ out i' h', Ev (fun k => spec_l01DrawList.f k L i h f n) (out, i', h') ∧ out.length = n.toNat ∧ 0 ≤ i' := by
  have key : ∀ (d c : Nat) (out : List Int) (i h : Int), c + d = n.toNat → out.length = c → 0 ≤ i → ∃ out' i' h', Ev (fun k => spec_l01DrawList.l0 k f n out (c : Int) L i h) (out', i', h') ∧ out'.length = n.toNat ∧ 0 ≤ i' := by
    intro d
    induction d with
    | zero =>
      intro c out i h hc ho hi
      refine ⟨out, i, h, ev_s ?_, by omega, hi⟩
      have h1 : ¬ ((c : Int) < n) := by omega
      simp only [spec_l01DrawList.l0, h1, if_false]; exact Ev.now _
    | succ d ih =>
      intro c out i h hc ho hi
      obtain ⟨x, i1, h1, e1, hi1⟩ := dr_Element L hL i h f hi
      obtain ⟨o2, i2, h2, e2, hl2, hi2⟩ := ih (c + 1) (out ++ [x]) i1 h1 (by omega) (by simp [ho]) hi1
      refine ⟨o2, i2, h2, ev_s ?_, hl2, hi2⟩
      have g1 : (c : Int) < n := by omega
      have g2 : out.length < 17592186044416 := by omega
      simp only [spec_l01DrawList.l0, g1, g2, e1, Option.bind_some, if_true, w_succ (n := c) (by omega)]
      exact e2
  unfold spec_l01DrawList.f
  exact key n.toNat 0 [] i h (by omega) rfl hi

theorem ev_TwoPower (f : Int) : Ev (fun k => spec_TwoPower.f k f) (tp f) := by
  unfold spec_TwoPower.f
  simp only [ev_Modulus, Option.bind_some]
  by_cases h : 0 ≤ f ∧ f < 9
  · have hp := pm_of h
    unfold Pm at hp
    obtain ⟨e1, e2, e3, e4, e5⟩ := oddP_spec h
    simp only [show ¬ (md f = 0) from by omega, if_false, w64 (x := md f - 1) (by omega) (by omega)]
    have key : ∀ (t : Nat) (c : Int), 0 ≤ c → c + t ≤ 100 → oddP f * ((2 ^ t : Nat) : Int) ≤ md f - 1 → Ev (fun k => spec_TwoPower.l0 k c (oddP f * ((2 ^ t : Nat) : Int))) (c + t) := by
      intro t
      induction t with
      | zero =>
        intro c hc hct hb
        refine ev_s ?_
        rw [Nat.pow_zero, Int.natCast_one, Int.mul_one] at *
        have h1 : ¬ (Int.tmod (oddP f) 2 = 0) := by rw [tmod_nn (by omega)]; omega
        simp only [spec_TwoPower.l0, h1, if_false, Int.natCast_zero, Int.add_zero]; exact Ev.now _
      | succ t ih =>
        intro c hc hct hb
        have e : oddP f * ((2 ^ (t + 1) : Nat) : Int) = 2 * (oddP f * ((2 ^ t : Nat) : Int)) := by
          rw [Nat.pow_succ, Int.natCast_mul, ← Int.mul_assoc, Int.mul_comm]; rfl
        have hq : 0 ≤ oddP f * ((2 ^ t : Nat) : Int) := Int.mul_nonneg (by omega) (Int.natCast_nonneg _)
        rw [e] at hb ⊢
        have hs := ih (c + 1) (by omega) (by omega) (by omega)
        generalize oddP f * ((2 ^ t : Nat) : Int) = q at *
        refine ev_s ?_
        have h1 : Int.tmod (2 * q) 2 = 0 := by rw [tmod_nn (by omega)]; omega
        have h2 : wrap64 (Int.tdiv (2 * q) 2) = q := by
          rw [Int.tdiv_eq_ediv_of_nonneg (by omega), w64 (by omega) (by omega)]; omega
        simp only [spec_TwoPower.l0, h1, h2, if_true, w64 (x := c + 1) (by omega) (by omega)]
        exact ev_to hs (by omega)
    have := key (tp f).toNat 0 (by omega) (by omega) (by omega)
    rw [← e1] at this
    exact ev_to this (by omega)
  · simp only [md_bad h, if_true]
    rw [tp_bad h]; exact Ev.now _

theorem dr_Vector (L l2 : List Int) (hL : L.length ≤ 140737488351232) (i h f : Int) (hi : 0 ≤ i) : ∃ v i' h', Ev (fun k => spec_l04DrawVector.f k L i h f l2) (v, i', h') ∧ v.length ≤ 4096 ∧ 0 ≤ i' := by
  have j4 : ∀ (c : Nat) (i h : Int), c ≤ 9 → 0 ≤ i → ∃ v i' h', Ev (fun k => spec_l04DrawVector.j4 k f (c : Int) L i h) (v, i', h') ∧ v.length ≤ 4096 ∧ 0 ≤ i' := by
    intro c i h hc hi
    have h2 := two_pow_le hc
    obtain ⟨o, i1, h1, e1, hl1, hi1⟩ := dr_List L hL i h f ((2 ^ c : Nat) : Int) hi (by omega)
    rw [Int.toNat_natCast] at hl1
    obtain ⟨b, i2, h2', e2, hi2⟩ := dr_Once L hL i1 h1 12 hi1
    have g1 : (0 : Int) ≤ (c : Int) := by omega
    have hu : Go.IntKind.u64.wrap (c : Int) = (c : Int) := u64_id (by omega) (by omega)
    cases b with
    | false =>
      refine ⟨o, i2, h2', ev_s ?_, by omega, hi2⟩
      simp only [spec_l04DrawVector.j4, hu, g1, if_true, shl1 (c := c) (by omega)]
      refine Ev.bind e1 ?_
      simp only [e2, Option.bind_some, Bool.false_eq_true, if_false]; exact Ev.now _
    | true =>
      obtain ⟨x, i3, h3, e3, hi3, hx0, hx1⟩ := dr_Below L hL i2 h2' 3 hi2
      by_cases c0 : x = 0
      · refine ⟨o ++ [0], i3, h3, ev_s ?_, by simp; omega, hi3⟩
        simp only [spec_l04DrawVector.j4, hu, g1, if_true, shl1 (c := c) (by omega)]
        refine Ev.bind e1 ?_
        simp only [e2, e3, c0, Option.bind_some, if_true, show o.length < 17592186044416 from by omega]; exact Ev.now _
      by_cases c1 : x = 1
      · obtain ⟨y, i4, h4, e4, hi4, hy0, hy1⟩ := dr_Below L hL i3 h3 (o.length : Int) hi3
        have hy2 := hy1 (by omega)
        obtain ⟨z, i5, h5, e5, hi5, _⟩ := dr_Pick L hL i4 h4 ([(-1), md f] : List Int) (by simp) hi4
        refine ⟨o.set y.toNat z, i5, h5, ev_s ?_, by rw [List.length_set]; omega, hi5⟩
        simp only [spec_l04DrawVector.j4, hu, g1, if_true, shl1 (c := c) (by omega)]
        refine Ev.bind e1 ?_
        simp only [e2, e3, c0, c1, e4, ev_Modulus, e5, hy0, hy2, Option.bind_some, if_true, if_false, show ¬ ((1 : Int) = 0) from by decide]; exact Ev.now _
      by_cases c2 : x = 2
      · refine ⟨[], i3, h3, ev_s ?_, by simp, hi3⟩
        simp only [spec_l04DrawVector.j4, hu, g1, if_true, shl1 (c := c) (by omega)]
        refine Ev.bind e1 ?_
        simp only [e2, e3, c0, c1, c2, Option.bind_some, if_true, if_false, show ¬ ((2 : Int) = 0) from by decide, show ¬ ((2 : Int) = 1) from by decide]; exact Ev.now _
      · refine ⟨o, i3, h3, ev_s ?_, by omega, hi3⟩
        simp only [spec_l04DrawVector.j4, hu, g1, if_true, shl1 (c := c) (by omega)]
        refine Ev.bind e1 ?_
        simp only [e2, e3, c0, c1, c2, Option.bind_some, if_true, if_false]; exact Ev.now _
  have j3 : ∀ (c : Nat) (i h : Int), c ≤ 9 → 0 ≤ i → ∃ v i' h', Ev (fun k => spec_l04DrawVector.j3 k f (c : Int) L i h) (v, i', h') ∧ v.length ≤ 4096 ∧ 0 ≤ i' := by
    intro c i h hc hi
    obtain ⟨b, i1, h1, e1, hi1⟩ := dr_Once L hL i h 25 hi
    cases b with
    | false =>
      obtain ⟨v, i2, h2, e2, r⟩ := j4 c i1 h1 hc hi1
      refine ⟨v, i2, h2, ev_s ?_, r⟩
      simp only [spec_l04DrawVector.j3, e1, Option.bind_some, Bool.false_eq_true, if_false]; exact e2
    | true =>
      obtain ⟨x, i2, h2, e2, hi2, hx⟩ := dr_Pick L hL i1 h1 ([0, 5, 9] : List Int) (by decide) hi1
      simp only [List.mem_cons, List.mem_nil_iff, or_false] at hx
      obtain ⟨n, rfl⟩ : ∃ n : Nat, x = n := ⟨x.toNat, by omega⟩
      obtain ⟨v, i3, h3, e3, r⟩ := j4 n i2 h2 (by omega) hi2
      refine ⟨v, i3, h3, ev_s ?_, r⟩
      simp only [spec_l04DrawVector.j3, e1, e2, Option.bind_some, if_true]; exact e3
  have j2 : ∀ (c t : Nat) (b : Bool) (i h : Int), c ≤ 9 → (b = true → t ≤ 9) → 0 ≤ i → ∃ v i' h', Ev (fun k => spec_l04DrawVector.j2 k f (c : Int) (t : Int) b L i h) (v, i', h') ∧ v.length ≤ 4096 ∧ 0 ≤ i' := by
    intro c t b i h hc ht hi
    cases b with
    | true =>
      obtain ⟨v, i3, h3, e3, r⟩ := j3 t i h (ht rfl) hi
      refine ⟨v, i3, h3, ev_s ?_, r⟩
      simp only [spec_l04DrawVector.j2, if_true]; exact e3
    | false =>
      obtain ⟨v, i3, h3, e3, r⟩ := j3 c i h hc hi
      refine ⟨v, i3, h3, ev_s ?_, r⟩
      simp only [spec_l04DrawVector.j2, Bool.false_eq_true, if_false]; exact e3
  have j2' : ∀ (c : Nat) (t : Int) (i h : Int), c ≤ 9 → 0 ≤ i → ∃ v i' h', Ev (fun k => spec_l04DrawVector.j2 k f (c : Int) t false L i h) (v, i', h') ∧ v.length ≤ 4096 ∧ 0 ≤ i' := by
    intro c t i h hc hi
    obtain ⟨v, i3, h3, e3, r⟩ := j3 c i h hc hi
    refine ⟨v, i3, h3, ev_s ?_, r⟩
    simp only [spec_l04DrawVector.j2, Bool.false_eq_true, if_false]; exact e3
  have j1 : ∀ (c : Nat) (i h : Int), c ≤ 8 → 0 ≤ i → ∃ v i' h', Ev (fun k => spec_l04DrawVector.j1 k f (c : Int) L i h) (v, i', h') ∧ v.length ≤ 4096 ∧ 0 ≤ i' := by
    intro c i h hc hi
    obtain ⟨x, i1, h1, e1, hi1, hx0, hx1⟩ := dr_Below L hL i h ((c : Int) + 2) hi
    have hx2 := hx1 (by omega)
    obtain ⟨n, rfl⟩ : ∃ n : Nat, x = n := ⟨x.toNat, by omega⟩
    by_cases ht : tp f ≥ 0
    · obtain ⟨t, ht2⟩ : ∃ t : Nat, tp f = t := ⟨(tp f).toNat, by omega⟩
      obtain ⟨v, i3, h3, e3, r⟩ := j2 n t (decide ((n : Int) > (t : Int))) i1 h1 (by omega) (fun c => by have := of_decide_eq_true c; omega) hi1
      refine ⟨v, i3, h3, ev_s ?_, r⟩
      simp only [spec_l04DrawVector.j1, w64 (x := (c : Int) + 2) (by omega) (by omega), e1, Option.bind_some]
      refine Ev.bind (ev_TwoPower f) ?_
      simp only [ht, if_true]
      rw [ht2]; exact e3
    · obtain ⟨v, i3, h3, e3, r⟩ := j2' n (tp f) i1 h1 (by omega) hi1
      refine ⟨v, i3, h3, ev_s ?_, r⟩
      simp only [spec_l04DrawVector.j1, w64 (x := (c : Int) + 2) (by omega) (by omega), e1, Option.bind_some]
      refine Ev.bind (ev_TwoPower f) ?_
      simp only [ht, if_false]; exact e3
  have l0 : ∀ (d c : Nat), c + d = 8 → ∃ v i' h', Ev (fun k => spec_l04DrawVector.l0 k f l2 (c : Int) L i h) (v, i', h') ∧ v.length ≤ 4096 ∧ 0 ≤ i' := by
    intro d
    induction d with
    | zero =>
      intro c hc
      obtain ⟨v, i3, h3, e3, r⟩ := j1 c i h (by omega) hi
      refine ⟨v, i3, h3, ev_s ?_, r⟩
      have g1 : ¬ ((c : Int) < 8) := by omega
      simp only [spec_l04DrawVector.l0, g1, if_false]; exact e3
    | succ d ih =>
      intro c hc
      have g1 : (c : Int) < 8 := by omega
      have g2 : (0 : Int) ≤ (c : Int) := by omega
      have hu : Go.IntKind.u64.wrap (c : Int) = (c : Int) := u64_id (by omega) (by omega)
      by_cases q : shl .i64 4 (c : Int) < (l2.length : Int)
      · obtain ⟨v, i3, h3, e3, r⟩ := ih (c + 1) (by omega)
        refine ⟨v, i3, h3, ev_s ?_, r⟩
        simp only [spec_l04DrawVector.l0, g1, g2, hu, q, if_true, w_succ (n := c) (by omega)]; exact e3
      · obtain ⟨v, i3, h3, e3, r⟩ := j1 c i h (by omega) hi
        refine ⟨v, i3, h3, ev_s ?_, r⟩
        simp only [spec_l04DrawVector.l0, g1, g2, hu, q, if_true, if_false]; exact e3
  unfold spec_l04DrawVector.f
  exact l0 8 0 (by omega)

theorem dr_l08Open (L : List Int) (hL : L.length ≤ 140737488351232) (i h : Int) (hi : 0 ≤ i) : ∃ f v i' h', Ev (fun k => spec_l08DrawOpen.f k L L i h) (f, v, i', h') ∧ v.length ≤ 4096 ∧ 0 ≤ i' := by
  obtain ⟨f, i2, h2, e2, hi2, _⟩ := dr_Field L hL i h hi
  obtain ⟨v, i3, h3, e3, hv, hi3⟩ := dr_Vector L L hL i2 h2 f hi2
  by_cases c1 : tp f > 0
  · have hf : 0 ≤ f ∧ f < 9 := by
      by_cases hf : 0 ≤ f ∧ f < 9
      · exact hf
      · have := tp_bad hf; omega
    have hb := (isF hf.1 hf.2).bounds
    have eu : Go.IntKind.u64.wrap (tp f) = tp f := u64_id (by omega) (by omega)
    have g0 : 0 ≤ tp f := by omega
    by_cases c2 : (v.length : Int) = shl .i64 1 (tp f)
    · obtain ⟨b, i4, h4, e4, hi4⟩ := dr_Once L hL i3 h3 4 hi3
      cases b with
      | true =>
        refine ⟨f, v, i4, h4, ?_, hv, hi4⟩
        unfold spec_l08DrawOpen.f
        refine Ev.bind (ev_c e2) ?_
        refine Ev.bind e3 ?_
        refine Ev.bind (ev_TwoPower f) ?_
        simp only [c1, eu, g0, c2, if_true]
        refine Ev.bind (ev_c e4) ?_
        simp only [if_true]; exact Ev.now _
      | false =>
        have ew : wrap64 ((v.length : Int) / 2) = (v.length : Int) / 2 := w64 (by omega) (by omega)
        have g1 : 0 ≤ (v.length : Int) / 2 := by omega
        have g2 : (v.length : Int) / 2 ≤ (v.length : Int) := by omega
        refine ⟨f, v.take ((v.length : Int) / 2).toNat, i4, h4, ?_, by rw [List.length_take]; omega, hi4⟩
        unfold spec_l08DrawOpen.f
        refine Ev.bind (ev_c e2) ?_
        refine Ev.bind e3 ?_
        refine Ev.bind (ev_TwoPower f) ?_
        simp only [c1, eu, g0, if_true]
        rw [if_pos c2]
        refine Ev.bind (ev_c e4) ?_
        simp only [Bool.false_eq_true, if_false, ew, g1, g2, if_true]; exact Ev.now _
    · refine ⟨f, v, i3, h3, ?_, hv, hi3⟩
      unfold spec_l08DrawOpen.f
      refine Ev.bind (ev_c e2) ?_
      refine Ev.bind e3 ?_
      refine Ev.bind (ev_TwoPower f) ?_
      simp only [c1, eu, g0, c2, if_true, if_false]; exact Ev.now _
  · refine ⟨f, v, i3, h3, ?_, hv, hi3⟩
    unfold spec_l08DrawOpen.f
    refine Ev.bind (ev_c e2) ?_
    refine Ev.bind e3 ?_
    refine Ev.bind (ev_TwoPower f) ?_
    simp only [c1, if_false]; exact Ev.now _

theorem dr_DDP0 (L : List Int) (hL : L.length ≤ 140737488351232) (f : Int) (v : List Int) (b i h : Int) (hi : 0 ≤ i) : ∀ n j : Nat, j + n = 40 → ∀ R : Int, ∃ c, Ev (fun k => spec_DrawDigitParts.l0 k f v b (j : Int) R L i h) (f, v, b, c) := by
  obtain ⟨x, i4, h4, e4, _⟩ := dr_Pick L hL i h ([0, 0, 1, 2, (-1)] : List Int) (by simp) hi
  intro n
  induction n with
  | zero =>
    intro j e R
    refine ⟨wrap64 ((j : Int) + x), ?_⟩
    refine ev_s ?_
    have g1 : ¬ ((j : Int) < 40) := by omega
    simp only [spec_DrawDigitParts.l0]
    refine Ev.bind (ev_c (ev_Modulus f)) ?_
    by_cases c1 : R < md f
    · simp only [if_pos c1]
      by_cases c2 : b > 1
      · simp only [if_pos c2, if_neg g1]
        refine Ev.bind (ev_c e4) ?_
        exact Ev.now _
      · simp only [if_neg c2]
        refine Ev.bind (ev_c e4) ?_
        exact Ev.now _
    · simp only [if_neg c1]
      refine Ev.bind (ev_c e4) ?_
      exact Ev.now _
  | succ n ih =>
    intro j e R
    have g1 : ((j : Int) < 40) := by omega
    by_cases c1 : R < md f
    · by_cases c2 : b > 1
      · obtain ⟨c, hc⟩ := ih (j + 1) (by omega) (wrap64 (R * b))
        refine ⟨c, ?_⟩
        refine ev_s ?_
        simp only [spec_DrawDigitParts.l0]
        refine Ev.bind (ev_c (ev_Modulus f)) ?_
        simp only [if_pos c1, if_pos c2, if_pos g1, w_succ (n := j) (by omega)]
        exact hc
      · refine ⟨wrap64 ((j : Int) + x), ?_⟩
        refine ev_s ?_
        simp only [spec_DrawDigitParts.l0]
        refine Ev.bind (ev_c (ev_Modulus f)) ?_
        simp only [if_pos c1, if_neg c2]
        refine Ev.bind (ev_c e4) ?_
        exact Ev.now _
    · refine ⟨wrap64 ((j : Int) + x), ?_⟩
      refine ev_s ?_
      simp only [spec_DrawDigitParts.l0]
      refine Ev.bind (ev_c (ev_Modulus f)) ?_
      simp only [if_neg c1]
      refine Ev.bind (ev_c e4) ?_
      exact Ev.now _
theorem dr_DrawDigitParts (L : List Int) (hL : L.length ≤ 140737488351232) : ∃ f v b c, Ev (fun k => spec_DrawDigitParts.f k L) (f, v, b, c) ∧ v.length ≤ 4096 := by
  obtain ⟨h, hn⟩ := dr_New L hL
  obtain ⟨f, v, i2, h2, e2, hv, hi2⟩ := dr_l08Open L hL 0 h (by omega)
  obtain ⟨x, i3, h3, e3, hi3, _⟩ := dr_Below L hL i2 h2 65000 hi2
  obtain ⟨b, i4, h4, e4, hi4, _⟩ := dr_Pick L hL i3 h3 ([2, 3, 10, 17, 257, 65536, wrap64 (2 + x), 1, 65537] : List Int) (by simp) hi3
  obtain ⟨c, hc⟩ := dr_DDP0 L hL f v b i4 h4 hi4 39 1 rfl b
  refine ⟨f, v, b, c, ?_, hv⟩
  unfold spec_DrawDigitParts.f
  refine Ev.bind hn ?_
  refine Ev.bind e2 ?_
  refine Ev.bind (ev_c e3) ?_
  refine Ev.bind (ev_c e4) ?_
  exact hc

theorem ev_cp (l : List Int) (hl : l.length ≤ 1048576) : Ev (fun k => laws_cp.f k l) l := by
  have key : ∀ (d i : Nat), i + d = l.length → Ev (fun k => laws_cp.l0 k l (l.take i) (i : Int)) l := by
    intro d
    induction d with
    | zero =>
      intro i hi
      refine ev_s ?_
      have g1 : ¬ ((i : Int) < (l.length : Int)) := by omega
      simp only [laws_cp.l0, g1, if_false]
      rw [List.take_of_length_le (by omega)]; exact Ev.now _
    | succ d ih =>
      intro i hi
      refine ev_s ?_
      have g1 : (i : Int) < (l.length : Int) := by omega
      have g2 : (0 : Int) ≤ (i : Int) := by omega
      have g3 : (l.take i).length < 17592186044416 := by rw [List.length_take]; omega
      simp only [laws_cp.l0, g1, g2, g3, if_true, w_succ (n := i) (by omega)]
      rw [rd_at (show i < l.length by omega), List.take_append_getElem (show i < l.length by omega)]
      exact ih (i + 1) (by omega)
  exact key l.length 0 (by omega)

theorem ev_same (l : List Int) (hl : l.length ≤ 1048576) : Ev (fun k => laws_same.f k l l) true := by
  have key : ∀ (d i : Nat), i + d = l.length → Ev (fun k => laws_same.l0 k l l (i : Int)) true := by
    intro d
    induction d with
    | zero =>
      intro i hi
      refine ev_s ?_
      have h1 : ¬ ((i : Int) < (l.length : Int)) := by omega
      simp only [laws_same.l0, h1, if_false]
      exact Ev.now _
    | succ d ih =>
      intro i hi
      refine ev_s ?_
      have h1 : (i : Int) < (l.length : Int) := by omega
      have h2 : (0 : Int) ≤ (i : Int) := by omega
      simp only [laws_same.l0, h1, h2, if_true, w_succ (n := i) (by omega)]
      exact ih (i + 1) (by omega)
  unfold laws_same.f
  simp only [if_true]
  exact key l.length 0 (by omega)

/-- The digits of the elements in `n` rows, the least ahead. -/
def dpS (b : Int) : Nat → List Int → List (List Int)
  | 0, _ => []
  | n + 1, v => v.map (fun x => x % b) :: dpS b n (v.map (fun x => x / b))
theorem dpS_len (b : Int) : ∀ (n : Nat) (v : List Int), (dpS b n v).length = n
  | 0, _ => rfl
  | n + 1, v => by show (dpS b n _).length + 1 = n + 1; rw [dpS_len b n]
/-- Elements that no quotient takes out of the numbers. -/
def Sm (v : List Int) : Prop := ∀ x ∈ v, 0 ≤ x ∧ x < 4611686018427387904
theorem Sm.div {v : List Int} (h : Sm v) {b : Int} (hb : 0 < b) : Sm (v.map (fun x => x / b)) := by
  intro y hy
  rw [List.mem_map] at hy
  obtain ⟨x, hx, rfl⟩ := hy
  have := h x hx
  have h1 : 0 ≤ x / b := Int.ediv_nonneg this.1 (by omega)
  have h2 : x / b ≤ x := Int.ediv_le_self _ this.1
  omega
theorem Sm.of {v : List Int} {p : Int} (h : El p v) (hp : Pm p) : Sm v := fun x hx => by
  have := h x hx
  unfold Pm at hp
  omega
theorem part_rd {A v : List Int} {i : Nat} (hA : A.length = i) (hi : i < v.length) : rd (A ++ v.drop i) (i : Int) = rd v (i : Int) := by
  subst hA
  unfold rd
  rw [Int.toNat_natCast, List.getD_eq_getElem?_getD, List.getD_eq_getElem?_getD, List.getElem?_append_right (Nat.le_refl _), Nat.sub_self, List.getElem?_drop, Nat.add_zero]
theorem part_set {A v : List Int} {i : Nat} (hA : A.length = i) (hi : i < v.length) (x : Int) : (A ++ v.drop i).set i x = A ++ [x] ++ v.drop (i + 1) := by
  subst hA
  rw [List.drop_eq_getElem_cons hi, List.set_append_right _ _ (Nat.le_refl _), Nat.sub_self, List.set_cons_zero, List.append_assoc]
  rfl
theorem take_map_snoc {v : List Int} {i : Nat} (hi : i < v.length) (h : Int → Int) : (v.take i).map h ++ [h (rd v (i : Int))] = (v.take (i + 1)).map h := by
  rw [rd_at hi, ← List.take_append_getElem hi, List.map_append]
  rfl
theorem take_map_len {v : List Int} {i : Nat} (hi : i ≤ v.length) (h : Int → Int) : ((v.take i).map h).length = i := by
  rw [List.length_map, List.length_take]; omega
/-- Both DigitParts. -/
def dpOk (f : Int) (v : List Int) (b c : Int) : Prop := VecOk f v ∧ (2 ≤ b ∧ b ≤ 65536) ∧ (1 ≤ c ∧ c ≤ 32)
theorem pw_mono {b : Int} (hb : 1 ≤ b) (d : Nat) : ∀ n : Nat, b ^ d ≤ b ^ (d + n)
  | 0 => Int.le_refl _
  | n + 1 => by
    have ih := pw_mono hb d n
    have h0 : 0 ≤ b ^ (d + n) := Int.pow_nonneg (by omega)
    have : b ^ (d + (n + 1)) = b ^ (d + n) * b := Int.pow_succ _ _
    rw [this]
    have := Int.mul_le_mul_of_nonneg_left hb h0
    omega

theorem ev_LogOf (n : Int) : Ev (fun k => spec_LogOf.f k n) (lg n) := by
  have key : ∀ (d c : Nat), c + d = 10 → Ev (fun k => spec_LogOf.l0 k n (c : Int)) (lgA n d c) := by
    intro d
    induction d with
    | zero =>
      intro c hc
      refine ev_s ?_
      have h1 : ¬ ((c : Int) ≤ 9) := by omega
      simp only [spec_LogOf.l0, h1, if_false]; exact Ev.now _
    | succ d ih =>
      intro c hc
      refine ev_s ?_
      have h1 : (c : Int) ≤ 9 := by omega
      have h2 : (0 : Int) ≤ (c : Int) := by omega
      simp only [spec_LogOf.l0, h1, u64_id (x := (c : Int)) (by omega) (by omega), h2, if_true, shl1 (c := c) (by omega), w_succ (n := c) (by omega)]
      unfold lgA
      by_cases h : n = ((2 ^ c : Nat) : Int)
      · rw [if_pos h]; simp only [if_pos h]; exact Ev.now _
      · rw [if_neg h]; simp only [if_neg h]; exact ih (c + 1) (by omega)
  exact key 10 0 rfl

theorem ev_l01In (x a b : Int) : spec_l01In.f x a b = some (decide (a ≤ x) && decide (x ≤ b)) := by
  unfold spec_l01In.f
  by_cases h : a ≤ x
  · rw [if_pos h, decide_eq_true h, Bool.true_and]
  · rw [if_neg h, decide_eq_false h, Bool.false_and]

theorem ev_l03Elements {f : Int} (h : 0 ≤ f ∧ f < 9) (l : List Int) (hl : l.length ≤ 35184372088832) : Ev (fun k => spec_l03Elements.f k f l) (elB (md f) l) := by
  have hp := pm_of h
  unfold Pm at hp
  have key : ∀ (d i : Nat), i + d = l.length → Ev (fun k => spec_l03Elements.l0 k l (md f) (i : Int)) (elB (md f) (l.drop i)) := by
    intro d
    induction d with
    | zero =>
      intro i hi
      refine ev_s ?_
      have h1 : ¬ ((i : Int) < (l.length : Int)) := by omega
      simp only [spec_l03Elements.l0, h1, if_false]
      rw [List.drop_of_length_le (by omega)]
      exact Ev.now _
    | succ d ih =>
      intro i hi
      refine ev_s ?_
      have h1 : (i : Int) < (l.length : Int) := by omega
      have h2 : (0 : Int) ≤ (i : Int) := by omega
      simp only [spec_l03Elements.l0, h1, h2, if_true, w_succ (n := i) (by omega), w64 (x := md f - 1) (by omega) (by omega), ev_l01In, Option.bind_some]
      rw [elB_drop (by omega)]
      rw [show decide (rd l (i : Int) < md f) = decide (rd l (i : Int) ≤ md f - 1) from decide_eq_decide.2 (by omega)]
      by_cases c : (decide (0 ≤ rd l (i : Int)) && decide (rd l (i : Int) ≤ md f - 1)) = true
      · simp only [c, if_true, Bool.true_and]
        exact ih (i + 1) (by omega)
      · simp only [Bool.not_eq_true] at c
        simp only [c, Bool.false_and, Bool.false_eq_true, if_false]
        exact Ev.now _
  unfold spec_l03Elements.f
  simp only [ev_Modulus, Option.bind_some]
  have h0 : ¬ (md f = 0) := by omega
  simp only [h0, if_false]
  exact key l.length 0 (by omega)
theorem ev_l03Elements_bad {f : Int} (h : ¬ (0 ≤ f ∧ f < 9)) (l : List Int) : Ev (fun k => spec_l03Elements.f k f l) false := by
  unfold spec_l03Elements.f
  simp only [ev_Modulus, Option.bind_some, md_bad h, if_true]
  exact Ev.now _

theorem ev_VectorOk {f : Int} {v : List Int} (h : VecOk f v) : Ev (fun k => spec_VectorOk.f k f v) true := by
  have hl := h.lg
  have hn := h.len
  unfold spec_VectorOk.f
  refine Ev.bind (ev_LogOf _) ?_
  have h1 : lg (v.length : Int) ≥ 0 := hl.1
  simp only [h1, if_true]
  refine Ev.bind (ev_TwoPower f) ?_
  simp only [hl.2, if_true]
  refine Ev.bind (ev_l03Elements h.1 v (by omega)) ?_
  rw [elB_iff.2 h.2.2]; exact Ev.now _
theorem ev_VectorOk_bad {f : Int} {v : List Int} (h : ¬ VecOk f v) : Ev (fun k => spec_VectorOk.f k f v) false := by
  unfold spec_VectorOk.f
  refine Ev.bind (ev_LogOf _) ?_
  by_cases h1 : lg (v.length : Int) ≥ 0
  · simp only [h1, if_true]
    refine Ev.bind (ev_TwoPower f) ?_
    have hn : v.length ≤ 512 := by
      rcases lg_cases (v.length : Int) with ⟨e, _⟩ | ⟨k, hk, _, e⟩
      · omega
      · have := two_pow_le hk; omega
    by_cases h2 : lg (v.length : Int) ≤ tp f
    · simp only [h2, if_true]
      by_cases hf : 0 ≤ f ∧ f < 9
      · refine Ev.bind (ev_l03Elements hf v (by omega)) ?_
        have he : elB (md f) v = false := by
          rw [← Bool.not_eq_true, elB_iff]
          intro he
          exact h (vec_of hf h1 h2 he)
        rw [he]; exact Ev.now _
      · refine Ev.bind (ev_l03Elements_bad hf v) ?_
        exact Ev.now _
    · simp only [h2, if_false]; exact Ev.now _
  · simp only [h1, if_false]; exact Ev.now _

theorem ev_l01Copy (l : List Int) (hl : l.length ≤ 17592186044416) : Ev (fun k => spec_l01Copy.f k l) l := by
  have key : ∀ (d i : Nat), i + d = l.length → Ev (fun k => spec_l01Copy.l0 k l (l.take i) (i : Int)) l := by
    intro d
    induction d with
    | zero =>
      intro i hi
      refine ev_s ?_
      have g1 : ¬ ((i : Int) < (l.length : Int)) := by omega
      simp only [spec_l01Copy.l0, g1, if_false]
      rw [List.take_of_length_le (by omega)]; exact Ev.now _
    | succ d ih =>
      intro i hi
      refine ev_s ?_
      have g1 : (i : Int) < (l.length : Int) := by omega
      have g2 : (0 : Int) ≤ (i : Int) := by omega
      have g3 : (l.take i).length < 17592186044416 := by rw [List.length_take]; omega
      simp only [spec_l01Copy.l0, g1, g2, g3, if_true, w_succ (n := i) (by omega)]
      rw [rd_at (show i < l.length by omega), List.take_append_getElem (show i < l.length by omega)]
      exact ih (i + 1) (by omega)
  exact key l.length 0 (by omega)

theorem ev_l08Base (b : Int) : spec_l08Base.f b = some (decide (2 ≤ b) && decide (b ≤ 65536)) := by
  unfold spec_l08Base.f
  rw [ev_l01In]; rfl
theorem ev_sDP2 {b c : Int} (hb : 2 ≤ b) {v : List Int} (hv : Sm v) (hl : v.length ≤ 512) {out : List (List Int)} (ho : out.length < 100) {d : Int} {r : (List (List Int)) × Bool}
    (hn : Ev (fun k => spec_DigitParts.l1 k b c (out ++ [v.map (fun x => x % b)]) (v.map (fun x => x / b)) (wrap64 (d + 1))) r) :
    ∀ n i : Nat, i + n = v.length → Ev (fun k => spec_DigitParts.l2 k b c out ((v.take i).map (fun x => x / b) ++ v.drop i) d ((v.take i).map (fun x => x % b)) (i : Int)) r := by
  intro n
  induction n with
  | zero =>
    intro i e
    refine ev_s ?_
    have g1 : ¬ ((i : Int) < (((v.take i).map (fun x => x / b) ++ v.drop i).length : Int)) := by
      rw [List.length_append, take_map_len (by omega), List.length_drop]; omega
    have g2 : out.length < 5864062014805 := by omega
    simp only [spec_DigitParts.l2, if_neg g1, if_pos g2]
    rw [List.take_of_length_le (by omega), List.drop_eq_nil_of_le (by omega), List.append_nil]
    exact hn
  | succ n ih =>
    intro i e
    have hi : i < v.length := by omega
    have hh := ih (i + 1) (by omega)
    have hA := take_map_len (v := v) (i := i) (by omega) (fun x => x / b)
    refine ev_s ?_
    have g1 : ((i : Int) < (((v.take i).map (fun x => x / b) ++ v.drop i).length : Int)) := by
      rw [List.length_append, hA, List.length_drop]; omega
    have g2 : (0 : Int) ≤ (i : Int) := by omega
    have g3 : ¬ (b = 0) := by omega
    have g4 : ((v.take i).map (fun x => x % b)).length < 17592186044416 := by rw [take_map_len (by omega)]; omega
    have hx := hv (rd v (i : Int)) (by rw [rd_at hi]; exact List.getElem_mem hi)
    have e1 : Int.tdiv (rd v (i : Int)) b = rd v (i : Int) / b := Int.tdiv_eq_ediv_of_nonneg hx.1
    have h1 : 0 ≤ rd v (i : Int) / b := Int.ediv_nonneg hx.1 (by omega)
    have h2 : rd v (i : Int) / b ≤ rd v (i : Int) := Int.ediv_le_self _ hx.1
    simp only [spec_DigitParts.l2, if_pos g1, if_pos g2, if_neg g3, if_pos g4, part_rd hA hi, Int.toNat_natCast]
    rw [part_set hA hi, tmod_nn hx.1, e1, w64 (by omega) (by omega), w_succ (by omega), take_map_snoc hi (fun x => x / b), take_map_snoc hi (fun x => x % b)]
    exact hh
theorem ev_sDP1 {b c : Int} (hb : 2 ≤ b) (hc : c ≤ 32) : ∀ (n i : Nat), (i : Int) + n = c → ∀ v : List Int, Sm v → v.length ≤ 512 → ∀ out : List (List Int), out.length = i →
    Ev (fun k => spec_DigitParts.l1 k b c out v (i : Int)) (out ++ dpS b n v, true) := by
  intro n
  induction n with
  | zero =>
    intro i e v hv hl out ho
    refine ev_s ?_
    have g1 : ¬ ((i : Int) < c) := by omega
    simp only [spec_DigitParts.l1, if_neg g1, dpS, List.append_nil]
    exact Ev.now _
  | succ n ih =>
    intro i e v hv hl out ho
    refine ev_s ?_
    have g1 : ((i : Int) < c) := by omega
    simp only [spec_DigitParts.l1, if_pos g1]
    have hh := ih (i + 1) (by omega) (v.map (fun x => x / b)) (hv.div (by omega)) (by rw [List.length_map]; exact hl) (out ++ [v.map (fun x => x % b)]) (by rw [List.length_append, ho]; rfl)
    rw [List.append_assoc] at hh
    refine ev_sDP2 hb hv hl (by omega) ?_ v.length 0 (by omega)
    rw [w_succ (by omega)]
    exact hh
theorem ev_sDPj2 {f b c : Int} {v : List Int} (h : dpOk f v b c) (R : Int) : Ev (fun k => spec_DigitParts.j2 k f v b c R) (if R < md f then ([], false) else (dpS b c.toNat v, true)) := by
  obtain ⟨hv, hb, hc⟩ := h
  have hl := hv.len
  refine ev_s ?_
  simp only [spec_DigitParts.j2]
  refine Ev.bind (ev_c (ev_Modulus f)) ?_
  by_cases g : R < md f
  · simp only [if_pos g]; exact Ev.now _
  · simp only [if_neg g]
    refine Ev.bind (ev_l01Copy v (by omega)) ?_
    exact ev_sDP1 hb.1 hc.2 c.toNat 0 (by omega) v (Sm.of hv.2.2 hv.pm) hl.2 [] rfl
theorem ev_sDP0 {f b c : Int} {v : List Int} (h : dpOk f v b c) : ∀ n d : Nat, (d : Int) + n = c →
    Ev (fun k => spec_DigitParts.l0 k f v b c (b ^ d) (d : Int)) (if b ^ c.toNat < md f then ([], false) else (dpS b c.toNat v, true)) := by
  have hp := h.1.pm
  unfold Pm at hp
  obtain ⟨_, hb, hc⟩ := id h
  intro n
  induction n with
  | zero =>
    intro d e
    refine ev_s ?_
    have g1 : ¬ ((d : Int) < c) := by omega
    simp only [spec_DigitParts.l0, if_neg g1]
    have hd : c.toNat = d := by omega
    have := ev_sDPj2 h (b ^ d)
    rw [← hd] at this ⊢
    exact this
  | succ n ih =>
    intro d e
    refine ev_s ?_
    have g1 : ((d : Int) < c) := by omega
    simp only [spec_DigitParts.l0, if_pos g1]
    refine Ev.bind (ev_c (ev_Modulus f)) ?_
    by_cases g : b ^ d < md f
    · simp only [if_pos g]
      have hh := ih (d + 1) (by omega)
      have h0 : 0 ≤ b ^ d := Int.pow_nonneg (by omega)
      have h1 : b ^ d * b ≤ 1004535809 * 65536 := Int.mul_le_mul (by omega) hb.2 (by omega) (by omega)
      have h2 : 0 ≤ b ^ d * b := Int.mul_nonneg h0 (by omega)
      rw [w64 (by omega) (by omega), w_succ (by omega), ← Int.pow_succ]
      exact hh
    · simp only [if_neg g]
      have hm := pw_mono (b := b) (by omega) d (c.toNat - d)
      rw [show d + (c.toNat - d) = c.toNat by omega] at hm
      have := ev_sDPj2 h (b ^ d)
      rw [if_neg g] at this
      rw [if_neg (by omega)]
      exact this
theorem ev_sDigitParts {f b c : Int} {v : List Int} (h : dpOk f v b c) : Ev (fun k => spec_DigitParts.f k f v b c) (if b ^ c.toNat < md f then ([], false) else (dpS b c.toNat v, true)) := by
  unfold spec_DigitParts.f
  refine Ev.bind (ev_VectorOk h.1) ?_
  simp only [if_true]
  refine Ev.bind (ev_c (ev_l08Base b)) ?_
  simp only [decide_eq_true h.2.1.1, decide_eq_true h.2.1.2, Bool.and_self, if_true]
  refine Ev.bind (ev_c (ev_l01In c 1 32)) ?_
  simp only [decide_eq_true h.2.2.1, decide_eq_true h.2.2.2, Bool.and_self, Bool.not_true]
  refine ev_s ?_
  simp only [spec_DigitParts.j0, Bool.false_eq_true, if_false]
  obtain ⟨_, _, hc⟩ := id h
  have hh := ev_sDP0 h c.toNat 0 (by omega)
  rw [Int.pow_zero] at hh
  exact hh
theorem ev_sDigitParts_bad {f b c : Int} {v : List Int} (h : ¬ dpOk f v b c) : Ev (fun k => spec_DigitParts.f k f v b c) ([], false) := by
  have bad : Ev (fun k => spec_DigitParts.j0 k f v b c true) ([], false) := by
    refine ev_s ?_
    simp only [spec_DigitParts.j0, if_true]; exact Ev.now _
  unfold spec_DigitParts.f
  by_cases hv : VecOk f v
  · refine Ev.bind (ev_VectorOk hv) ?_
    simp only [if_true]
    refine Ev.bind (ev_c (ev_l08Base b)) ?_
    by_cases hb : 2 ≤ b ∧ b ≤ 65536
    · simp only [decide_eq_true hb.1, decide_eq_true hb.2, Bool.and_self, if_true]
      refine Ev.bind (ev_c (ev_l01In c 1 32)) ?_
      have : (decide (1 ≤ c) && decide (c ≤ 32)) = false := by
        rw [← Bool.not_eq_true, Bool.and_eq_true, decide_eq_true_eq, decide_eq_true_eq]
        exact fun x => h ⟨hv, hb, x⟩
      simp only [this, Bool.not_false]
      exact bad
    · have : (decide (2 ≤ b) && decide (b ≤ 65536)) = false := by
        rw [← Bool.not_eq_true, Bool.and_eq_true, decide_eq_true_eq, decide_eq_true_eq]
        exact hb
      simp only [this, Bool.false_eq_true, if_false]
      exact bad
  · refine Ev.bind (ev_VectorOk_bad hv) ?_
    simp only [Bool.false_eq_true, if_false]; exact bad

theorem ev_fieldOf {f : Int} (h : 0 ≤ f ∧ f < 9) : impl_fieldOf.f f = some (md f, gn f, tp f, true) := by
  rcases fcases h.1 h.2 with e | e | e | e | e | e | e | e | e <;> subst e <;> rfl
theorem ev_fieldOf_bad {f : Int} (h : ¬ (0 ≤ f ∧ f < 9)) : impl_fieldOf.f f = some (0, 0, 0, false) := by
  unfold impl_fieldOf.f
  by_cases c : f < 0
  · rw [if_pos c]
  · rw [if_neg c, if_pos (by omega)]

theorem ev_logOf (n : Int) : Ev (fun k => impl_logOf.f k n) (lg n) := by
  have key : ∀ (d c : Nat), c + d = 10 → Ev (fun k => impl_logOf.l0 k n (c : Int)) (lgA n d c) := by
    intro d
    induction d with
    | zero =>
      intro c hc
      refine ev_s ?_
      have h1 : ¬ ((c : Int) < 10) := by omega
      simp only [impl_logOf.l0, h1, if_false]; exact Ev.now _
    | succ d ih =>
      intro c hc
      refine ev_s ?_
      have h1 : (c : Int) < 10 := by omega
      have h2 : (0 : Int) ≤ (c : Int) := by omega
      simp only [impl_logOf.l0, h1, h2, if_true, shl1 (c := c) (by omega), w_succ (n := c) (by omega)]
      unfold lgA
      by_cases h : n = ((2 ^ c : Nat) : Int)
      · rw [if_pos h]; simp only [if_pos h]; exact Ev.now _
      · rw [if_neg h]; simp only [if_neg h]; exact ih (c + 1) (by omega)
  exact key 10 0 rfl

theorem ev_areElements (p g t : Int) (l : List Int) (hl : l.length ≤ 35184372088832) : Ev (fun k => impl_field_areElements.f k p g t l) (elB p l) := by
  have key : ∀ (d i : Nat), i + d = l.length → Ev (fun k => impl_field_areElements.l0 k l (l.length : Int) (i : Int) p g t) (elB p (l.drop i)) := by
    intro d
    induction d with
    | zero =>
      intro i hi
      refine ev_s ?_
      have h1 : ¬ ((i : Int) < (l.length : Int)) := by omega
      simp only [impl_field_areElements.l0, h1, if_false]
      rw [List.drop_of_length_le (by omega)]
      exact Ev.now _
    | succ d ih =>
      intro i hi
      refine ev_s ?_
      have h1 : (i : Int) < (l.length : Int) := by omega
      have h2 : (0 : Int) ≤ (i : Int) := by omega
      simp only [impl_field_areElements.l0, h1, h2, if_true, w_succ (n := i) (by omega)]
      rw [elB_drop (by omega)]
      by_cases c1 : rd l (i : Int) < 0
      · simp only [c1, if_true, show decide (0 ≤ rd l (i : Int)) = false from decide_eq_false (by omega), Bool.false_and]
        exact Ev.now _
      · by_cases c2 : rd l (i : Int) ≥ p
        · simp only [c1, c2, if_true, if_false, show decide (rd l (i : Int) < p) = false from decide_eq_false (by omega), Bool.false_and, Bool.and_false]
          exact Ev.now _
        · simp only [c1, c2, if_false, show decide (0 ≤ rd l (i : Int)) = true from decide_eq_true (by omega), show decide (rd l (i : Int) < p) = true from decide_eq_true (by omega), Bool.true_and]
          exact ih (i + 1) (by omega)
  exact key l.length 0 (by omega)

theorem ev_vectorField1 {f : Int} {a : List Int} (h : VecOk f a) : Ev (fun k => impl_vectorField.f k f [a]) (md f, gn f, tp f, true) := by
  have hlg := h.lg
  have hn := h.len
  obtain ⟨hf, _, he⟩ := h
  unfold impl_vectorField.f
  have hl : (([a] : List (List Int)).length : Int) = 1 := rfl
  have hr : rd_L2 [a] 0 = a := rfl
  have n1 : ¬ (lg (a.length : Int) < 0) := by omega
  have n2 : ¬ (lg (a.length : Int) > tp f) := by omega
  simp only [ev_fieldOf hf, Option.bind_some, if_true, hl]
  refine ev_s ?_
  simp only [impl_vectorField.l0, hl, hr, show (0 : Int) < 1 from by decide, show (0 : Int) ≤ 0 from by decide, if_true]
  refine Ev.bind (ev_logOf _) ?_
  simp only [n1, n2, if_false]
  refine Ev.bind (ev_areElements _ _ _ a (by omega)) ?_
  simp only [elB_iff.2 he, if_true, w64 (x := 0 + 1) (by decide) (by decide)]
  refine ev_s ?_
  simp only [impl_vectorField.l0, hl, show ¬ ((0 : Int) + 1 < 1) from by decide, if_false]
  exact Ev.now _
theorem lg_small {n : Nat} (h : 0 ≤ lg (n : Int)) : n ≤ 512 := by
  rcases lg_cases (n : Int) with ⟨e, _⟩ | ⟨k, hk, _, e⟩
  · omega
  · have := two_pow_le hk; omega
theorem ev_vectorField1_bad {f : Int} {a : List Int} (h : ¬ VecOk f a) : Ev (fun k => impl_vectorField.f k f [a]) (0, 0, 0, false) := by
  unfold impl_vectorField.f
  by_cases hf : 0 ≤ f ∧ f < 9
  · have hl : (([a] : List (List Int)).length : Int) = 1 := rfl
    have hr : rd_L2 [a] 0 = a := rfl
    simp only [ev_fieldOf hf, Option.bind_some, if_true, hl]
    refine ev_s ?_
    simp only [impl_vectorField.l0, hl, hr, show (0 : Int) < 1 from by decide, show (0 : Int) ≤ 0 from by decide, if_true]
    refine Ev.bind (ev_logOf _) ?_
    by_cases n1 : lg (a.length : Int) < 0
    · simp only [n1, if_true]; exact Ev.now _
    by_cases n2 : lg (a.length : Int) > tp f
    · simp only [n1, n2, if_true, if_false]; exact Ev.now _
    simp only [n1, n2, if_false]
    have hs := lg_small (n := a.length) (by omega)
    refine Ev.bind (ev_areElements _ _ _ a (by omega)) ?_
    have he : elB (md f) a = false := by
      rw [← Bool.not_eq_true, elB_iff]
      intro he
      exact h (vec_of hf (by omega) (by omega) he)
    simp only [he, Bool.false_eq_true, if_false]
    exact Ev.now _
  · simp only [ev_fieldOf_bad hf, Option.bind_some, Bool.false_eq_true, if_false]
    exact Ev.now _

theorem ev_isBase (b : Int) : impl_isBase.f b = some (decide (2 ≤ b) && decide (b ≤ 65536)) := by
  unfold impl_isBase.f
  by_cases h : 2 ≤ b
  · rw [if_pos (by omega), decide_eq_true h, Bool.true_and]
  · rw [if_neg (by omega), decide_eq_false h, Bool.false_and]
theorem ev_iDP2 {b c : Int} (hb : 2 ≤ b) {v : List Int} (hv : Sm v) (hl : v.length ≤ 512) {out : List (List Int)} (ho : out.length < 100) {d : Int} {r : (List (List Int)) × Bool}
    (hn : Ev (fun k => impl_DigitParts.l1 k b (out ++ [v.map (fun x => x % b)]) (v.map (fun x => x / b)) c (wrap64 (d + 1))) r) :
    ∀ n i : Nat, i + n = v.length → Ev (fun k => impl_DigitParts.l2 k b out ((v.take i).map (fun x => x / b) ++ v.drop i) ((v.take i).map (fun x => x % b)) c d (v.length : Int) (i : Int)) r := by
  intro n
  induction n with
  | zero =>
    intro i e
    refine ev_s ?_
    have g1 : ¬ ((i : Int) < (v.length : Int)) := by omega
    have g2 : out.length < 5864062014805 := by omega
    simp only [impl_DigitParts.l2, if_neg g1, if_pos g2]
    rw [List.take_of_length_le (by omega), List.drop_eq_nil_of_le (by omega), List.append_nil]
    exact hn
  | succ n ih =>
    intro i e
    have hi : i < v.length := by omega
    have hh := ih (i + 1) (by omega)
    have hA := take_map_len (v := v) (i := i) (by omega) (fun x => x / b)
    refine ev_s ?_
    have g0 : ((i : Int) < (v.length : Int)) := by omega
    have g1 : ((i : Int) < (((v.take i).map (fun x => x / b) ++ v.drop i).length : Int)) := by
      rw [List.length_append, hA, List.length_drop]; omega
    have g2 : (0 : Int) ≤ (i : Int) := by omega
    have g3 : ¬ (b = 0) := by omega
    have g4 : ((v.take i).map (fun x => x % b)).length < 17592186044416 := by rw [take_map_len (by omega)]; omega
    have hx := hv (rd v (i : Int)) (by rw [rd_at hi]; exact List.getElem_mem hi)
    have e1 : Int.tdiv (rd v (i : Int)) b = rd v (i : Int) / b := Int.tdiv_eq_ediv_of_nonneg hx.1
    have h1 : 0 ≤ rd v (i : Int) / b := Int.ediv_nonneg hx.1 (by omega)
    have h2 : rd v (i : Int) / b ≤ rd v (i : Int) := Int.ediv_le_self _ hx.1
    simp only [impl_DigitParts.l2, if_pos g0, if_pos g1, if_pos g2, if_neg g3, if_pos g4, part_rd hA hi, Int.toNat_natCast]
    rw [part_set hA hi, tmod_nn hx.1, e1, w64 (by omega) (by omega), w_succ (by omega), take_map_snoc hi (fun x => x / b), take_map_snoc hi (fun x => x % b)]
    exact hh
theorem ev_iDP1 {b c : Int} (hb : 2 ≤ b) (hc : c ≤ 32) : ∀ (n i : Nat), (i : Int) + n = c → ∀ v : List Int, Sm v → v.length ≤ 512 → ∀ out : List (List Int), out.length = i →
    Ev (fun k => impl_DigitParts.l1 k b out v c (i : Int)) (out ++ dpS b n v, true) := by
  intro n
  induction n with
  | zero =>
    intro i e v hv hl out ho
    refine ev_s ?_
    have g1 : ¬ ((i : Int) < c) := by omega
    simp only [impl_DigitParts.l1, if_neg g1, dpS, List.append_nil]
    exact Ev.now _
  | succ n ih =>
    intro i e v hv hl out ho
    refine ev_s ?_
    have g1 : ((i : Int) < c) := by omega
    simp only [impl_DigitParts.l1, if_pos g1]
    have hh := ih (i + 1) (by omega) (v.map (fun x => x / b)) (hv.div (by omega)) (by rw [List.length_map]; exact hl) (out ++ [v.map (fun x => x % b)]) (by rw [List.length_append, ho]; rfl)
    rw [List.append_assoc] at hh
    refine ev_iDP2 hb hv hl (by omega) ?_ v.length 0 (by omega)
    rw [w_succ (by omega)]
    exact hh
theorem ev_iDP0 {f b c : Int} {v : List Int} (h : dpOk f v b c) (g t : Int) : ∀ n d : Nat, (d : Int) + n = c → ∀ W : Int, (W = b ^ d ∧ W ≤ 1099511627776) ∨ (W = 1099511627776 ∧ 1099511627776 ≤ b ^ d) →
    Ev (fun k => impl_DigitParts.l0 k v b c W c (d : Int) (md f) g t) (if b ^ c.toNat < md f then ([], false) else (dpS b c.toNat v, true)) := by
  have hp := h.1.pm
  unfold Pm at hp
  have hl := h.1.len
  obtain ⟨hv, hb, hc⟩ := id h
  intro n
  induction n with
  | zero =>
    intro d e W hW
    refine ev_s ?_
    have g1 : ¬ ((d : Int) < c) := by omega
    have g2 : ([] : List Int).length + v.length < 17592186044416 := by simp; omega
    have hd : c.toNat = d := by omega
    simp only [impl_DigitParts.l0, if_neg g1]
    by_cases gg : W < md f
    · have : b ^ c.toNat < md f := by rw [hd]; omega
      simp only [if_pos gg, if_pos this]; exact Ev.now _
    · have : ¬ (b ^ c.toNat < md f) := by rw [hd]; omega
      simp only [if_neg gg, if_neg this, Option.bind_some, if_pos g2, List.nil_append]
      exact ev_iDP1 hb.1 hc.2 c.toNat 0 (by omega) v (Sm.of hv.2.2 hv.pm) hl.2 [] rfl
  | succ n ih =>
    intro d e W hW
    refine ev_s ?_
    have g1 : ((d : Int) < c) := by omega
    have h0 : 0 ≤ b ^ d := Int.pow_nonneg (by omega)
    have hs : b ^ (d + 1) = b ^ d * b := Int.pow_succ _ _
    have hW1 : 0 ≤ W ∧ W ≤ 1099511627776 := by omega
    have h1 : W * b ≤ 1099511627776 * 65536 := Int.mul_le_mul (by omega) hb.2 (by omega) (by omega)
    have h2 : 0 ≤ W * b := Int.mul_nonneg hW1.1 (by omega)
    simp only [impl_DigitParts.l0, if_pos g1, w64 (x := W * b) (by omega) (by omega), w_succ (n := d) (by omega)]
    refine ih (d + 1) (by omega) _ ?_
    unfold mn
    rw [hs]
    rcases hW with ⟨e1, e2⟩ | ⟨e1, e2⟩
    · subst e1
      by_cases q : 1099511627776 < b ^ d * b
      · rw [if_pos q]; exact .inr ⟨rfl, by omega⟩
      · rw [if_neg q]; exact .inl ⟨rfl, by omega⟩
    · subst e1
      have q1 : 1099511627776 * 2 ≤ 1099511627776 * b := by omega
      have q2 : 1099511627776 * b ≤ b ^ d * b := Int.mul_le_mul_of_nonneg_right e2 (by omega)
      rw [if_pos (by omega)]
      exact .inr ⟨rfl, by omega⟩
theorem ev_iDigitParts {f b c : Int} {v : List Int} (h : dpOk f v b c) : Ev (fun k => impl_DigitParts.f k f v b c) (if b ^ c.toNat < md f then ([], false) else (dpS b c.toNat v, true)) := by
  unfold impl_DigitParts.f
  refine Ev.bind (ev_vectorField1 h.1) ?_
  simp only [if_true]
  refine Ev.bind (ev_c (ev_isBase b)) ?_
  have g1 : ¬ (c < 1) := by have := h.2.2.1; omega
  have g2 : ¬ (c > 32) := by have := h.2.2.2; omega
  simp only [decide_eq_true h.2.1.1, decide_eq_true h.2.1.2, Bool.and_self, if_true, if_neg g1, decide_eq_false g2]
  refine ev_s ?_
  simp only [impl_DigitParts.j0, Bool.false_eq_true, if_false]
  obtain ⟨_, _, hc⟩ := id h
  exact ev_iDP0 h _ _ c.toNat 0 (by omega) 1 (.inl ⟨(Int.pow_zero _).symm, by decide⟩)
theorem ev_iDigitParts_bad {f b c : Int} {v : List Int} (h : ¬ dpOk f v b c) : Ev (fun k => impl_DigitParts.f k f v b c) ([], false) := by
  have bad : ∀ p g t, Ev (fun k => impl_DigitParts.j0 k v b c true p g t) ([], false) := by
    intro p g t
    refine ev_s ?_
    simp only [impl_DigitParts.j0, if_true]; exact Ev.now _
  unfold impl_DigitParts.f
  by_cases hv : VecOk f v
  · refine Ev.bind (ev_vectorField1 hv) ?_
    simp only [if_true]
    refine Ev.bind (ev_c (ev_isBase b)) ?_
    by_cases hb : 2 ≤ b ∧ b ≤ 65536
    · simp only [decide_eq_true hb.1, decide_eq_true hb.2, Bool.and_self, if_true]
      by_cases g1 : c < 1
      · simp only [if_pos g1]; exact bad _ _ _
      · have g2 : c > 32 := by
          by_cases q : c > 32
          · exact q
          · exact absurd ⟨hv, hb, by omega, by omega⟩ h
        simp only [if_neg g1, decide_eq_true g2]; exact bad _ _ _
    · have : (decide (2 ≤ b) && decide (b ≤ 65536)) = false := by
        rw [← Bool.not_eq_true, Bool.and_eq_true, decide_eq_true_eq, decide_eq_true_eq]
        exact hb
      simp only [this, Bool.false_eq_true, if_false]
      exact bad _ _ _
  · refine Ev.bind (ev_vectorField1_bad hv) ?_
    simp only [Bool.false_eq_true, if_false]; exact bad _ _ _

/-- The value that the rows' digits at a place stand for. -/
def vl (b : Int) : List (List Int) → Int → Int
  | [], _ => 0
  | q :: L, i => rd q i + b * vl b L i
def rejS (p b : Int) (N : Nat) (P : List (List Int)) : List Int := (List.range N).map (fun (i : Nat) => vl b P (i : Int) % p)
theorem rd_mapz {h : Int → Int} (h0 : h 0 = 0) (v : List Int) (i : Int) : rd (v.map h) i = h (rd v i) := by
  unfold rd
  rw [List.getD_eq_getElem?_getD, List.getD_eq_getElem?_getD, List.getElem?_map]
  cases v[i.toNat]? with
  | none => exact h0.symm
  | some x => rfl
theorem vl_dpS {b : Int} (hb : 2 ≤ b) (i : Int) : ∀ (n : Nat) (v : List Int), 0 ≤ rd v i → rd v i < b ^ n → vl b (dpS b n v) i = rd v i
  | 0, v, h0, h1 => by
    rw [Int.pow_zero] at h1
    show (0 : Int) = _
    omega
  | n + 1, v, h0, h1 => by
    rw [Int.pow_succ] at h1
    show rd (v.map (fun x => x % b)) i + b * vl b (dpS b n (v.map (fun x => x / b))) i = rd v i
    have e1 : rd (v.map (fun x => x % b)) i = rd v i % b := rd_mapz (h := fun x => x % b) (Int.zero_emod b) v i
    have e2 : rd (v.map (fun x => x / b)) i = rd v i / b := rd_mapz (h := fun x => x / b) (Int.zero_ediv b) v i
    have h2 : 0 ≤ rd v i / b := Int.ediv_nonneg h0 (by omega)
    have h3 : rd v i / b < b ^ n := Int.ediv_lt_of_lt_mul (by omega) h1
    rw [vl_dpS hb i n _ (by rw [e2]; exact h2) (by rw [e2]; exact h3), e1, e2]
    exact Int.emod_add_mul_ediv _ _
theorem dpS_row {b : Int} (hb : 2 ≤ b) : ∀ (n : Nat) (v : List Int), ∀ r ∈ dpS b n v, r.length = v.length ∧ El b r
  | 0, v => fun r h => by cases h
  | n + 1, v => fun r h => by
    rcases List.mem_cons.1 h with h | h
    · subst h
      refine ⟨List.length_map _, fun x hx => ?_⟩
      rw [List.mem_map] at hx
      obtain ⟨y, _, rfl⟩ := hx
      exact em_lt (by omega)
    · have := dpS_row hb n _ r h
      rw [List.length_map] at this
      exact this

theorem rdL_at {P : List (List Int)} {i : Nat} (h : i < P.length) : rd_L2 P (i : Int) = P[i] := by
  unfold rd_L2
  rw [Int.toNat_natCast, List.getD_eq_getElem?_getD, List.getElem?_eq_getElem h]; rfl
/-- All rows are vectors of the field, all as long as the one ahead. -/
def rowsOk (f : Int) (P l : List (List Int)) : Prop := ∀ r ∈ l, VecOk f r ∧ r.length = (rd_L2 P 0).length
theorem ev_vfN_good {f : Int} (hf : 0 ≤ f ∧ f < 9) {P : List (List Int)} (hP : P.length ≤ 1048576) : ∀ n i : Nat, i + n = P.length → rowsOk f P (P.drop i) →
    Ev (fun k => impl_vectorField.l0 k P P (P.length : Int) (i : Int) (md f) (gn f) (tp f)) (md f, gn f, tp f, true) := by
  intro n
  induction n with
  | zero =>
    intro i e hr
    refine ev_s ?_
    have g1 : ¬ ((i : Int) < (P.length : Int)) := by omega
    simp only [impl_vectorField.l0, if_neg g1]; exact Ev.now _
  | succ n ih =>
    intro i e hr
    have hi : i < P.length := by omega
    rw [List.drop_eq_getElem_cons hi] at hr
    have h1 := hr _ List.mem_cons_self
    have h2 := ih (i + 1) (by omega) (fun r h => hr r (List.mem_cons_of_mem _ h))
    refine ev_s ?_
    have g1 : ((i : Int) < (P.length : Int)) := by omega
    have g2 : (0 : Int) ≤ (i : Int) := by omega
    have g3 : (0 : Int) < (P.length : Int) := by omega
    have hlg := h1.1.lg
    have hn := h1.1.len
    have n1 : ¬ (lg ((P[i]).length : Int) < 0) := by omega
    have n2 : ¬ (lg ((P[i]).length : Int) > tp f) := by omega
    have n3 : ((P[i]).length : Int) = ((rd_L2 P 0).length : Int) := by rw [h1.2]
    simp only [impl_vectorField.l0, if_pos g1, if_pos g2, if_pos g3, rdL_at hi]
    refine Ev.bind (ev_logOf _) ?_
    simp only [if_neg n1, if_neg n2]
    refine Ev.bind (ev_areElements _ _ _ _ (by omega)) ?_
    simp only [elB_iff.2 h1.1.2.2, if_true, if_pos n3, w_succ (n := i) (by omega)]
    exact h2
theorem ev_vfN_bad {f : Int} (hf : 0 ≤ f ∧ f < 9) {P : List (List Int)} (hP : P.length ≤ 1048576) : ∀ n i : Nat, i + n = P.length → ¬ rowsOk f P (P.drop i) →
    Ev (fun k => impl_vectorField.l0 k P P (P.length : Int) (i : Int) (md f) (gn f) (tp f)) (0, 0, 0, false) := by
  intro n
  induction n with
  | zero =>
    intro i e hr
    rw [List.drop_eq_nil_of_le (by omega)] at hr
    exact absurd (fun r h => by cases h) hr
  | succ n ih =>
    intro i e hr
    have hi : i < P.length := by omega
    rw [List.drop_eq_getElem_cons hi] at hr
    refine ev_s ?_
    have g1 : ((i : Int) < (P.length : Int)) := by omega
    have g2 : (0 : Int) ≤ (i : Int) := by omega
    have g3 : (0 : Int) < (P.length : Int) := by omega
    simp only [impl_vectorField.l0, if_pos g1, if_pos g2, if_pos g3, rdL_at hi]
    refine Ev.bind (ev_logOf _) ?_
    by_cases n1 : lg ((P[i]).length : Int) < 0
    · simp only [if_pos n1]; exact Ev.now _
    simp only [if_neg n1]
    by_cases n2 : lg ((P[i]).length : Int) > tp f
    · simp only [if_pos n2]; exact Ev.now _
    simp only [if_neg n2]
    have hs := lg_small (n := (P[i]).length) (by omega)
    refine Ev.bind (ev_areElements _ _ _ _ (by omega)) ?_
    by_cases he : El (md f) P[i]
    · simp only [elB_iff.2 he, if_true]
      by_cases n3 : ((P[i]).length : Int) = ((rd_L2 P 0).length : Int)
      · simp only [if_pos n3, w_succ (n := i) (by omega)]
        refine ih (i + 1) (by omega) (fun hh => hr ?_)
        intro r h
        rcases List.mem_cons.1 h with h | h
        · subst h; exact ⟨vec_of hf (by omega) (by omega) he, by omega⟩
        · exact hh r h
      · simp only [if_neg n3]; exact Ev.now _
    · simp only [Bool.eq_false_iff.2 (fun c => he (elB_iff.1 c)), Bool.false_eq_true, if_false]
      exact Ev.now _
theorem ev_vectorFieldN {f : Int} (hf : 0 ≤ f ∧ f < 9) {P : List (List Int)} (hP : P.length ≤ 1048576) (h : rowsOk f P P) : Ev (fun k => impl_vectorField.f k f P) (md f, gn f, tp f, true) := by
  unfold impl_vectorField.f
  simp only [ev_fieldOf hf, Option.bind_some, if_true]
  exact ev_vfN_good hf hP P.length 0 (by omega) h
theorem ev_vectorFieldN_bad {f : Int} {P : List (List Int)} (hP : P.length ≤ 1048576) (h : ¬ ((0 ≤ f ∧ f < 9) ∧ rowsOk f P P)) : Ev (fun k => impl_vectorField.f k f P) (0, 0, 0, false) := by
  unfold impl_vectorField.f
  by_cases hf : 0 ≤ f ∧ f < 9
  · simp only [ev_fieldOf hf, Option.bind_some, if_true]
    exact ev_vfN_bad hf hP P.length 0 (by omega) (fun c => h ⟨hf, c⟩)
  · simp only [ev_fieldOf_bad hf, Option.bind_some, Bool.false_eq_true, if_false]
    exact Ev.now _

theorem ev_mul {p : Int} (hp : Pm p) (g t : Int) {a b : Int} (ha : 0 ≤ a ∧ a < p) (hb : 0 ≤ b ∧ b < p) : impl_field_mul.f p g t a b = some (a * b % p) := by
  unfold Pm at hp
  have h := mul_lt_big ha.1 ha.2 hb.1 hb.2 hp.2
  unfold impl_field_mul.f
  rw [if_neg (by omega), w64 (by omega) (by omega), tmod_nn (by omega)]

theorem ev_add {p : Int} (hp : Pm p) (g t : Int) {a b : Int} (ha : 0 ≤ a ∧ a < p) (hb : 0 ≤ b ∧ b < p) : impl_field_add.f p g t a b = some ((a + b) % p) := by
  unfold Pm at hp
  unfold impl_field_add.f
  rw [if_neg (by omega), w64 (by omega) (by omega), tmod_nn (by omega)]

theorem ev_reduce {p : Int} (hp : Pm p) (g t x : Int) : impl_field_reduce.f p g t x = some (x % p) := by
  unfold Pm at hp
  have hb := tmod_bounds (a := x) (p := p) (by omega)
  unfold impl_field_reduce.f
  rw [if_neg (by omega), w64 (by omega) (by omega), tmod_nn (by omega), tmod_add_emod (by omega)]

def rjN (p T : Int) (out q : List Int) (i : Nat) : Int := (rd out (i : Int) + rd q (i : Int) * T) % p
theorem ev_rj1 {p : Int} (hp : Pm p) (g t : Int) {b T d c : Int} {P : List (List Int)} {out q : List Int} (ho : El p out) (hq : El p q) (hl : out.length = q.length) (hN : q.length ≤ 512) (hT : 0 ≤ T ∧ T < p) {r : List Int × Bool}
    (hn : Ev (fun k => impl_Rejoin.l0 k b ((List.range q.length).map (rjN p T out q)) (T * (b % p) % p) P c (wrap64 (d + 1)) p g t) r) :
    ∀ n i : Nat, i + n = q.length → Ev (fun k => impl_Rejoin.l1 k b ((List.range i).map (rjN p T out q) ++ out.drop i) T P c d q (q.length : Int) (i : Int) p g t) r := by
  have hpp := hp
  unfold Pm at hpp
  intro n
  induction n with
  | zero =>
    intro i e
    refine ev_s ?_
    have g1 : ¬ ((i : Int) < (q.length : Int)) := by omega
    simp only [impl_Rejoin.l1, if_neg g1]
    refine Ev.bind (ev_c (ev_reduce hp g t b)) ?_
    refine Ev.bind (ev_c (ev_mul hp g t hT (em_lt (by omega)))) ?_
    rw [List.drop_eq_nil_of_le (by omega), List.append_nil, show i = q.length by omega]
    exact hn
  | succ n ih =>
    intro i e
    have hi : i < q.length := by omega
    have hh := ih (i + 1) (by omega)
    have hA : ((List.range i).map (rjN p T out q)).length = i := by simp
    refine ev_s ?_
    have g1 : ((i : Int) < (q.length : Int)) := by omega
    have g2 : (0 : Int) ≤ (i : Int) := by omega
    have g3 : ((i : Int) < (((List.range i).map (rjN p T out q) ++ out.drop i).length : Int)) := by
      rw [List.length_append, hA, List.length_drop]; omega
    simp only [impl_Rejoin.l1, if_pos g1, if_pos g2, if_pos g3, part_rd hA (show i < out.length by omega), Int.toNat_natCast]
    refine Ev.bind (ev_c (ev_mul hp g t (hq.rd (by omega) (i : Int)) hT)) ?_
    refine Ev.bind (ev_c (ev_add hp g t (ho.rd (by omega) (i : Int)) (em_lt (by omega)))) ?_
    rw [part_set hA (by omega), w_succ (by omega), eadd_r]
    rw [map_snoc] at hh
    exact hh
theorem rj_step {p o x T b V : Int} : ((o + x * T) % p + T * (b % p) % p * V) % p = (o + T * (x + b * V)) % p := by
  rw [emul_r, eadd_l, ← eadd_r, emul_l, eadd_r]
  congr 1
  rw [Int.mul_add, Int.mul_comm x T, Int.mul_assoc T b V, Int.add_assoc]
theorem ev_rj0 {p : Int} (hp : Pm p) (g t : Int) {b : Int} {P : List (List Int)} {N : Nat} (hN : N ≤ 512) (hPl : P.length ≤ 1048576) (hP : ∀ r ∈ P, r.length = N ∧ El p r) : ∀ n d : Nat, d + n = P.length → ∀ (out : List Int) (T : Int), out.length = N → El p out → 0 ≤ T → T < p →
    Ev (fun k => impl_Rejoin.l0 k b out T P (P.length : Int) (d : Int) p g t) ((List.range N).map (fun (i : Nat) => (rd out (i : Int) + T * vl b (P.drop d) (i : Int)) % p), true) := by
  have hpp := hp
  unfold Pm at hpp
  intro n
  induction n with
  | zero =>
    intro d e out T hl ho h0 h1
    refine ev_s ?_
    have g1 : ¬ ((d : Int) < (P.length : Int)) := by omega
    simp only [impl_Rejoin.l0, if_neg g1]
    rw [List.drop_eq_nil_of_le (by omega)]
    have : out = (List.range N).map (fun (i : Nat) => (rd out (i : Int) + T * vl b [] (i : Int)) % p) := set_map_rd hl (fun i hi => by
      have := ho.rd (by omega) (i : Int)
      show _ = (rd out (i : Int) + T * 0) % p
      rw [Int.mul_zero, Int.add_zero, em_id this.1 this.2])
    rw [← this]
    exact Ev.now _
  | succ n ih =>
    intro d e out T hl ho h0 h1
    have hd : d < P.length := by omega
    refine ev_s ?_
    have g1 : ((d : Int) < (P.length : Int)) := by omega
    have g2 : (0 : Int) ≤ (d : Int) := by omega
    simp only [impl_Rejoin.l0, if_pos g1, if_pos g2, rdL_at hd]
    obtain ⟨k1, k2⟩ := hP _ (List.getElem_mem hd)
    have hT := em_lt (a := T * (b % p)) (p := p) (by omega)
    have hh := ih (d + 1) (by omega) ((List.range (P[d]).length).map (rjN p T out P[d])) (T * (b % p) % p) (by simp [k1]) (El.map (fun i _ => em_lt (by omega))) hT.1 hT.2
    have hs : (List.range N).map (fun (i : Nat) => (rd out (i : Int) + T * vl b (P.drop d) (i : Int)) % p) = (List.range N).map (fun (i : Nat) => (rd ((List.range (P[d]).length).map (rjN p T out P[d])) (i : Int) + T * (b % p) % p * vl b (P.drop (d + 1)) (i : Int)) % p) := map_congr_range (fun i hi => by
      rw [rd_map _ (by omega), List.drop_eq_getElem_cons hd]
      exact rj_step.symm)
    rw [hs]
    refine ev_rj1 hp g t ho k2 (by omega) (by omega) ⟨h0, h1⟩ ?_ (P[d]).length 0 (by omega)
    rw [w_succ (by omega)]
    exact hh
/-- Rejoin's rows. -/
def rjOk (f : Int) (P : List (List Int)) (b : Int) : Prop := (1 ≤ P.length ∧ P.length ≤ 32) ∧ (2 ≤ b ∧ b ≤ 65536) ∧ (0 ≤ f ∧ f < 9) ∧ rowsOk f P P
theorem ev_isBaseR (b : Int) : impl_isBase.f b = some (decide (2 ≤ b) && decide (b ≤ 65536)) := by
  unfold impl_isBase.f
  by_cases h : 2 ≤ b
  · rw [if_pos (by omega), decide_eq_true h, Bool.true_and]
  · rw [if_neg (by omega), decide_eq_false h, Bool.false_and]
theorem rjOk.rows {f : Int} {P : List (List Int)} {b : Int} (h : rjOk f P b) : (rd_L2 P 0).length ≤ 512 ∧ ∀ r ∈ P, r.length = (rd_L2 P 0).length ∧ El (md f) r := by
  obtain ⟨h1, _, _, h4⟩ := h
  refine ⟨?_, fun r hr => ⟨(h4 r hr).2, (h4 r hr).1.2.2⟩⟩
  have h0 : (0 : Nat) < P.length := by omega
  have e := rdL_at h0
  rw [show ((0 : Nat) : Int) = 0 from rfl] at e
  have := (h4 _ (List.getElem_mem h0)).1.len
  rw [e]
  omega
theorem ev_iRejoin {f : Int} {P : List (List Int)} {b : Int} (h : rjOk f P b) : Ev (fun k => impl_Rejoin.f k f P b) (rejS (md f) b (rd_L2 P 0).length P, true) := by
  obtain ⟨hr1, hr2⟩ := h.rows
  obtain ⟨h1, h2, h3, h4⟩ := h
  have hp := pm_of h3
  have hpp := hp
  unfold Pm at hpp
  have g1 : ¬ ((P.length : Int) < 1) := by omega
  have g2 : ¬ ((P.length : Int) > 32) := by omega
  have g3 : (0 : Int) < (P.length : Int) := by omega
  have g4 : (0 : Int) ≤ ((rd_L2 P 0).length : Int) := by omega
  have g5 : (rd_L2 P 0).length ≤ 35184372088832 := by omega
  unfold impl_Rejoin.f
  simp only [if_neg g1, if_neg g2]
  refine Ev.bind (ev_c (ev_isBaseR b)) ?_
  simp only [decide_eq_true h2.1, decide_eq_true h2.2, Bool.and_self, Bool.not_true]
  refine ev_s ?_
  simp only [impl_Rejoin.j0, Bool.false_eq_true, if_false]
  refine Ev.bind (ev_vectorFieldN h3 (by omega) h4) ?_
  simp only [if_true, if_pos g3, if_pos g4, Int.toNat_natCast, if_pos g5]
  have hh := ev_rj0 hp (gn f) (tp f) (b := b) hr1 (by omega) hr2 P.length 0 (by omega) (List.replicate (rd_L2 P 0).length 0) 1 (by simp) (El.rep (by omega) _) (by decide) (by omega)
  refine ev_to hh ?_
  unfold rejS
  congr 1
  refine map_congr_range (fun i _ => ?_)
  rw [rd_rep, Int.zero_add, Int.one_mul, List.drop_zero]
theorem ev_iRejoin_bad {f : Int} {P : List (List Int)} {b : Int} (hP : P.length ≤ 1048576) (h : ¬ rjOk f P b) : Ev (fun k => impl_Rejoin.f k f P b) ([], false) := by
  have bad : Ev (fun k => impl_Rejoin.j0 k f P b true) ([], false) := by
    refine ev_s ?_
    simp only [impl_Rejoin.j0, if_true]; exact Ev.now _
  unfold impl_Rejoin.f
  by_cases g1 : (P.length : Int) < 1
  · simp only [if_pos g1]; exact bad
  simp only [if_neg g1]
  by_cases g2 : (P.length : Int) > 32
  · simp only [if_pos g2]; exact bad
  simp only [if_neg g2]
  refine Ev.bind (ev_c (ev_isBaseR b)) ?_
  by_cases hb : 2 ≤ b ∧ b ≤ 65536
  · simp only [decide_eq_true hb.1, decide_eq_true hb.2, Bool.and_self, Bool.not_true]
    refine ev_s ?_
    simp only [impl_Rejoin.j0, Bool.false_eq_true, if_false]
    refine Ev.bind (ev_vectorFieldN_bad hP (fun c => h ⟨by omega, hb, c.1, c.2⟩)) ?_
    simp only [Bool.false_eq_true, if_false]
    exact Ev.now _
  · have : (decide (2 ≤ b) && decide (b ≤ 65536)) = false := by
      rw [← Bool.not_eq_true, Bool.and_eq_true, decide_eq_true_eq, decide_eq_true_eq]
      exact hb
    simp only [this, Bool.not_false]
    exact bad

def fitR (p : Int) (r : List Int) : Bool := r.all (fun x => decide (x < p))
theorem ev_fp1 {f b : Int} {v : List Int} {P : List (List Int)} {d : Nat} (hd : d < P.length) (hl : (P[d]).length ≤ 1048576) (hr : El b P[d]) {fits : Bool}
    (hn : Ev (fun k => laws_FnParts.l0 k f v b P (fits && fitR (md f) P[d]) (wrap64 ((d : Int) + 1))) true) :
    ∀ n i : Nat, i + n = (P[d]).length → Ev (fun k => laws_FnParts.l1 k f v b P (fits && fitR (md f) ((P[d]).take i)) (d : Int) (i : Int)) true := by
  have q1 : (0 : Int) ≤ (d : Int) := by omega
  have q2 : (d : Int) < (P.length : Int) := by omega
  intro n
  induction n with
  | zero =>
    intro i e
    refine ev_s ?_
    have g1 : ¬ ((i : Int) < ((P[d]).length : Int)) := by omega
    simp only [laws_FnParts.l1, if_pos q1, if_pos q2, rdL_at hd, if_neg g1]
    rw [List.take_of_length_le (by omega)]
    exact hn
  | succ n ih =>
    intro i e
    have hi : i < (P[d]).length := by omega
    have hh := ih (i + 1) (by omega)
    refine ev_s ?_
    have g1 : ((i : Int) < ((P[d]).length : Int)) := by omega
    have g2 : (0 : Int) ≤ (i : Int) := by omega
    have hx := hr (rd P[d] (i : Int)) (by rw [rd_at hi]; exact List.getElem_mem hi)
    have g3 : ¬ (rd P[d] (i : Int) < 0) := by omega
    have g4 : ¬ (rd P[d] (i : Int) ≥ b) := by omega
    have hs : fitR (md f) ((P[d]).take (i + 1)) = (fitR (md f) ((P[d]).take i) && decide (rd P[d] (i : Int) < md f)) := by
      unfold fitR
      rw [← List.take_append_getElem hi, List.all_append, rd_at hi]
      simp only [List.all_cons, List.all_nil, Bool.and_true]
    rw [hs, ← Bool.and_assoc] at hh
    simp only [laws_FnParts.l1, if_pos q1, if_pos q2, rdL_at hd, if_pos g1, if_pos g2, if_neg g3, if_neg g4, w_succ (n := i) (by omega)]
    generalize (fits && fitR (md f) ((P[d]).take i)) = F at *
    cases F with
    | true =>
      simp only [if_true]
      refine Ev.bind (ev_c (ev_Modulus f)) ?_
      rw [Bool.true_and] at hh
      exact hh
    | false =>
      simp only [Bool.false_eq_true, if_false]
      rw [Bool.false_and] at hh
      exact hh
theorem ev_fp0 {f b : Int} {v : List Int} {P : List (List Int)} (hPl : P.length ≤ 32) (hP : ∀ r ∈ P, r.length ≤ 1048576 ∧ El b r)
    (hend : P.all (fitR (md f)) = true → Ev (fun k => impl_Rejoin.f k f P b) (v, true)) (hv : v.length ≤ 1048576) :
    ∀ n d : Nat, d + n = P.length → Ev (fun k => laws_FnParts.l0 k f v b P ((P.take d).all (fitR (md f))) (d : Int)) true := by
  intro n
  induction n with
  | zero =>
    intro d e
    refine ev_s ?_
    have g1 : ¬ ((d : Int) < (P.length : Int)) := by omega
    simp only [laws_FnParts.l0, if_neg g1]
    rw [List.take_of_length_le (by omega)]
    by_cases c : P.all (fitR (md f)) = true
    · simp only [if_pos c]
      refine Ev.bind (hend c) ?_
      simp only [if_true]
      refine Ev.bind (ev_same v hv) ?_
      exact Ev.now _
    · simp only [if_neg c]
      exact Ev.now _
  | succ n ih =>
    intro d e
    have hd : d < P.length := by omega
    have hh := ih (d + 1) (by omega)
    refine ev_s ?_
    have g1 : ((d : Int) < (P.length : Int)) := by omega
    simp only [laws_FnParts.l0, if_pos g1]
    have hs : (P.take (d + 1)).all (fitR (md f)) = ((P.take d).all (fitR (md f)) && fitR (md f) P[d]) := by
      rw [← List.take_append_getElem hd, List.all_append]
      simp only [List.all_cons, List.all_nil, Bool.and_true]
    obtain ⟨k1, k2⟩ := hP _ (List.getElem_mem hd)
    have := ev_fp1 (f := f) (v := v) (fits := (P.take d).all (fitR (md f))) hd k1 k2 (by rw [← hs, w_succ (by omega)]; exact hh) (P[d]).length 0 (by omega)
    have e0 : fitR (md f) ((P[d]).take 0) = true := rfl
    rw [e0, Bool.and_true] at this
    exact this
theorem FnParts : laws_FnParts.Pure := by
  intro L hm h8 hw
  refine Ev.rounds ?_
  unfold laws_FnParts.f laws_big.f
  simp only [Option.bind_some]
  by_cases hbig : (L.length : Int) > 1048576
  · simp only [decide_eq_true hbig, if_true]; exact Ev.now _
  simp only [decide_eq_false hbig, Bool.false_eq_true, if_false]
  obtain ⟨f, v, b, c, hd, hvl⟩ := dr_DrawDigitParts L (by omega)
  refine Ev.bind hd ?_
  by_cases h : dpOk f v b c
  · refine Ev.bind (ev_sDigitParts h) ?_
    by_cases h2 : b ^ c.toNat < md f
    · simp only [if_pos h2, Bool.false_eq_true, if_false]; exact Ev.now _
    simp only [if_neg h2, if_true]
    refine Ev.bind (ev_cp v (by omega)) ?_
    refine Ev.bind (ev_iDigitParts h) ?_
    simp only [if_neg h2, if_true]
    obtain ⟨hv, hb, hc⟩ := h
    have hlen := hv.len
    have hPl := dpS_len b c.toNat v
    have hrow := dpS_row hb.1 c.toNat v
    have e1 : (((dpS b c.toNat v).length : Int) != c) = false := by
      rw [hPl]; simp; omega
    simp only [e1]
    refine ev_s ?_
    simp only [laws_FnParts.j0, Bool.false_eq_true, if_false]
    have hpm := hv.pm
    have hpp := hpm
    unfold Pm at hpp
    have h0 : 0 < (dpS b c.toNat v).length := by omega
    have er : (rd_L2 (dpS b c.toNat v) 0).length = v.length := by
      have e := rdL_at h0
      rw [show ((0 : Nat) : Int) = 0 from rfl] at e
      rw [e]
      exact (hrow _ (List.getElem_mem h0)).1
    refine ev_fp0 (by omega) (fun r hr => ⟨by rw [(hrow r hr).1]; omega, (hrow r hr).2⟩) ?_ (by omega) (dpS b c.toNat v).length 0 (by omega)
    intro hfit
    have hR : rjOk f (dpS b c.toNat v) b := by
      refine ⟨⟨by omega, by omega⟩, hb, hv.1, fun r hr => ⟨⟨hv.1, ?_, ?_⟩, ?_⟩⟩
      · rw [(hrow r hr).1]; exact hv.2.1
      · intro x hx
        have h5 := (List.all_eq_true.1 hfit) r hr
        unfold fitR at h5
        have h6 := (List.all_eq_true.1 h5) x hx
        exact ⟨((hrow r hr).2 x hx).1, of_decide_eq_true h6⟩
      · rw [er]; exact (hrow r hr).1
    refine ev_to (ev_iRejoin hR) ?_
    rw [er]
    congr 1
    symm
    refine set_map_rd rfl (fun i hi => ?_)
    have hx := hv.2.2.rd (by omega) (i : Int)
    rw [vl_dpS hb.1 (i : Int) c.toNat v hx.1 (by omega), em_id hx.1 hx.2]
  · refine Ev.bind (ev_sDigitParts_bad h) ?_
    simp only [Bool.false_eq_true, if_false]; exact Ev.now _

end Go.Proofs.Ytgjogfohknjpmaa.Pure
