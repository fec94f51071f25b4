/- FnTwistedFold returns true for every input: the twisted product is the polynomial product with its upper half subtracted from its lower half. -/
import Derived.Test.YtemffnnndjpleaaPFnTwistedFoldx8
import Derived.Test.YtemffnnndjpleaaGB
import Derived.Test.YtemffnnndjpleaaGK
import Derived.Test.YtemffnnndjpleaaGH
set_option linter.unusedVariables false
set_option linter.unusedSimpArgs false
namespace Go.Proofs.Ytemffnnndjpleaa.Pure
open Go.RowKit Go.Proofs.Ytemffnnndjpleaa.PFnTwistedFold Go.Proofs.YtemffnnndjpleaaW.PrintWords Go.Proofs.YtemffnnndjpleaaW.PrintLast Go.Proofs.YtemffnnndjpleaaW.PrintMore G7
theorem dr_New (L : List Int) (hL : L.length ≤ 140737488351232) : ∃ h, Ev (fun k => spec_l01New.f k L) (L, 0, h) := by
  have key : ∀ (d i : Nat) (x : Int), i + d = 4000 → ∃ h, Ev (fun k => spec_l01New.l0 k L x (i : Int)) (L, 0, h) := by
    intro d
    induction d with
    | zero =>
      intro i x hi
      refine ⟨x, ev_s ?_⟩
      have h2 : ¬ ((i : Int) < 4000) := by omega
      by_cases h1 : (i : Int) < (L.length : Int)
      · simp only [spec_l01New.l0, h1, h2, if_true, if_false]; exact Ev.now _
      · simp only [spec_l01New.l0, h1, if_false]; exact Ev.now _
    | succ d ih =>
      intro i x hi
      have h2 : (i : Int) < 4000 := by omega
      have h3 : (0 : Int) ≤ (i : Int) := by omega
      by_cases h1 : (i : Int) < (L.length : Int)
      · obtain ⟨h, hh⟩ := ih (i + 1) (Go.bits .and .i64 (wrap64 ((wrap64 ((wrap64 (x * 149)) + (wrap64 (rd L (i : Int))))) + 11)) 1073741823) (by omega)
        refine ⟨h, ev_s ?_⟩
        simp only [spec_l01New.l0, h1, h2, h3, if_true, w_succ (n := i) (by omega)]
        exact hh
      · refine ⟨x, ev_s ?_⟩
        simp only [spec_l01New.l0, h1, if_false]; exact Ev.now _
  unfold spec_l01New.f
  exact key 4000 0 _ (by omega)

theorem dr_Byte (L : List Int) (hL : L.length ≤ 140737488351232) (i h : Int) (hi : 0 ≤ i) : ∃ x i' h', spec_l01Byte.f L i h = some (x, i', h') ∧ 0 ≤ i' ∧ 0 ≤ x ∧ x ≤ 255 := by
  unfold spec_l01Byte.f
  simp only [i64_and255]
  by_cases c : i < (L.length : Int)
  · rw [if_pos c, if_pos hi]
    exact ⟨_, _, _, rfl, by rw [w64 (by omega) (by omega)]; omega, by omega, by omega⟩
  · rw [if_neg c]
    exact ⟨_, _, _, rfl, hi, by omega, by omega⟩

theorem dr_Below (L : List Int) (hL : L.length ≤ 140737488351232) (i h n : Int) (hi : 0 ≤ i) : ∃ x i' h', spec_l01Below.f L i h n = some (x, i', h') ∧ 0 ≤ i' ∧ 0 ≤ x ∧ (0 < n → x < n) := by
  unfold spec_l01Below.f
  by_cases c : n ≤ 0
  · rw [if_pos c]
    exact ⟨_, _, _, rfl, hi, by omega, by omega⟩
  · rw [if_neg c]
    by_cases c2 : n ≤ 256
    · rw [if_pos c2]
      obtain ⟨x, i1, h1, e1, hi1, hx0, hx1⟩ := dr_Byte L hL i h hi
      simp only [e1, Option.bind_some]
      rw [if_neg (by omega), tmod_nn hx0]
      exact ⟨_, _, _, rfl, hi1, (em_lt (by omega)).1, fun _ => (em_lt (by omega)).2⟩
    · rw [if_neg c2]
      obtain ⟨x, i1, h1, e1, hi1, hx0, hx1⟩ := dr_Byte L hL i h hi
      obtain ⟨y, i2, h2, e2, hi2, hy0, hy1⟩ := dr_Byte L hL i1 h1 hi1
      obtain ⟨z, i3, h3, e3, hi3, hz0, hz1⟩ := dr_Byte L hL i2 h2 hi2
      simp only [e1, e2, e3, Option.bind_some]
      rw [if_neg (by omega), w64 (x := x * 65536) (by omega) (by omega), w64 (x := y * 256) (by omega) (by omega), w64 (x := x * 65536 + y * 256) (by omega) (by omega), w64 (by omega) (by omega), tmod_nn (by omega)]
      exact ⟨_, _, _, rfl, hi3, (em_lt (by omega)).1, fun _ => (em_lt (by omega)).2⟩

theorem dr_Once (L : List Int) (hL : L.length ≤ 140737488351232) (i h n : Int) (hi : 0 ≤ i) : ∃ b i' h', spec_l01Once.f L i h n = some (b, i', h') ∧ 0 ≤ i' := by
  unfold spec_l01Once.f
  obtain ⟨x, i1, h1, e1, hi1, hx0, hx1⟩ := dr_Below L hL i h n hi
  simp only [e1, Option.bind_some]
  exact ⟨_, _, _, rfl, hi1⟩

theorem dr_Pick (L : List Int) (hL : L.length ≤ 140737488351232) (i h : Int) (l : List Int) (hl : 0 < l.length) (hi : 0 ≤ i) : ∃ x i' h', spec_l01PickInt.f L i h l = some (x, i', h') ∧ 0 ≤ i' ∧ x ∈ l := by
  unfold spec_l01PickInt.f
  obtain ⟨x, i1, h1, e1, hi1, hx0, hx1⟩ := dr_Below L hL i h (l.length : Int) hi
  have hx2 := hx1 (by omega)
  simp only [e1, Option.bind_some]
  rw [if_pos hx0, if_pos hx2]
  refine ⟨_, _, _, rfl, hi1, ?_⟩
  obtain ⟨n, rfl⟩ : ∃ n : Nat, x = n := ⟨x.toNat, by omega⟩
  rw [rd_at (by omega)]
  exact List.getElem_mem _

theorem dr_Field (L : List Int) (hL : L.length ≤ 140737488351232) (i h : Int) (hi : 0 ≤ i) : ∃ x i' h', spec_l01DrawField.f L i h = some (x, i', h') ∧ 0 ≤ i' ∧ -1 ≤ x ∧ x ≤ 100 := by
  unfold spec_l01DrawField.f
  obtain ⟨b, i1, h1, e1, hi1⟩ := dr_Once L hL i h 20 hi
  simp only [e1, Option.bind_some]
  cases b with
  | true =>
    obtain ⟨x, i2, h2, e2, hi2, hx⟩ := dr_Pick L hL i1 h1 ([-1, 9, 100] : List Int) (by decide) hi1
    simp only [e2, Option.bind_some, if_true]
    simp only [List.mem_cons, List.mem_nil_iff, or_false] at hx
    exact ⟨_, _, _, rfl, hi2, by omega, by omega⟩
  | false =>
    obtain ⟨x, i2, h2, e2, hi2, hx0, hx1⟩ := dr_Below L hL i1 h1 9 hi1
    have := hx1 (by omega)
    simp only [e2, Option.bind_some, Bool.false_eq_true, if_false]
    exact ⟨_, _, _, rfl, hi2, by omega, by omega⟩

theorem ev_Modulus (f : Int) : spec_Modulus.f f = some (md f) := by
  unfold spec_Modulus.f md
  by_cases h0 : f = 0
  · rw [if_pos h0, if_pos h0]
  rw [if_neg h0, if_neg h0]
  by_cases h1 : f = 1
  · rw [if_pos h1, if_pos h1]
  rw [if_neg h1, if_neg h1]
  by_cases h2 : f = 2
  · rw [if_pos h2, if_pos h2]
  rw [if_neg h2, if_neg h2]
  by_cases h3 : f = 3
  · rw [if_pos h3, if_pos h3]
  rw [if_neg h3, if_neg h3]
  by_cases h4 : f = 4
  · rw [if_pos h4, if_pos h4]
  rw [if_neg h4, if_neg h4]
  by_cases h5 : f = 5
  · rw [if_pos h5, if_pos h5]
  rw [if_neg h5, if_neg h5]
  by_cases h6 : f = 6
  · rw [if_pos h6, if_pos h6]
  rw [if_neg h6, if_neg h6]
  by_cases h7 : f = 7
  · rw [if_pos h7, if_pos h7]
  rw [if_neg h7, if_neg h7]
  by_cases h8 : f = 8
  · rw [if_pos h8, if_pos h8]
  rw [if_neg h8, if_neg h8]

theorem dr_Element (L : List Int) (hL : L.length ≤ 140737488351232) (i h f : Int) (hi : 0 ≤ i) : ∃ x i' h', spec_l01DrawElement.f L i h f = some (x, i', h') ∧ 0 ≤ i' := by
  unfold spec_l01DrawElement.f
  simp only [ev_Modulus, Option.bind_some]
  by_cases c : md f = 0
  · obtain ⟨x, i1, h1, e1, hi1, _⟩ := dr_Below L hL i h 50 hi
    simp only [c, e1, Option.bind_some, if_true]
    exact ⟨_, _, _, rfl, hi1⟩
  · obtain ⟨x, i1, h1, e1, hi1, _⟩ := dr_Below L hL i h 6 hi
    simp only [c, e1, Option.bind_some, if_false]
    by_cases c0 : x = 0
    · obtain ⟨y, i2, h2, e2, hi2, _⟩ := dr_Below L hL i1 h1 3 hi1
      simp only [c0, e2, Option.bind_some, if_true]
      exact ⟨_, _, _, rfl, hi2⟩
    by_cases c1 : x = 1
    · obtain ⟨y, i2, h2, e2, hi2, _⟩ := dr_Below L hL i1 h1 3 hi1
      simp only [c0, c1, e2, Option.bind_some, if_true, if_false]
      exact ⟨_, _, _, rfl, hi2⟩
    by_cases c2 : x = 2
    · obtain ⟨y, i2, h2, e2, hi2, _⟩ := dr_Below L hL i1 h1 16777216 hi1
      obtain ⟨z, i3, h3, e3, hi3, _⟩ := dr_Below L hL i2 h2 256 hi2
      simp only [c0, c1, c2, e2, e3, Option.bind_some, if_true, if_false]
      exact ⟨_, _, _, rfl, hi3⟩
    · obtain ⟨y, i2, h2, e2, hi2, _⟩ := dr_Below L hL i1 h1 30 hi1
      simp only [c0, c1, c2, e2, Option.bind_some, if_false]
      exact ⟨_, _, _, rfl, hi2⟩

theorem dr_List (L : List Int) (hL : L.length ≤ 140737488351232) (i h f n : Int) (hi : 0 ≤ i) (hn : n ≤ 1048576) : ∃ out i' h', Ev (fun k => spec_l01DrawList.f k L i h f n) (out, i', h') ∧ out.length = n.toNat ∧ 0 ≤ i' := by
  have key : ∀ (d c : Nat) (out : List Int) (i h : Int), c + d = n.toNat → out.length = c → 0 ≤ i → ∃ out' i' h', Ev (fun k => spec_l01DrawList.l0 k f n out (c : Int) L i h) (out', i', h') ∧ out'.length = n.toNat ∧ 0 ≤ i' := by
    intro d
    induction d with
    | zero =>
      intro c out i h hc ho hi
      refine ⟨out, i, h, ev_s ?_, by omega, hi⟩
      have h1 : ¬ ((c : Int) < n) := by omega
      simp only [spec_l01DrawList.l0, h1, if_false]; exact Ev.now _
    | succ d ih =>
      intro c out i h hc ho hi
      obtain ⟨x, i1, h1, e1, hi1⟩ := dr_Element L hL i h f hi
      obtain ⟨o2, i2, h2, e2, hl2, hi2⟩ := ih (c + 1) (out ++ [x]) i1 h1 (by omega) (by simp [ho]) hi1
      refine ⟨o2, i2, h2, ev_s ?_, hl2, hi2⟩
      have g1 : (c : Int) < n := by omega
      have g2 : out.length < 17592186044416 := by omega
      simp only [spec_l01DrawList.l0, g1, g2, e1, Option.bind_some, if_true, w_succ (n := c) (by omega)]
      exact e2
  unfold spec_l01DrawList.f
  exact key n.toNat 0 [] i h (by omega) rfl hi

theorem ev_TwoPower (f : Int) : Ev (fun k => spec_TwoPower.f k f) (tp f) := by
  unfold spec_TwoPower.f
  simp only [ev_Modulus, Option.bind_some]
  by_cases h : 0 ≤ f ∧ f < 9
  · have hp := pm_of h
    unfold Pm at hp
    obtain ⟨e1, e2, e3, e4, e5⟩ := oddP_spec h
    simp only [show ¬ (md f = 0) from by omega, if_false, w64 (x := md f - 1) (by omega) (by omega)]
    have key : ∀ (t : Nat) (c : Int), 0 ≤ c → c + t ≤ 100 → oddP f * ((2 ^ t : Nat) : Int) ≤ md f - 1 → Ev (fun k => spec_TwoPower.l0 k c (oddP f * ((2 ^ t : Nat) : Int))) (c + t) := by
      intro t
      induction t with
      | zero =>
        intro c hc hct hb
        refine ev_s ?_
        rw [Nat.pow_zero, Int.natCast_one, Int.mul_one] at *
        have h1 : ¬ (Int.tmod (oddP f) 2 = 0) := by rw [tmod_nn (by omega)]; omega
        simp only [spec_TwoPower.l0, h1, if_false, Int.natCast_zero, Int.add_zero]; exact Ev.now _
      | succ t ih =>
        intro c hc hct hb
        have e : oddP f * ((2 ^ (t + 1) : Nat) : Int) = 2 * (oddP f * ((2 ^ t : Nat) : Int)) := by
          rw [Nat.pow_succ, Int.natCast_mul, ← Int.mul_assoc, Int.mul_comm]; rfl
        have hq : 0 ≤ oddP f * ((2 ^ t : Nat) : Int) := Int.mul_nonneg (by omega) (Int.natCast_nonneg _)
        rw [e] at hb ⊢
        have hs := ih (c + 1) (by omega) (by omega) (by omega)
        generalize oddP f * ((2 ^ t : Nat) : Int) = q at *
        refine ev_s ?_
        have h1 : Int.tmod (2 * q) 2 = 0 := by rw [tmod_nn (by omega)]; omega
        have h2 : wrap64 (Int.tdiv (2 * q) 2) = q := by
          rw [Int.tdiv_eq_ediv_of_nonneg (by omega), w64 (by omega) (by omega)]; omega
        simp only [spec_TwoPower.l0, h1, h2, if_true, w64 (x := c + 1) (by omega) (by omega)]
        exact ev_to hs (by omega)
    have := key (tp f).toNat 0 (by omega) (by omega) (by omega)
    rw [← e1] at this
    exact ev_to this (by omega)
  · simp only [md_bad h, if_true]
    rw [tp_bad h]; exact Ev.now _

theorem dr_Vector (L l2 : List Int) (hL : L.length ≤ 140737488351232) (i h f : Int) (hi : 0 ≤ i) : ∃ v i' h', Ev (fun k => spec_l04DrawVector.f k L i h f l2) (v, i', h') ∧ v.length ≤ 4096 ∧ 0 ≤ i' := by
  have j4 : ∀ (c : Nat) (i h : Int), c ≤ 9 → 0 ≤ i → ∃ v i' h', Ev (fun k => spec_l04DrawVector.j4 k f (c : Int) L i h) (v, i', h') ∧ v.length ≤ 4096 ∧ 0 ≤ i' := by
    intro c i h hc hi
    have h2 := two_pow_le hc
    obtain ⟨o, i1, h1, e1, hl1, hi1⟩ := dr_List L hL i h f ((2 ^ c : Nat) : Int) hi (by omega)
    rw [Int.toNat_natCast] at hl1
    obtain ⟨b, i2, h2', e2, hi2⟩ := dr_Once L hL i1 h1 12 hi1
    have g1 : (0 : Int) ≤ (c : Int) := by omega
    have hu : Go.IntKind.u64.wrap (c : Int) = (c : Int) := u64_id (by omega) (by omega)
    cases b with
    | false =>
      refine ⟨o, i2, h2', ev_s ?_, by omega, hi2⟩
      simp only [spec_l04DrawVector.j4, hu, g1, if_true, shl1 (c := c) (by omega)]
      refine Ev.bind e1 ?_
      simp only [e2, Option.bind_some, Bool.false_eq_true, if_false]; exact Ev.now _
    | true =>
      obtain ⟨x, i3, h3, e3, hi3, hx0, hx1⟩ := dr_Below L hL i2 h2' 3 hi2
      by_cases c0 : x = 0
      · refine ⟨o ++ [0], i3, h3, ev_s ?_, by simp; omega, hi3⟩
        simp only [spec_l04DrawVector.j4, hu, g1, if_true, shl1 (c := c) (by omega)]
        refine Ev.bind e1 ?_
        simp only [e2, e3, c0, Option.bind_some, if_true, show o.length < 17592186044416 from by omega]; exact Ev.now _
      by_cases c1 : x = 1
      · obtain ⟨y, i4, h4, e4, hi4, hy0, hy1⟩ := dr_Below L hL i3 h3 (o.length : Int) hi3
        have hy2 := hy1 (by omega)
        obtain ⟨z, i5, h5, e5, hi5, _⟩ := dr_Pick L hL i4 h4 ([(-1), md f] : List Int) (by simp) hi4
        refine ⟨o.set y.toNat z, i5, h5, ev_s ?_, by rw [List.length_set]; omega, hi5⟩
        simp only [spec_l04DrawVector.j4, hu, g1, if_true, shl1 (c := c) (by omega)]
        refine Ev.bind e1 ?_
        simp only [e2, e3, c0, c1, e4, ev_Modulus, e5, hy0, hy2, Option.bind_some, if_true, if_false, show ¬ ((1 : Int) = 0) from by decide]; exact Ev.now _
      by_cases c2 : x = 2
      · refine ⟨[], i3, h3, ev_s ?_, by simp, hi3⟩
        simp only [spec_l04DrawVector.j4, hu, g1, if_true, shl1 (c := c) (by omega)]
        refine Ev.bind e1 ?_
        simp only [e2, e3, c0, c1, c2, Option.bind_some, if_true, if_false, show ¬ ((2 : Int) = 0) from by decide, show ¬ ((2 : Int) = 1) from by decide]; exact Ev.now _
      · refine ⟨o, i3, h3, ev_s ?_, by omega, hi3⟩
        simp only [spec_l04DrawVector.j4, hu, g1, if_true, shl1 (c := c) (by omega)]
        refine Ev.bind e1 ?_
        simp only [e2, e3, c0, c1, c2, Option.bind_some, if_true, if_false]; exact Ev.now _
  have j3 : ∀ (c : Nat) (i h : Int), c ≤ 9 → 0 ≤ i → ∃ v i' h', Ev (fun k => spec_l04DrawVector.j3 k f (c : Int) L i h) (v, i', h') ∧ v.length ≤ 4096 ∧ 0 ≤ i' := by
    intro c i h hc hi
    obtain ⟨b, i1, h1, e1, hi1⟩ := dr_Once L hL i h 25 hi
    cases b with
    | false =>
      obtain ⟨v, i2, h2, e2, r⟩ := j4 c i1 h1 hc hi1
      refine ⟨v, i2, h2, ev_s ?_, r⟩
      simp only [spec_l04DrawVector.j3, e1, Option.bind_some, Bool.false_eq_true, if_false]; exact e2
    | true =>
      obtain ⟨x, i2, h2, e2, hi2, hx⟩ := dr_Pick L hL i1 h1 ([0, 5, 9] : List Int) (by decide) hi1
      simp only [List.mem_cons, List.mem_nil_iff, or_false] at hx
      obtain ⟨n, rfl⟩ : ∃ n : Nat, x = n := ⟨x.toNat, by omega⟩
      obtain ⟨v, i3, h3, e3, r⟩ := j4 n i2 h2 (by omega) hi2
      refine ⟨v, i3, h3, ev_s ?_, r⟩
      simp only [spec_l04DrawVector.j3, e1, e2, Option.bind_some, if_true]; exact e3
  have j2 : ∀ (c t : Nat) (b : Bool) (i h : Int), c ≤ 9 → (b = true → t ≤ 9) → 0 ≤ i → ∃ v i' h', Ev (fun k => spec_l04DrawVector.j2 k f (c : Int) (t : Int) b L i h) (v, i', h') ∧ v.length ≤ 4096 ∧ 0 ≤ i' := by
    intro c t b i h hc ht hi
    cases b with
    | true =>
      obtain ⟨v, i3, h3, e3, r⟩ := j3 t i h (ht rfl) hi
      refine ⟨v, i3, h3, ev_s ?_, r⟩
      simp only [spec_l04DrawVector.j2, if_true]; exact e3
    | false =>
      obtain ⟨v, i3, h3, e3, r⟩ := j3 c i h hc hi
      refine ⟨v, i3, h3, ev_s ?_, r⟩
      simp only [spec_l04DrawVector.j2, Bool.false_eq_true, if_false]; exact e3
  have j2' : ∀ (c : Nat) (t : Int) (i h : Int), c ≤ 9 → 0 ≤ i → ∃ v i' h', Ev (fun k => spec_l04DrawVector.j2 k f (c : Int) t false L i h) (v, i', h') ∧ v.length ≤ 4096 ∧ 0 ≤ i' := by
    intro c t i h hc hi
    obtain ⟨v, i3, h3, e3, r⟩ := j3 c i h hc hi
    refine ⟨v, i3, h3, ev_s ?_, r⟩
    simp only [spec_l04DrawVector.j2, Bool.false_eq_true, if_false]; exact e3
  have j1 : ∀ (c : Nat) (i h : Int), c ≤ 8 → 0 ≤ i → ∃ v i' h', Ev (fun k => spec_l04DrawVector.j1 k f (c : Int) L i h) (v, i', h') ∧ v.length ≤ 4096 ∧ 0 ≤ i' := by
    intro c i h hc hi
    obtain ⟨x, i1, h1, e1, hi1, hx0, hx1⟩ := dr_Below L hL i h ((c : Int) + 2) hi
    have hx2 := hx1 (by omega)
    obtain ⟨n, rfl⟩ : ∃ n : Nat, x = n := ⟨x.toNat, by omega⟩
    by_cases ht : tp f ≥ 0
    · obtain ⟨t, ht2⟩ : ∃ t : Nat, tp f = t := ⟨(tp f).toNat, by omega⟩
      obtain ⟨v, i3, h3, e3, r⟩ := j2 n t (decide ((n : Int) > (t : Int))) i1 h1 (by omega) (fun c => by have := of_decide_eq_true c; omega) hi1
      refine ⟨v, i3, h3, ev_s ?_, r⟩
      simp only [spec_l04DrawVector.j1, w64 (x := (c : Int) + 2) (by omega) (by omega), e1, Option.bind_some]
      refine Ev.bind (ev_TwoPower f) ?_
      simp only [ht, if_true]
      rw [ht2]; exact e3
    · obtain ⟨v, i3, h3, e3, r⟩ := j2' n (tp f) i1 h1 (by omega) hi1
      refine ⟨v, i3, h3, ev_s ?_, r⟩
      simp only [spec_l04DrawVector.j1, w64 (x := (c : Int) + 2) (by omega) (by omega), e1, Option.bind_some]
      refine Ev.bind (ev_TwoPower f) ?_
      simp only [ht, if_false]; exact e3
  have l0 : ∀ (d c : Nat), c + d = 8 → ∃ v i' h', Ev (fun k => spec_l04DrawVector.l0 k f l2 (c : Int) L i h) (v, i', h') ∧ v.length ≤ 4096 ∧ 0 ≤ i' := by
    intro d
    induction d with
    | zero =>
      intro c hc
      obtain ⟨v, i3, h3, e3, r⟩ := j1 c i h (by omega) hi
      refine ⟨v, i3, h3, ev_s ?_, r⟩
      have g1 : ¬ ((c : Int) < 8) := by omega
      simp only [spec_l04DrawVector.l0, g1, if_false]; exact e3
    | succ d ih =>
      intro c hc
      have g1 : (c : Int) < 8 := by omega
      have g2 : (0 : Int) ≤ (c : Int) := by omega
      have hu : Go.IntKind.u64.wrap (c : Int) = (c : Int) := u64_id (by omega) (by omega)
      by_cases q : shl .i64 4 (c : Int) < (l2.length : Int)
      · obtain ⟨v, i3, h3, e3, r⟩ := ih (c + 1) (by omega)
        refine ⟨v, i3, h3, ev_s ?_, r⟩
        simp only [spec_l04DrawVector.l0, g1, g2, hu, q, if_true, w_succ (n := c) (by omega)]; exact e3
      · obtain ⟨v, i3, h3, e3, r⟩ := j1 c i h (by omega) hi
        refine ⟨v, i3, h3, ev_s ?_, r⟩
        simp only [spec_l04DrawVector.l0, g1, g2, hu, q, if_true, if_false]; exact e3
  unfold spec_l04DrawVector.f
  exact l0 8 0 (by omega)

theorem dr_Two (L : List Int) (hL : L.length ≤ 140737488351232) : ∃ f a b, Ev (fun k => spec_l04DrawTwo.f k L) (f, a, b) ∧ a.length ≤ 1048576 ∧ b.length ≤ 1048576 := by
  obtain ⟨h, hn⟩ := dr_New L hL
  obtain ⟨f, i2, h2, e2, hi2, _⟩ := dr_Field L hL 0 h (by omega)
  obtain ⟨v, i3, h3, e3, hl, hi3⟩ := dr_Vector L L hL i2 h2 f hi2
  obtain ⟨b, i4, h4, e4, hi4⟩ := dr_Once L hL i3 h3 12 hi3
  unfold spec_l04DrawTwo.f
  cases b with
  | true =>
    obtain ⟨u, i5, h5, e5, hu, hi5⟩ := dr_List L hL i4 h4 f (2 * (v.length : Int)) hi4 (by omega)
    refine ⟨f, v, u, Ev.bind hn ?_, by omega, by omega⟩
    simp only [e2, Option.bind_some]
    refine Ev.bind e3 ?_
    simp only [e4, Option.bind_some, if_true, w64 (x := 2 * (v.length : Int)) (by omega) (by omega)]
    refine Ev.bind e5 ?_
    exact Ev.now _
  | false =>
    obtain ⟨u, i5, h5, e5, hu, hi5⟩ := dr_List L hL i4 h4 f (v.length : Int) hi4 (by omega)
    refine ⟨f, v, u, Ev.bind hn ?_, by omega, by omega⟩
    simp only [e2, Option.bind_some]
    refine Ev.bind e3 ?_
    simp only [e4, Option.bind_some, Bool.false_eq_true, if_false]
    refine Ev.bind e5 ?_
    exact Ev.now _

theorem dr_Twisted (L : List Int) (hL : L.length ≤ 140737488351232) : ∃ f a b, Ev (fun k => spec_DrawTwisted.f k L) (f, a, b) ∧ a.length ≤ 1048576 ∧ b.length ≤ 1048576 := by
  obtain ⟨f, a, b, e, hl⟩ := dr_Two L hL
  refine ⟨f, a, b, ?_, hl⟩
  unfold spec_DrawTwisted.f
  refine Ev.bind e ?_
  exact Ev.now _

theorem ev_LogOf (n : Int) : Ev (fun k => spec_LogOf.f k n) (lg n) := by
  have key : ∀ (d c : Nat), c + d = 10 → Ev (fun k => spec_LogOf.l0 k n (c : Int)) (lgA n d c) := by
    intro d
    induction d with
    | zero =>
      intro c hc
      refine ev_s ?_
      have h1 : ¬ ((c : Int) ≤ 9) := by omega
      simp only [spec_LogOf.l0, h1, if_false]; exact Ev.now _
    | succ d ih =>
      intro c hc
      refine ev_s ?_
      have h1 : (c : Int) ≤ 9 := by omega
      have h2 : (0 : Int) ≤ (c : Int) := by omega
      simp only [spec_LogOf.l0, h1, u64_id (x := (c : Int)) (by omega) (by omega), h2, if_true, shl1 (c := c) (by omega), w_succ (n := c) (by omega)]
      unfold lgA
      by_cases h : n = ((2 ^ c : Nat) : Int)
      · rw [if_pos h]; simp only [if_pos h]; exact Ev.now _
      · rw [if_neg h]; simp only [if_neg h]; exact ih (c + 1) (by omega)
  exact key 10 0 rfl

theorem ev_l01In (x a b : Int) : spec_l01In.f x a b = some (decide (a ≤ x) && decide (x ≤ b)) := by
  unfold spec_l01In.f
  by_cases h : a ≤ x
  · rw [if_pos h, decide_eq_true h, Bool.true_and]
  · rw [if_neg h, decide_eq_false h, Bool.false_and]

theorem ev_l03Elements {f : Int} (h : 0 ≤ f ∧ f < 9) (l : List Int) (hl : l.length ≤ 35184372088832) : Ev (fun k => spec_l03Elements.f k f l) (elB (md f) l) := by
  have hp := pm_of h
  unfold Pm at hp
  have key : ∀ (d i : Nat), i + d = l.length → Ev (fun k => spec_l03Elements.l0 k l (md f) (i : Int)) (elB (md f) (l.drop i)) := by
    intro d
    induction d with
    | zero =>
      intro i hi
      refine ev_s ?_
      have h1 : ¬ ((i : Int) < (l.length : Int)) := by omega
      simp only [spec_l03Elements.l0, h1, if_false]
      rw [List.drop_of_length_le (by omega)]
      exact Ev.now _
    | succ d ih =>
      intro i hi
      refine ev_s ?_
      have h1 : (i : Int) < (l.length : Int) := by omega
      have h2 : (0 : Int) ≤ (i : Int) := by omega
      simp only [spec_l03Elements.l0, h1, h2, if_true, w_succ (n := i) (by omega), w64 (x := md f - 1) (by omega) (by omega), ev_l01In, Option.bind_some]
      rw [elB_drop (by omega)]
      rw [show decide (rd l (i : Int) < md f) = decide (rd l (i : Int) ≤ md f - 1) from decide_eq_decide.2 (by omega)]
      by_cases c : (decide (0 ≤ rd l (i : Int)) && decide (rd l (i : Int) ≤ md f - 1)) = true
      · simp only [c, if_true, Bool.true_and]
        exact ih (i + 1) (by omega)
      · simp only [Bool.not_eq_true] at c
        simp only [c, Bool.false_and, Bool.false_eq_true, if_false]
        exact Ev.now _
  unfold spec_l03Elements.f
  simp only [ev_Modulus, Option.bind_some]
  have h0 : ¬ (md f = 0) := by omega
  simp only [h0, if_false]
  exact key l.length 0 (by omega)
theorem ev_l03Elements_bad {f : Int} (h : ¬ (0 ≤ f ∧ f < 9)) (l : List Int) : Ev (fun k => spec_l03Elements.f k f l) false := by
  unfold spec_l03Elements.f
  simp only [ev_Modulus, Option.bind_some, md_bad h, if_true]
  exact Ev.now _

theorem ev_VectorOk {f : Int} {v : List Int} (h : VecOk f v) : Ev (fun k => spec_VectorOk.f k f v) true := by
  have hl := h.lg
  have hn := h.len
  unfold spec_VectorOk.f
  refine Ev.bind (ev_LogOf _) ?_
  have h1 : lg (v.length : Int) ≥ 0 := hl.1
  simp only [h1, if_true]
  refine Ev.bind (ev_TwoPower f) ?_
  simp only [hl.2, if_true]
  refine Ev.bind (ev_l03Elements h.1 v (by omega)) ?_
  rw [elB_iff.2 h.2.2]; exact Ev.now _
theorem ev_VectorOk_bad {f : Int} {v : List Int} (h : ¬ VecOk f v) : Ev (fun k => spec_VectorOk.f k f v) false := by
  unfold spec_VectorOk.f
  refine Ev.bind (ev_LogOf _) ?_
  by_cases h1 : lg (v.length : Int) ≥ 0
  · simp only [h1, if_true]
    refine Ev.bind (ev_TwoPower f) ?_
    have hn : v.length ≤ 512 := by
      rcases lg_cases (v.length : Int) with ⟨e, _⟩ | ⟨k, hk, _, e⟩
      · omega
      · have := two_pow_le hk; omega
    by_cases h2 : lg (v.length : Int) ≤ tp f
    · simp only [h2, if_true]
      by_cases hf : 0 ≤ f ∧ f < 9
      · refine Ev.bind (ev_l03Elements hf v (by omega)) ?_
        have he : elB (md f) v = false := by
          rw [← Bool.not_eq_true, elB_iff]
          intro he
          exact h (vec_of hf h1 h2 he)
        rw [he]; exact Ev.now _
      · refine Ev.bind (ev_l03Elements_bad hf v) ?_
        exact Ev.now _
    · simp only [h2, if_false]; exact Ev.now _
  · simp only [h1, if_false]; exact Ev.now _

theorem ev_cp (l : List Int) (hl : l.length ≤ 1048576) : Ev (fun k => laws_cp.f k l) l := by
  have key : ∀ (d i : Nat), i + d = l.length → Ev (fun k => laws_cp.l0 k l (l.take i) (i : Int)) l := by
    intro d
    induction d with
    | zero =>
      intro i hi
      refine ev_s ?_
      have g1 : ¬ ((i : Int) < (l.length : Int)) := by omega
      simp only [laws_cp.l0, g1, if_false]
      rw [List.take_of_length_le (by omega)]; exact Ev.now _
    | succ d ih =>
      intro i hi
      refine ev_s ?_
      have g1 : (i : Int) < (l.length : Int) := by omega
      have g2 : (0 : Int) ≤ (i : Int) := by omega
      have g3 : (l.take i).length < 17592186044416 := by rw [List.length_take]; omega
      simp only [laws_cp.l0, g1, g2, g3, if_true, w_succ (n := i) (by omega)]
      rw [rd_at (show i < l.length by omega), List.take_append_getElem (show i < l.length by omega)]
      exact ih (i + 1) (by omega)
  exact key l.length 0 (by omega)

theorem ev_l01Copy (l : List Int) (hl : l.length ≤ 17592186044416) : Ev (fun k => spec_l01Copy.f k l) l := by
  have key : ∀ (d i : Nat), i + d = l.length → Ev (fun k => spec_l01Copy.l0 k l (l.take i) (i : Int)) l := by
    intro d
    induction d with
    | zero =>
      intro i hi
      refine ev_s ?_
      have g1 : ¬ ((i : Int) < (l.length : Int)) := by omega
      simp only [spec_l01Copy.l0, g1, if_false]
      rw [List.take_of_length_le (by omega)]; exact Ev.now _
    | succ d ih =>
      intro i hi
      refine ev_s ?_
      have g1 : (i : Int) < (l.length : Int) := by omega
      have g2 : (0 : Int) ≤ (i : Int) := by omega
      have g3 : (l.take i).length < 17592186044416 := by rw [List.length_take]; omega
      simp only [spec_l01Copy.l0, g1, g2, g3, if_true, w_succ (n := i) (by omega)]
      rw [rd_at (show i < l.length by omega), List.take_append_getElem (show i < l.length by omega)]
      exact ih (i + 1) (by omega)
  exact key l.length 0 (by omega)

theorem ev_l03Cut (l : List Int) (hl : l.length ≤ 100000) : Ev (fun k => spec_l03Cut.f k l) (cutS l) := by
  have key : ∀ n, n ≤ l.length → Ev (fun k => spec_l03Cut.l0 k l (n : Int)) (cutN l n) := by
    intro n
    induction n with
    | zero =>
      intro hn
      refine ev_s ?_
      have g1 : ¬ (((0 : Nat) : Int) > 0) := by omega
      have g2 : (0 : Int) ≤ ((0 : Nat) : Int) := by omega
      have g3 : ((0 : Nat) : Int) ≤ (l.length : Int) := by omega
      simp only [spec_l03Cut.l0, g1, g2, g3, if_true, if_false, Int.toNat_natCast]
      refine Ev.bind (ev_l01Copy _ (by simp)) ?_
      exact Ev.now _
    | succ n ih =>
      intro hn
      refine ev_s ?_
      have g1 : ((n + 1 : Nat) : Int) > 0 := by omega
      have ew : wrap64 (((n + 1 : Nat) : Int) - 1) = (n : Int) := by rw [w64 (by omega) (by omega)]; omega
      have g2 : (0 : Int) ≤ (n : Int) := by omega
      have g3 : (n : Int) < (l.length : Int) := by omega
      unfold cutN
      by_cases c : rd l (n : Int) = 0
      · simp only [spec_l03Cut.l0, g1, ew, g2, g3, c, if_true]
        exact ih (by omega)
      · have g4 : (0 : Int) ≤ ((n + 1 : Nat) : Int) := by omega
        have g5 : ((n + 1 : Nat) : Int) ≤ (l.length : Int) := by omega
        simp only [spec_l03Cut.l0, g1, ew, g2, g3, g4, g5, c, if_true, if_false, Int.toNat_natCast]
        refine Ev.bind (ev_l01Copy _ (by simp; omega)) ?_
        exact Ev.now _
  exact key l.length (Nat.le_refl _)

theorem ev_Reduce {f : Int} (h : 0 ≤ f ∧ f < 9) (x : Int) : spec_Reduce.f f x = some (x % md f) := by
  have hp := pm_of h
  unfold Pm at hp
  unfold spec_Reduce.f
  rw [ev_Modulus]
  simp only [Option.bind_some]
  rw [if_neg (by omega)]
  have hb := tmod_bounds (a := x) (p := md f) (by omega)
  rw [w64 (by omega) (by omega), ← tmod_fix (a := x) (p := md f) (by omega)]
  by_cases c : Int.tmod x (md f) < 0
  · rw [if_pos c, if_pos c]
  · rw [if_neg c, if_neg c]
theorem ev_Reduce_bad {f : Int} (h : ¬ (0 ≤ f ∧ f < 9)) (x : Int) : spec_Reduce.f f x = some (-1) := by
  unfold spec_Reduce.f
  rw [ev_Modulus]
  simp only [Option.bind_some]
  rw [if_pos (md_bad h)]

def redS (p : Int) (a : List Int) : List Int := (List.range a.length).map (fun (i : Nat) => rd a (i : Int) % p)
theorem redS_len (p : Int) (a : List Int) : (redS p a).length = a.length := by simp [redS]
theorem redS_el {p : Int} (hp : 0 < p) (a : List Int) : El p (redS p a) := El.map (fun i _ => em_lt hp)
theorem redS_rd (p : Int) (a : List Int) (i : Nat) : rd (redS p a) (i : Int) = rd a (i : Int) % p := by
  by_cases h : i < a.length
  · unfold redS; rw [rd_map _ h]
  · rw [rd_out (l := a) (by omega), rd_out (by rw [redS_len]; omega), Int.zero_emod]
theorem ev_Trim {f : Int} (hf : 0 ≤ f ∧ f < 9) {a : List Int} (ha : a.length ≤ 400) : Ev (fun k => spec_Trim.f k f a) (cutS (redS (md f) a)) := by
  have hb := (isF hf.1 hf.2).bounds
  have key : ∀ (d i : Nat) (out : List Int), i + d = a.length → out = (List.range i).map (fun (i : Nat) => rd a (i : Int) % md f) → Ev (fun k => spec_Trim.l0 k f a out (i : Int)) (cutS (redS (md f) a)) := by
    intro d
    induction d with
    | zero =>
      intro i out hi ho
      refine ev_s ?_
      have g1 : ¬ ((i : Int) < (a.length : Int)) := by omega
      simp only [spec_Trim.l0, g1, if_false]
      have e : out = redS (md f) a := by rw [ho, show i = a.length by omega]; rfl
      rw [e]
      refine Ev.bind (ev_l03Cut _ (by rw [redS_len]; omega)) ?_
      exact Ev.now _
    | succ d ih =>
      intro i out hi ho
      refine ev_s ?_
      have g1 : (i : Int) < (a.length : Int) := by omega
      have g2 : (0 : Int) ≤ (i : Int) := by omega
      have g3 : out.length < 17592186044416 := by rw [ho]; simp; omega
      simp only [spec_Trim.l0, g1, g2, g3, if_true, ev_Reduce hf, Option.bind_some, w_succ (n := i) (by omega)]
      exact ih (i + 1) _ (by omega) (by rw [ho, map_snoc])
  unfold spec_Trim.f
  have g1 : ¬ (md f = 0) := by omega
  have g2 : ¬ ((a.length : Int) > 400) := by omega
  simp only [ev_Modulus, Option.bind_some, g1, if_false, decide_eq_false g2]
  refine ev_s ?_
  simp only [spec_Trim.j0, Bool.false_eq_true, if_false]
  exact key a.length 0 [] (by omega) rfl

theorem ev_fieldOf {f : Int} (h : 0 ≤ f ∧ f < 9) : impl_fieldOf.f f = some (md f, gn f, tp f, true) := by
  rcases fcases h.1 h.2 with e | e | e | e | e | e | e | e | e <;> subst e <;> rfl
theorem ev_fieldOf_bad {f : Int} (h : ¬ (0 ≤ f ∧ f < 9)) : impl_fieldOf.f f = some (0, 0, 0, false) := by
  unfold impl_fieldOf.f
  by_cases c : f < 0
  · rw [if_pos c]
  · rw [if_neg c, if_pos (by omega)]

theorem ev_areElements (p g t : Int) (l : List Int) (hl : l.length ≤ 35184372088832) : Ev (fun k => impl_field_areElements.f k p g t l) (elB p l) := by
  have key : ∀ (d i : Nat), i + d = l.length → Ev (fun k => impl_field_areElements.l0 k l (l.length : Int) (i : Int) p g t) (elB p (l.drop i)) := by
    intro d
    induction d with
    | zero =>
      intro i hi
      refine ev_s ?_
      have h1 : ¬ ((i : Int) < (l.length : Int)) := by omega
      simp only [impl_field_areElements.l0, h1, if_false]
      rw [List.drop_of_length_le (by omega)]
      exact Ev.now _
    | succ d ih =>
      intro i hi
      refine ev_s ?_
      have h1 : (i : Int) < (l.length : Int) := by omega
      have h2 : (0 : Int) ≤ (i : Int) := by omega
      simp only [impl_field_areElements.l0, h1, h2, if_true, w_succ (n := i) (by omega)]
      rw [elB_drop (by omega)]
      by_cases c1 : rd l (i : Int) < 0
      · simp only [c1, if_true, show decide (0 ≤ rd l (i : Int)) = false from decide_eq_false (by omega), Bool.false_and]
        exact Ev.now _
      · by_cases c2 : rd l (i : Int) ≥ p
        · simp only [c1, c2, if_true, if_false, show decide (rd l (i : Int) < p) = false from decide_eq_false (by omega), Bool.false_and, Bool.and_false]
          exact Ev.now _
        · simp only [c1, c2, if_false, show decide (0 ≤ rd l (i : Int)) = true from decide_eq_true (by omega), show decide (rd l (i : Int) < p) = true from decide_eq_true (by omega), Bool.true_and]
          exact ih (i + 1) (by omega)
  exact key l.length 0 (by omega)

theorem ev_polyField2 {f : Int} {a b : List Int} (h : PolyV f a) (k : PolyV f b) : Ev (fun k => impl_polyField.f k f [a, b]) (md f, gn f, tp f, true) := by
  obtain ⟨hf, hn, he, hz⟩ := h
  obtain ⟨_, kn, ke, kz⟩ := k
  have hb := (isF hf.1 hf.2).bounds
  unfold impl_polyField.f
  have hl : (([a, b] : List (List Int)).length : Int) = 2 := rfl
  simp only [ev_fieldOf hf, Option.bind_some, if_true, hl]
  have step : ∀ (ls : List (List Int)) (n i : Int) (l : List Int) (r : Int × Int × Int × Bool), 0 ≤ i → i < n → i < (ls.length : Int) → rd_L2 ls i = l → l.length ≤ 400 → El (md f) l → (1 ≤ l.length → rd l ((l.length - 1 : Nat) : Int) ≠ 0) →
      Ev (fun k => impl_polyField.l0 k ls n (wrap64 (i + 1)) (md f) (gn f) (tp f)) r → Ev (fun k => impl_polyField.l0 k ls n i (md f) (gn f) (tp f)) r := by
    intro ls n i l r h0 h1 h2 hl hn he hz hr
    refine ev_s ?_
    have g1 : ¬ ((l.length : Int) > 400) := by omega
    simp only [impl_polyField.l0, h0, h1, h2, hl, if_true, g1, if_false]
    refine Ev.bind (ev_areElements _ _ _ l (by omega)) ?_
    simp only [elB_iff.2 he, if_true]
    by_cases c : (l.length : Int) > 0
    · have ew : wrap64 ((l.length : Int) - 1) = ((l.length - 1 : Nat) : Int) := by rw [w64 (by omega) (by omega)]; omega
      have c2 : (0 : Int) ≤ ((l.length - 1 : Nat) : Int) := by omega
      have c3 : ((l.length - 1 : Nat) : Int) < (l.length : Int) := by omega
      simp only [c, ew, c2, c3, hz (by omega), if_true, if_false]
      exact hr
    · simp only [c, if_false]; exact hr
  refine step _ _ 0 a _ (by decide) (by decide) (by rw [hl]; decide) rfl hn he hz ?_
  rw [w64 (x := 0 + 1) (by decide) (by decide)]
  refine step _ _ (0 + 1) b _ (by decide) (by decide) (by rw [hl]; decide) rfl kn ke kz ?_
  rw [w64 (x := 0 + 1 + 1) (by decide) (by decide)]
  refine ev_s ?_
  simp only [impl_polyField.l0, show ¬ ((0 : Int) + 1 + 1 < 2) from by decide, if_false]
  exact Ev.now _

theorem ev_trimmed (l : List Int) (hl : l.length ≤ 100000) : Ev (fun k => impl_trimmed.f k l) (cutS l) := by
  have key : ∀ n, n ≤ l.length → Ev (fun k => impl_trimmed.l0 k (l.take n)) (cutN l n) := by
    intro n
    induction n with
    | zero =>
      intro hn
      refine ev_s ?_
      have g1 : ¬ (((l.take 0).length : Int) > 0) := by simp
      simp only [impl_trimmed.l0, g1, if_false]; exact Ev.now _
    | succ n ih =>
      intro hn
      refine ev_s ?_
      have hlen : (l.take (n + 1)).length = n + 1 := by rw [List.length_take]; omega
      have g1 : ((l.take (n + 1)).length : Int) > 0 := by omega
      have ew : wrap64 (((l.take (n + 1)).length : Int) - 1) = (n : Int) := by rw [hlen, w64 (by omega) (by omega)]; omega
      have g2 : (0 : Int) ≤ (n : Int) := by omega
      have g3 : (n : Int) < ((l.take (n + 1)).length : Int) := by omega
      have g4 : (n : Int) ≤ ((l.take (n + 1)).length : Int) := by omega
      have er : rd (l.take (n + 1)) (n : Int) = rd l (n : Int) := rd_take (by omega)
      unfold cutN
      by_cases c : rd l (n : Int) = 0
      · simp only [impl_trimmed.l0, g1, ew, g2, g3, g4, er, c, if_true, Int.toNat_natCast]
        rw [List.take_take, show min n (n + 1) = n by omega]
        exact ih (by omega)
      · simp only [impl_trimmed.l0, g1, ew, g2, g3, er, c, if_true, if_false]; exact Ev.now _
  unfold impl_trimmed.f
  have := key l.length (Nat.le_refl _)
  rw [List.take_length] at this
  exact this

def rawS (p : Int) (a b : List Int) : List Int := (List.range (a.length + b.length - 1)).map (fun c => pc a b c % p)
theorem rawS_len (p : Int) (a b : List Int) : (rawS p a b).length = a.length + b.length - 1 := by simp [rawS]
def mpS (p : Int) (a b : List Int) : List Int := if a.length = 0 ∨ b.length = 0 then [] else cutS (rawS p a b)
theorem mpS_len (p : Int) (a b : List Int) : (mpS p a b).length ≤ a.length + b.length := by
  unfold mpS; split
  · simp
  · have h := cutN_len (rawS p a b) (rawS p a b).length
    rw [rawS_len] at h
    unfold cutS
    rw [rawS_len]; omega
theorem mpS_rd (p : Int) (a b : List Int) (c : Nat) : rd (mpS p a b) (c : Int) = pc a b c % p := by
  unfold mpS
  by_cases h : a.length = 0 ∨ b.length = 0
  · rw [if_pos h]
    have : pc a b c = 0 := by
      rcases h with h | h
      · unfold pc; exact sm_nil (fun i hi => tm_a (by omega))
      · unfold pc; exact sm_nil (fun i hi => tm_b (by omega))
    rw [this, Int.zero_emod]; exact rd_out (by simp)
  · rw [if_neg h, cutS_rd]
    by_cases h2 : c < a.length + b.length - 1
    · unfold rawS; rw [rd_map _ h2]
    · rw [rd_out (by rw [rawS_len]; omega), pc_out (by omega) (by omega), Int.zero_emod]
theorem ev_mulPoly {p : Int} (hp : Pm p) (g t : Int) {a b : List Int} (h1 : a.length ≤ 400) (h2 : b.length ≤ 400) (ha : El p a) (hb : El p b) : Ev (fun k => impl_field_mulPoly.f k p g t a b) (mpS p a b) := by
  have hpp := hp
  unfold Pm at hpp
  unfold impl_field_mulPoly.f
  by_cases ca : (a.length : Int) = 0
  · simp only [ca, if_true]
    refine ev_s ?_
    simp only [impl_field_mulPoly.j0, if_true]
    unfold mpS
    rw [if_pos (by omega)]; exact Ev.now _
  by_cases cb : (b.length : Int) = 0
  · simp only [ca, if_false, cb]
    refine ev_s ?_
    simp only [impl_field_mulPoly.j0, beq_self_eq_true, if_true]
    unfold mpS
    rw [if_pos (by omega)]; exact Ev.now _
  have cb' : ((b.length : Int) == 0) = false := by rw [← Bool.not_eq_true, beq_iff_eq]; exact cb
  simp only [ca, if_false, cb']
  obtain ⟨N, hN⟩ : ∃ N, N = a.length + b.length - 1 := ⟨_, rfl⟩
  have ew : wrap64 (wrap64 ((a.length : Int) + (b.length : Int)) - 1) = (N : Int) := by
    rw [w64 (x := (a.length : Int) + (b.length : Int)) (by omega) (by omega), w64 (by omega) (by omega)]; omega
  refine ev_s ?_
  have g1 : (0 : Int) ≤ (N : Int) := by omega
  simp only [impl_field_mulPoly.j0, Bool.false_eq_true, if_false, ew, g1, if_true, Int.toNat_natCast, show N ≤ 35184372088832 from by omega]
  clear ew
  have emp : mpS p a b = cutS (rawS p a b) := by unfold mpS; rw [if_neg (by omega)]
  rw [emp]
  have inner : ∀ (d j i : Nat) (out : List Int) (r : List Int), j + d = b.length → i < a.length → out.length = N → (∀ c : Nat, c < N → rd out (c : Int) = scat a b i j c % p) →
      (∀ out' : List Int, out'.length = N → (∀ c : Nat, c < N → rd out' (c : Int) = sm (i + 1) (tm a b c) % p) → Ev (fun k => impl_field_mulPoly.l0 k b out' a (a.length : Int) ((i + 1 : Nat) : Int) p g t) r) →
      Ev (fun k => impl_field_mulPoly.l1 k b out (i : Int) (rd a (i : Int)) a (a.length : Int) (i : Int) b (b.length : Int) (j : Int) p g t) r := by
    intro d
    induction d with
    | zero =>
      intro j i out r hj hi ho hx hr
      refine ev_s ?_
      have g1 : ¬ ((j : Int) < (b.length : Int)) := by omega
      simp only [impl_field_mulPoly.l1, g1, if_false, w_succ (n := i) (by omega)]
      exact hr out ho (fun c hc => by rw [hx c hc, scat_row (Or.inl (by omega))])
    | succ d ih =>
      intro j i out r hj hi ho hx hr
      refine ev_s ?_
      have g0 : (j : Int) < (b.length : Int) := by omega
      have g00 : (0 : Int) ≤ (j : Int) := by omega
      have g2 : (0 : Int) ≤ ((i + j : Nat) : Int) := by omega
      have g3 : ((i + j : Nat) : Int) < (out.length : Int) := by omega
      have g6 : ¬ (p = 0) := by omega
      have hj9 : j < 9223372036854775807 := by omega
      have hai := ha.rd hp.pos (i : Int)
      have hbj := hb.rd hp.pos (j : Int)
      have hm := mul_lt_big hai.1 hai.2 hbj.1 hbj.2 hpp.2
      have ho1 := hx (i + j) (by omega)
      have ho2 := em_lt (a := scat a b i j (i + j)) hp.pos
      have ei : wrap64 ((i : Int) + (j : Int)) = ((i + j : Nat) : Int) := by rw [w64 (by omega) (by omega)]; omega
      have ev : Int.tmod (wrap64 (rd out ((i + j : Nat) : Int) + wrap64 (rd a (i : Int) * rd b (j : Int)))) p = scat a b i (j + 1) (i + j) % p := by
        rw [w64 (x := rd a (i : Int) * rd b (j : Int)) (by omega) (by omega), ho1, w64 (by omega) (by omega), tmod_nn (by omega), eadd_l, scat_hit]
      simp only [impl_field_mulPoly.l1, g0, g00, ei, g2, g3, g6, if_true, if_false, ev, w_succ (n := j) hj9, Int.toNat_natCast]
      clear ev ei
      refine ih (j + 1) i _ r (by omega) hi (by rw [List.length_set]; exact ho) (fun c hc => ?_) hr
      by_cases e : i + j = c
      · subst e; rw [rd_set_eq (by omega)]
      · rw [rd_set_ne e, hx c hc, scat_miss (by omega)]
  have outer : ∀ (d i : Nat) (out : List Int), i + d = a.length → out.length = N → (∀ c : Nat, c < N → rd out (c : Int) = sm i (tm a b c) % p) → Ev (fun k => impl_field_mulPoly.l0 k b out a (a.length : Int) (i : Int) p g t) (cutS (rawS p a b)) := by
    intro d
    induction d with
    | zero =>
      intro i out hi ho hx
      refine ev_s ?_
      have g1 : ¬ ((i : Int) < (a.length : Int)) := by omega
      simp only [impl_field_mulPoly.l0, g1, if_false]
      have e : out = rawS p a b := by
        unfold rawS
        rw [← hN]
        exact set_map_rd ho (fun c hc => by rw [hx c hc, show i = a.length by omega, pc_of_len])
      rw [e]
      refine Ev.bind (ev_trimmed _ (by rw [rawS_len]; omega)) ?_
      exact Ev.now _
    | succ d ih =>
      intro i out hi ho hx
      refine ev_s ?_
      have g1 : (i : Int) < (a.length : Int) := by omega
      have g2 : (0 : Int) ≤ (i : Int) := by omega
      simp only [impl_field_mulPoly.l0, g1, g2, if_true]
      exact inner b.length 0 i out _ (by omega) (by omega) ho (fun c hc => by rw [hx c hc, scat_start]) (fun out' ho' hx' => ih (i + 1) out' (by omega) ho' hx')
  exact outer a.length 0 _ (by omega) (by simp) (fun c _ => by rw [rd_rep, sm_zero, Int.zero_emod])

theorem ev_iMulPoly {f : Int} {a b : List Int} (h : PolyV f a) (k : PolyV f b) (hl : a.length + b.length ≤ 400) : Ev (fun k => impl_MulPoly.f k f a b) (mpS (md f) a b, true) := by
  unfold impl_MulPoly.f
  refine Ev.bind (ev_polyField2 h k) ?_
  simp only [if_true]
  refine Ev.bind (ev_mulPoly h.pm _ _ h.2.1 k.2.1 h.2.2.1 k.2.2.1) ?_
  have g1 : ¬ (((mpS (md f) a b).length : Int) > 400) := by have := mpS_len (md f) a b; omega
  simp only [g1, if_false]
  exact Ev.now _
theorem cut_red {f : Int} (hf : 0 ≤ f ∧ f < 9) {a : List Int} (ha : a.length ≤ 400) : PolyV f (cutS (redS (md f) a)) :=
  cutS_poly hf (by rw [redS_len]; exact ha) (redS_el (by have := (isF hf.1 hf.2).bounds; omega) a)
theorem cut_red_len (p : Int) (a : List Int) : (cutS (redS p a)).length ≤ a.length := by
  have := cutN_len (redS p a) (redS p a).length
  rw [redS_len] at this
  unfold cutS; rw [redS_len]; exact this
/-- The product of two reduced lists. -/
theorem mp_red (p : Int) (a b : List Int) (c : Nat) : rd (mpS p (cutS (redS p a)) (cutS (redS p b))) (c : Int) = pc a b c % p := by
  rw [mpS_rd]
  unfold pc
  refine sm_econgr (fun j hj => ?_)
  rw [tm_in (by omega), tm_in (by omega), cutS_rd, cutS_rd, redS_rd, redS_rd, emul_l, emul_r]

theorem ev_mul {p : Int} (hp : Pm p) (g t : Int) {a b : Int} (ha : 0 ≤ a ∧ a < p) (hb : 0 ≤ b ∧ b < p) : impl_field_mul.f p g t a b = some (a * b % p) := by
  unfold Pm at hp
  have h := mul_lt_big ha.1 ha.2 hb.1 hb.2 hp.2
  unfold impl_field_mul.f
  rw [if_neg (by omega), w64 (by omega) (by omega), tmod_nn (by omega)]

theorem ev_add {p : Int} (hp : Pm p) (g t : Int) {a b : Int} (ha : 0 ≤ a ∧ a < p) (hb : 0 ≤ b ∧ b < p) : impl_field_add.f p g t a b = some ((a + b) % p) := by
  unfold Pm at hp
  unfold impl_field_add.f
  rw [if_neg (by omega), w64 (by omega) (by omega), tmod_nn (by omega)]

theorem ev_sub {p : Int} (hp : Pm p) (g t : Int) {a b : Int} (ha : 0 ≤ a ∧ a < p) (hb : 0 ≤ b ∧ b < p) : impl_field_sub.f p g t a b = some ((a - b) % p) := by
  unfold Pm at hp
  unfold impl_field_sub.f
  rw [if_neg (by omega), w64 (x := a - b) (by omega) (by omega), w64 (by omega) (by omega), tmod_nn (by omega), Int.add_emod_right]

theorem ev_twisted {p : Int} (hp : Pm p) (g t : Int) {a b : List Int} (h2 : a.length ≤ 512) (e : a.length = b.length) (ha : El p a) (hb : El p b) : Ev (fun k => impl_field_twisted.f k p g t a b) (twS p a b) := by
  have inner : ∀ (d j i : Nat) (out : List Int) (r : List Int), j + d = a.length → i < a.length → out.length = a.length → (∀ c : Nat, c < a.length → rd out (c : Int) = tsc a b a.length i j c % p) →
      (∀ out' : List Int, out'.length = a.length → (∀ c : Nat, c < a.length → rd out' (c : Int) = sm (i + 1) (tt a b a.length c) % p) → Ev (fun k => impl_field_twisted.l0 k b (a.length : Int) out' a (a.length : Int) ((i + 1 : Nat) : Int) p g t) r) →
      Ev (fun k => impl_field_twisted.l1 k b (a.length : Int) out (i : Int) (rd a (i : Int)) a (a.length : Int) (i : Int) b (a.length : Int) (j : Int) p g t) r := by
    intro d
    induction d with
    | zero =>
      intro j i out r hj hi ho hx hr
      refine ev_s ?_
      have g1 : ¬ ((j : Int) < (a.length : Int)) := by omega
      simp only [impl_field_twisted.l1, g1, if_false, w_succ (n := i) (by omega)]
      exact hr out ho (fun c hc => by rw [hx c hc, show j = a.length by omega, tsc_row a b hi hc])
    | succ d ih =>
      intro j i out r hj hi ho hx hr
      refine ev_s ?_
      have ei : wrap64 ((i : Int) + (j : Int)) = ((i + j : Nat) : Int) := by rw [w64 (by omega) (by omega)]; omega
      have g1 : (j : Int) < (a.length : Int) := by omega
      have g2 : (0 : Int) ≤ (j : Int) := by omega
      have g3 : (j : Int) < (b.length : Int) := by omega
      have hai := ha.rd hp.pos (i : Int)
      have hbj := hb.rd hp.pos (j : Int)
      have hm := em_lt (a := rd a (i : Int) * rd b (j : Int)) hp.pos
      simp only [impl_field_twisted.l1, g1, g2, g3, if_true, ev_mul hp g t hai hbj, Option.bind_some, ei]
      by_cases q : i + j < a.length
      · have q1 : ((i + j : Nat) : Int) < (a.length : Int) := by omega
        have q2 : (0 : Int) ≤ ((i + j : Nat) : Int) := by omega
        have q3 : ((i + j : Nat) : Int) < (out.length : Int) := by omega
        have ho1 := hx (i + j) q
        have ho2 : 0 ≤ rd out ((i + j : Nat) : Int) ∧ rd out ((i + j : Nat) : Int) < p := by rw [ho1]; exact em_lt hp.pos
        simp only [q1, q2, q3, if_true, ev_add hp g t ho2 hm, Option.bind_some, w_succ (n := j) (by omega), Int.toNat_natCast]
        refine ih (j + 1) i _ r (by omega) hi (by rw [List.length_set]; exact ho) (fun c hc => ?_) hr
        by_cases e : i + j = c
        · subst e; rw [rd_set_eq (by omega), ho1, eadd_l, eadd_r, tsc_hit1]
        · rw [rd_set_ne e, hx c hc, tsc_miss a b (by omega) (by omega)]
      · have q1 : ¬ (((i + j : Nat) : Int) < (a.length : Int)) := by omega
        have en : wrap64 (((i + j : Nat) : Int) - (a.length : Int)) = ((i + j - a.length : Nat) : Int) := by rw [w64 (by omega) (by omega)]; omega
        have q2 : (0 : Int) ≤ ((i + j - a.length : Nat) : Int) := by omega
        have q3 : ((i + j - a.length : Nat) : Int) < (out.length : Int) := by omega
        have ho1 := hx (i + j - a.length) (by omega)
        have ho2 : 0 ≤ rd out ((i + j - a.length : Nat) : Int) ∧ rd out ((i + j - a.length : Nat) : Int) < p := by rw [ho1]; exact em_lt hp.pos
        simp only [q1, en, q2, q3, if_true, if_false, ev_sub hp g t ho2 hm, Option.bind_some, w_succ (n := j) (by omega), Int.toNat_natCast]
        refine ih (j + 1) i _ r (by omega) hi (by rw [List.length_set]; exact ho) (fun c hc => ?_) hr
        by_cases e : i + j - a.length = c
        · subst e; rw [rd_set_eq (by omega), ho1, esub_l, esub_r, tsc_hit2 a b hi (show j < a.length by omega) (show i + j - a.length + a.length = i + j by omega)]
        · rw [rd_set_ne e, hx c hc, tsc_miss a b (by omega) (by omega)]
  have outer : ∀ (d i : Nat) (out : List Int), i + d = a.length → out.length = a.length → (∀ c : Nat, c < a.length → rd out (c : Int) = sm i (tt a b a.length c) % p) → Ev (fun k => impl_field_twisted.l0 k b (a.length : Int) out a (a.length : Int) (i : Int) p g t) (twS p a b) := by
    intro d
    induction d with
    | zero =>
      intro i out hi ho hx
      refine ev_s ?_
      have g1 : ¬ ((i : Int) < (a.length : Int)) := by omega
      simp only [impl_field_twisted.l0, g1, if_false]
      have e : out = twS p a b := set_map_rd ho (fun c hc => by rw [hx c hc, show i = a.length by omega])
      rw [e]; exact Ev.now _
    | succ d ih =>
      intro i out hi ho hx
      refine ev_s ?_
      have g1 : (i : Int) < (a.length : Int) := by omega
      have g2 : (0 : Int) ≤ (i : Int) := by omega
      simp only [impl_field_twisted.l0, g1, g2, if_true]
      have hi2 := inner a.length 0 i out (twS p a b) (by omega) (by omega) ho (fun c hc => by rw [hx c hc, tsc_start a b (show i < a.length by omega)]) (fun out' ho' hx' => ih (i + 1) out' (by omega) ho' hx')
      rw [show ((b.length : Nat) : Int) = (a.length : Int) by omega]
      exact hi2
  unfold impl_field_twisted.f
  have g1 : (0 : Int) ≤ (a.length : Int) := by omega
  simp only [g1, if_true, Int.toNat_natCast, show a.length ≤ 35184372088832 from by omega]
  exact outer a.length 0 _ (by omega) (by simp) (fun c _ => by rw [rd_rep, sm_zero, Int.zero_emod])

theorem ev_logOf (n : Int) : Ev (fun k => impl_logOf.f k n) (lg n) := by
  have key : ∀ (d c : Nat), c + d = 10 → Ev (fun k => impl_logOf.l0 k n (c : Int)) (lgA n d c) := by
    intro d
    induction d with
    | zero =>
      intro c hc
      refine ev_s ?_
      have h1 : ¬ ((c : Int) < 10) := by omega
      simp only [impl_logOf.l0, h1, if_false]; exact Ev.now _
    | succ d ih =>
      intro c hc
      refine ev_s ?_
      have h1 : (c : Int) < 10 := by omega
      have h2 : (0 : Int) ≤ (c : Int) := by omega
      simp only [impl_logOf.l0, h1, h2, if_true, shl1 (c := c) (by omega), w_succ (n := c) (by omega)]
      unfold lgA
      by_cases h : n = ((2 ^ c : Nat) : Int)
      · rw [if_pos h]; simp only [if_pos h]; exact Ev.now _
      · rw [if_neg h]; simp only [if_neg h]; exact ih (c + 1) (by omega)
  exact key 10 0 rfl

theorem ev_vectorField1 {f : Int} {a : List Int} (h : VecOk f a) : Ev (fun k => impl_vectorField.f k f [a]) (md f, gn f, tp f, true) := by
  have hlg := h.lg
  have hn := h.len
  obtain ⟨hf, _, he⟩ := h
  unfold impl_vectorField.f
  have hl : (([a] : List (List Int)).length : Int) = 1 := rfl
  have hr : rd_L2 [a] 0 = a := rfl
  have n1 : ¬ (lg (a.length : Int) < 0) := by omega
  have n2 : ¬ (lg (a.length : Int) > tp f) := by omega
  simp only [ev_fieldOf hf, Option.bind_some, if_true, hl]
  refine ev_s ?_
  simp only [impl_vectorField.l0, hl, hr, show (0 : Int) < 1 from by decide, show (0 : Int) ≤ 0 from by decide, if_true]
  refine Ev.bind (ev_logOf _) ?_
  simp only [n1, n2, if_false]
  refine Ev.bind (ev_areElements _ _ _ a (by omega)) ?_
  simp only [elB_iff.2 he, if_true, w64 (x := 0 + 1) (by decide) (by decide)]
  refine ev_s ?_
  simp only [impl_vectorField.l0, hl, show ¬ ((0 : Int) + 1 < 1) from by decide, if_false]
  exact Ev.now _
theorem lg_small {n : Nat} (h : 0 ≤ lg (n : Int)) : n ≤ 512 := by
  rcases lg_cases (n : Int) with ⟨e, _⟩ | ⟨k, hk, _, e⟩
  · omega
  · have := two_pow_le hk; omega
theorem ev_vectorField1_bad {f : Int} {a : List Int} (h : ¬ VecOk f a) : Ev (fun k => impl_vectorField.f k f [a]) (0, 0, 0, false) := by
  unfold impl_vectorField.f
  by_cases hf : 0 ≤ f ∧ f < 9
  · have hl : (([a] : List (List Int)).length : Int) = 1 := rfl
    have hr : rd_L2 [a] 0 = a := rfl
    simp only [ev_fieldOf hf, Option.bind_some, if_true, hl]
    refine ev_s ?_
    simp only [impl_vectorField.l0, hl, hr, show (0 : Int) < 1 from by decide, show (0 : Int) ≤ 0 from by decide, if_true]
    refine Ev.bind (ev_logOf _) ?_
    by_cases n1 : lg (a.length : Int) < 0
    · simp only [n1, if_true]; exact Ev.now _
    by_cases n2 : lg (a.length : Int) > tp f
    · simp only [n1, n2, if_true, if_false]; exact Ev.now _
    simp only [n1, n2, if_false]
    have hs := lg_small (n := a.length) (by omega)
    refine Ev.bind (ev_areElements _ _ _ a (by omega)) ?_
    have he : elB (md f) a = false := by
      rw [← Bool.not_eq_true, elB_iff]
      intro he
      exact h (vec_of hf (by omega) (by omega) he)
    simp only [he, Bool.false_eq_true, if_false]
    exact Ev.now _
  · simp only [ev_fieldOf_bad hf, Option.bind_some, Bool.false_eq_true, if_false]
    exact Ev.now _

theorem ev_vectorField2 {f : Int} {a b : List Int} (h : VecOk f a) (k : VecOk f b) (e : a.length = b.length) : Ev (fun k => impl_vectorField.f k f [a, b]) (md f, gn f, tp f, true) := by
  have hlg := h.lg
  have hn := h.len
  have klg := k.lg
  have kn := k.len
  obtain ⟨hf, _, he⟩ := h
  obtain ⟨_, _, ke⟩ := k
  unfold impl_vectorField.f
  have hl : (([a, b] : List (List Int)).length : Int) = 2 := rfl
  have hr : rd_L2 [a, b] 0 = a := rfl
  have hr1 : rd_L2 [a, b] (0 + 1) = b := rfl
  have n1 : ¬ (lg (a.length : Int) < 0) := by omega
  have n2 : ¬ (lg (a.length : Int) > tp f) := by omega
  have m1 : ¬ (lg (b.length : Int) < 0) := by omega
  have m2 : ¬ (lg (b.length : Int) > tp f) := by omega
  have me : ((b.length : Int) = (a.length : Int)) := by omega
  simp only [ev_fieldOf hf, Option.bind_some, if_true, hl]
  refine ev_s ?_
  simp only [impl_vectorField.l0, hl, hr, show (0 : Int) < 2 from by decide, show (0 : Int) ≤ 0 from by decide, if_true]
  refine Ev.bind (ev_logOf _) ?_
  simp only [n1, n2, if_false]
  refine Ev.bind (ev_areElements _ _ _ a (by omega)) ?_
  simp only [elB_iff.2 he, if_true, w64 (x := 0 + 1) (by decide) (by decide)]
  refine ev_s ?_
  simp only [impl_vectorField.l0, hl, hr, hr1, show (0 : Int) + 1 < 2 from by decide, show (0 : Int) ≤ 0 + 1 from by decide, show (0 : Int) < 2 from by decide, if_true]
  refine Ev.bind (ev_logOf _) ?_
  simp only [m1, m2, if_false]
  refine Ev.bind (ev_areElements _ _ _ b (by omega)) ?_
  simp only [elB_iff.2 ke, if_true, me, w64 (x := 0 + 1 + 1) (by decide) (by decide)]
  refine ev_s ?_
  simp only [impl_vectorField.l0, hl, show ¬ ((0 : Int) + 1 + 1 < 2) from by decide, if_false]
  exact Ev.now _
theorem ev_vectorField2_bad {f : Int} {a b : List Int} (h : ¬ (VecOk f a ∧ VecOk f b ∧ a.length = b.length)) : Ev (fun k => impl_vectorField.f k f [a, b]) (0, 0, 0, false) := by
  unfold impl_vectorField.f
  by_cases hf : 0 ≤ f ∧ f < 9
  · have hl : (([a, b] : List (List Int)).length : Int) = 2 := rfl
    have hr : rd_L2 [a, b] 0 = a := rfl
    have hr1 : rd_L2 [a, b] (0 + 1) = b := rfl
    simp only [ev_fieldOf hf, Option.bind_some, if_true, hl]
    refine ev_s ?_
    simp only [impl_vectorField.l0, hl, hr, show (0 : Int) < 2 from by decide, show (0 : Int) ≤ 0 from by decide, if_true]
    refine Ev.bind (ev_logOf _) ?_
    by_cases n1 : lg (a.length : Int) < 0
    · simp only [n1, if_true]; exact Ev.now _
    by_cases n2 : lg (a.length : Int) > tp f
    · simp only [n1, n2, if_true, if_false]; exact Ev.now _
    simp only [n1, n2, if_false]
    have hs := lg_small (n := a.length) (by omega)
    refine Ev.bind (ev_areElements _ _ _ a (by omega)) ?_
    by_cases he : El (md f) a
    · simp only [elB_iff.2 he, if_true, w64 (x := 0 + 1) (by decide) (by decide)]
      refine ev_s ?_
      simp only [impl_vectorField.l0, hl, hr, hr1, show (0 : Int) + 1 < 2 from by decide, show (0 : Int) ≤ 0 + 1 from by decide, show (0 : Int) < 2 from by decide, if_true]
      refine Ev.bind (ev_logOf _) ?_
      by_cases m1 : lg (b.length : Int) < 0
      · simp only [m1, if_true]; exact Ev.now _
      by_cases m2 : lg (b.length : Int) > tp f
      · simp only [m1, m2, if_true, if_false]; exact Ev.now _
      simp only [m1, m2, if_false]
      have ks := lg_small (n := b.length) (by omega)
      refine Ev.bind (ev_areElements _ _ _ b (by omega)) ?_
      by_cases ke : El (md f) b
      · have me : ¬ ((b.length : Int) = (a.length : Int)) := fun c => h ⟨vec_of hf (by omega) (by omega) he, vec_of hf (by omega) (by omega) ke, by omega⟩
        simp only [elB_iff.2 ke, if_true, me, if_false]
        exact Ev.now _
      · simp only [Bool.eq_false_iff.2 (fun c => ke (elB_iff.1 c)), Bool.false_eq_true, if_false]
        exact Ev.now _
    · simp only [Bool.eq_false_iff.2 (fun c => he (elB_iff.1 c)), Bool.false_eq_true, if_false]
      exact Ev.now _
  · simp only [ev_fieldOf_bad hf, Option.bind_some, Bool.false_eq_true, if_false]
    exact Ev.now _

theorem ev_iTwisted {f : Int} {a b : List Int} (h : VecOk f a) (k : VecOk f b) (e : a.length = b.length) : Ev (fun q => impl_Twisted.f q f a b) (twS (md f) a b) := by
  unfold impl_Twisted.f
  refine Ev.bind (ev_vectorField2 h k e) ?_
  simp only [if_true]
  refine Ev.bind (ev_twisted h.pm _ _ h.len.2 e h.2.2 k.2.2) ?_
  exact Ev.now _

theorem ev_Sub {f : Int} (h : 0 ≤ f ∧ f < 9) (x y : Int) : spec_Sub.f f x y = some ((x - y) % md f) := by
  have hp := pm_of h
  unfold Pm at hp
  have hx := em_lt (a := x) (p := md f) (by omega)
  have hy := em_lt (a := y) (p := md f) (by omega)
  unfold spec_Sub.f
  rw [ev_Modulus]
  simp only [Option.bind_some, ev_Reduce h]
  rw [if_neg (by omega), w64 (by omega) (by omega), esub_l, esub_r]

theorem tw_fold {a b : List Int} {n c : Nat} (ha : a.length = n) (hb : b.length = n) (hc : c < n) : sm n (tt a b n c) = pc a b c - pc a b (n + c) := by
  have e1 : pc a b c = sm n (tm a b c) := by rw [← ha]; exact pc_of_len.symm
  have e2 : pc a b (n + c) = sm n (tm a b (n + c)) := by
    have h := pc_of_len (a := a) (b := b) (c := n + c)
    rw [ha] at h
    exact h.symm
  rw [e1, e2, ← sm_sub]
  refine sm_congr (fun j hj => ?_)
  unfold tt
  by_cases h : j ≤ c
  · rw [if_pos h, tm_in h, tm_b (c := n + c) (by omega)]; omega
  · rw [if_neg h, tm_c (by omega), tm_in (by omega)]; omega
theorem fold_run {f : Int} (hf : 0 ≤ f ∧ f < 9) {a m t : List Int} {P : Nat → Int} (hn : a.length ≤ 128) (htl : t.length = a.length) (hmr : ∀ c : Nat, rd m (c : Int) = P c % md f)
    (htr : ∀ i : Nat, i < a.length → rd t (i : Int) = (P i % md f - P (a.length + i) % md f) % md f) : Ev (fun k => laws_FnTwistedFold.l0 k f a m t 0) true := by
  have j3 : ∀ (i : Nat) (lo : Int), i < a.length → lo = P i % md f → Ev (fun k => laws_FnTwistedFold.l0 k f a m t ((i + 1 : Nat) : Int)) true → Ev (fun k => laws_FnTwistedFold.j3 k f a m t (i : Int) lo 0) true := by
    intro i lo hi hlo hr
    refine ev_s ?_
    have ew : wrap64 ((i : Int) + (a.length : Int)) = ((a.length + i : Nat) : Int) := by rw [w64 (by omega) (by omega)]; omega
    have es : wrap64 ((i : Int) + 1) = ((i + 1 : Nat) : Int) := w_succ (n := i) (by omega)
    have g2 : (0 : Int) ≤ ((a.length + i : Nat) : Int) := Int.natCast_nonneg _
    have g3 : (0 : Int) ≤ (i : Int) := Int.natCast_nonneg _
    have g4 : (i : Int) < (t.length : Int) := by rw [htl]; exact Int.ofNat_lt.2 hi
    by_cases c : ((a.length + i : Nat) : Int) < (m.length : Int)
    · have e1 : (rd t (i : Int) = (lo - rd m ((a.length + i : Nat) : Int)) % md f) = True := eq_true (by rw [htr i hi, hlo, hmr])
      simp only [laws_FnTwistedFold.j3, ew, c, g2, g3, g4, if_true, ev_Sub hf, Option.bind_some, e1, es]
      exact hr
    · have e0 : P (a.length + i) % md f = 0 := by rw [← hmr]; exact rd_out (by omega)
      have e1 : (rd t (i : Int) = (lo - 0) % md f) = True := eq_true (by rw [htr i hi, hlo, e0])
      simp only [laws_FnTwistedFold.j3, ew, c, g3, g4, if_true, if_false, ev_Sub hf, Option.bind_some, e1, es]
      exact hr
  have key : ∀ (d i : Nat), i + d = a.length → Ev (fun k => laws_FnTwistedFold.l0 k f a m t (i : Int)) true := by
    intro d
    induction d with
    | zero =>
      intro i hi
      refine ev_s ?_
      have g2 : ¬ ((i : Int) < (a.length : Int)) := by omega
      simp only [laws_FnTwistedFold.l0, g2, if_false]; exact Ev.now _
    | succ d ih =>
      intro i hi
      refine ev_s ?_
      have g2 : (i : Int) < (a.length : Int) := by omega
      have g3 : (0 : Int) ≤ (i : Int) := Int.natCast_nonneg _
      by_cases c : (i : Int) < (m.length : Int)
      · simp only [laws_FnTwistedFold.l0, g2, g3, c, if_true]
        exact j3 i _ (by omega) (hmr i) (ih (i + 1) (by omega))
      · simp only [laws_FnTwistedFold.l0, g2, c, if_true, if_false]
        exact j3 i _ (by omega) (by rw [← hmr]; exact (rd_out (by omega)).symm) (ih (i + 1) (by omega))
  exact key a.length 0 (by omega)
theorem tw_rd {f : Int} {a b : List Int} (e : a.length = b.length) (i : Nat) (hi : i < a.length) : rd (twS (md f) a b) (i : Int) = (pc a b i % md f - pc a b (a.length + i) % md f) % md f := by
  unfold twS
  rw [rd_map _ hi, tw_fold rfl e.symm hi, esub_l, esub_r]
theorem FnTwistedFold : laws_FnTwistedFold.Pure := by
  intro L hm h8 hw
  refine Ev.rounds ?_
  unfold laws_FnTwistedFold.f laws_big.f
  simp only [Option.bind_some]
  by_cases hbig : (L.length : Int) > 1048576
  · simp only [decide_eq_true hbig, if_true]; exact Ev.now _
  simp only [decide_eq_false hbig, Bool.false_eq_true, if_false]
  obtain ⟨f, a, b, hd, hal, hbl⟩ := dr_Twisted L (by omega)
  have out : Ev (fun k => laws_FnTwistedFold.j0 k f a b true) true := by
    refine ev_s ?_
    simp only [laws_FnTwistedFold.j0, if_true]; exact Ev.now _
  refine Ev.bind hd ?_
  by_cases ha : VecOk f a
  · refine Ev.bind (ev_VectorOk ha) ?_
    simp only [if_true]
    by_cases hb : VecOk f b
    · refine Ev.bind (ev_VectorOk hb) ?_
      simp only [if_true]
      by_cases hab : (a.length : Int) = (b.length : Int)
      · simp only [hab, if_true]
        by_cases hn : (b.length : Int) > 128
        · simp only [decide_eq_true hn]; exact out
        simp only [decide_eq_false hn]
        clear out
        have hf := ha.1
        have hp := (isF hf.1 hf.2).bounds
        refine ev_s ?_
        simp only [laws_FnTwistedFold.j0, Bool.false_eq_true, if_false]
        refine Ev.bind (ev_Trim hf (by omega)) ?_
        refine Ev.bind (ev_Trim hf (by omega)) ?_
        have la := cut_red_len (md f) a
        have lb := cut_red_len (md f) b
        refine Ev.bind (ev_iMulPoly (cut_red hf (by omega)) (cut_red hf (by omega)) (by omega)) ?_
        refine Ev.bind (ev_cp a hal) ?_
        refine Ev.bind (ev_cp b hbl) ?_
        refine Ev.bind (ev_iTwisted ha hb (by omega)) ?_
        have g1 : (((twS (md f) a b).length : Int) != (a.length : Int)) = false := by rw [twS_len, bne_self_eq_false]
        simp only [if_true, g1]
        refine ev_s ?_
        simp only [laws_FnTwistedFold.j1, Bool.false_eq_true, if_false]
        exact fold_run hf (P := pc a b) (by omega) (twS_len _ _ _) (mp_red (md f) a b) (tw_rd (by omega))
      · simp only [hab, if_false]; exact out
    · refine Ev.bind (ev_VectorOk_bad hb) ?_
      simp only [Bool.false_eq_true, if_false]; exact out
  · refine Ev.bind (ev_VectorOk_bad ha) ?_
    simp only [Bool.false_eq_true, if_false]; exact out

end Go.Proofs.Ytemffnnndjpleaa.Pure
