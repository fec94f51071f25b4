/- FnTrace returns true for every input: the trace is the sum of the images by the odd numbers below twice the length. -/
import Derived.Test.YtgjogfohknjpmaaPFnTracex7
import Derived.Test.YtgjogfohknjpmaaGB
import Derived.Test.YtgjogfohknjpmaaGJ
set_option linter.unusedVariables false
set_option linter.unusedSimpArgs false
namespace Go.Proofs.Ytgjogfohknjpmaa.Pure
open Go.RowKit Go.Proofs.Ytgjogfohknjpmaa.PFnTrace Go.Proofs.YtgjogfohknjpmaaW.PrintWords Go.Proofs.YtgjogfohknjpmaaW.PrintLast Go.Proofs.YtgjogfohknjpmaaW.PrintMore G7
theorem dr_New (L : List Int) (hL : L.length ≤ 140737488351232) : ∃ h, Ev (fun k => spec_l01New.f k L) (L, 0, h) := by
  have key : ∀ (d i : Nat) (x : Int), i + d = 4000 → ∃ h, Ev (fun k => spec_l01New.l0 k L x (i : Int)) (L, 0, h) := by
    intro d
    induction d with
    | zero =>
      intro i x hi
      refine ⟨x, ev_s ?_⟩
      have h2 : ¬ ((i : Int) < 4000) := by omega
      by_cases h1 : (i : Int) < (L.length : Int)
      · simp only [spec_l01New.l0, h1, h2, if_true, if_false]; exact Ev.now _
      · simp only [spec_l01New.l0, h1, if_false]; exact Ev.now _
    | succ d ih =>
      intro i x hi
      have h2 : (i : Int) < 4000 := by omega
      have h3 : (0 : Int) ≤ (i : Int) := by omega
      by_cases h1 : (i : Int) < (L.length : Int)
      · obtain ⟨h, hh⟩ := ih (i + 1) (Go.bits .and .i64 (wrap64 ((wrap64 ((wrap64 (x * 149)) + (wrap64 (rd L (i : Int))))) + 11)) 1073741823) (by omega)
        refine ⟨h, ev_s ?_⟩
        simp only [spec_l01New.l0, h1, h2, h3, if_true, w_succ (n := i) (by omega)]
        exact hh
      · refine ⟨x, ev_s ?_⟩
        simp only [spec_l01New.l0, h1, if_false]; exact Ev.now _
  unfold spec_l01New.f
  exact key 4000 0 _ (by omega)

theorem dr_Byte (L : List Int) (hL : L.length ≤ 140737488351232) (i h : Int) (hi : 0 ≤ i) : ∃ x i' h', spec_l01Byte.f L i h = some (x, i', h') ∧ 0 ≤ i' ∧ 0 ≤ x ∧ x ≤ 255 := by
  unfold spec_l01Byte.f
  simp only [i64_and255]
  by_cases c : i < (L.length : Int)
  · rw [if_pos c, if_pos hi]
    exact ⟨_, _, _, rfl, by rw [w64 (by omega) (by omega)]; omega, by omega, by omega⟩
  · rw [if_neg c]
    exact ⟨_, _, _, rfl, hi, by omega, by omega⟩

theorem dr_Below (L : List Int) (hL : L.length ≤ 140737488351232) (i h n : Int) (hi : 0 ≤ i) : ∃ x i' h', spec_l01Below.f L i h n = some (x, i', h') ∧ 0 ≤ i' ∧ 0 ≤ x ∧ (0 < n → x < n) := by
  unfold spec_l01Below.f
  by_cases c : n ≤ 0
  · rw [if_pos c]
    exact ⟨_, _, _, rfl, hi, by omega, by omega⟩
  · rw [if_neg c]
    by_cases c2 : n ≤ 256
    · rw [if_pos c2]
      obtain ⟨x, i1, h1, e1, hi1, hx0, hx1⟩ := dr_Byte L hL i h hi
      simp only [e1, Option.bind_some]
      rw [if_neg (by omega), tmod_nn hx0]
      exact ⟨_, _, _, rfl, hi1, (em_lt (by omega)).1, fun _ => (em_lt (by omega)).2⟩
    · rw [if_neg c2]
      obtain ⟨x, i1, h1, e1, hi1, hx0, hx1⟩ := dr_Byte L hL i h hi
      obtain ⟨y, i2, h2, e2, hi2, hy0, hy1⟩ := dr_Byte L hL i1 h1 hi1
      obtain ⟨z, i3, h3, e3, hi3, hz0, hz1⟩ := dr_Byte L hL i2 h2 hi2
      simp only [e1, e2, e3, Option.bind_some]
      rw [if_neg (by omega), w64 (x := x * 65536) (by omega) (by omega), w64 (x := y * 256) (by omega) (by omega), w64 (x := x * 65536 + y * 256) (by omega) (by omega), w64 (by omega) (by omega), tmod_nn (by omega)]
      exact ⟨_, _, _, rfl, hi3, (em_lt (by omega)).1, fun _ => (em_lt (by omega)).2⟩

theorem dr_Once (L : List Int) (hL : L.length ≤ 140737488351232) (i h n : Int) (hi : 0 ≤ i) : ∃ b i' h', spec_l01Once.f L i h n = some (b, i', h') ∧ 0 ≤ i' := by
  unfold spec_l01Once.f
  obtain ⟨x, i1, h1, e1, hi1, hx0, hx1⟩ := dr_Below L hL i h n hi
  simp only [e1, Option.bind_some]
  exact ⟨_, _, _, rfl, hi1⟩

theorem dr_Pick (L : List Int) (hL : L.length ≤ 140737488351232) (i h : Int) (l : List Int) (hl : 0 < l.length) (hi : 0 ≤ i) : ∃ x i' h', spec_l01PickInt.f L i h l = some (x, i', h') ∧ 0 ≤ i' ∧ x ∈ l := by
  unfold spec_l01PickInt.f
  obtain ⟨x, i1, h1, e1, hi1, hx0, hx1⟩ := dr_Below L hL i h (l.length : Int) hi
  have hx2 := hx1 (by omega)
  simp only [e1, Option.bind_some]
  rw [if_pos hx0, if_pos hx2]
  refine ⟨_, _, _, rfl, hi1, ?_⟩
  obtain ⟨n, rfl⟩ : ∃ n : Nat, x = n := ⟨x.toNat, by omega⟩
  rw [rd_at (by omega)]
  exact List.getElem_mem _

theorem dr_Field (L : List Int) (hL : L.length ≤ 140737488351232) (i h : Int) (hi : 0 ≤ i) : ∃ x i' h', spec_l01DrawField.f L i h = some (x, i', h') ∧ 0 ≤ i' ∧ -1 ≤ x ∧ x ≤ 100 := by
  unfold spec_l01DrawField.f
  obtain ⟨b, i1, h1, e1, hi1⟩ := dr_Once L hL i h 20 hi
  simp only [e1, Option.bind_some]
  cases b with
  | true =>
    obtain ⟨x, i2, h2, e2, hi2, hx⟩ := dr_Pick L hL i1 h1 ([-1, 9, 100] : List Int) (by decide) hi1
    simp only [e2, Option.bind_some, if_true]
    simp only [List.mem_cons, List.mem_nil_iff, or_false] at hx
    exact ⟨_, _, _, rfl, hi2, by omega, by omega⟩
  | false =>
    obtain ⟨x, i2, h2, e2, hi2, hx0, hx1⟩ := dr_Below L hL i1 h1 9 hi1
    have := hx1 (by omega)
    simp only [e2, Option.bind_some, Bool.false_eq_true, if_false]
    exact ⟨_, _, _, rfl, hi2, by omega, by omega⟩

theorem ev_Modulus (f : Int) : spec_Modulus.f f = some (md f) := by
  unfold spec_Modulus.f md
  by_cases h0 : f = 0
  · rw [if_pos h0, if_pos h0]
  rw [if_neg h0, if_neg h0]
  by_cases h1 : f = 1
  · rw [if_pos h1, if_pos h1]
  rw [if_neg h1, if_neg h1]
  by_cases h2 : f = 2
  · rw [if_pos h2, if_pos h2]
  rw [if_neg h2, if_neg h2]
  by_cases h3 : f = 3
  · rw [if_pos h3, if_pos h3]
  rw [if_neg h3, if_neg h3]
  by_cases h4 : f = 4
  · rw [if_pos h4, if_pos h4]
  rw [if_neg h4, if_neg h4]
  by_cases h5 : f = 5
  · rw [if_pos h5, if_pos h5]
  rw [if_neg h5, if_neg h5]
  by_cases h6 : f = 6
  · rw [if_pos h6, if_pos h6]
  rw [if_neg h6, if_neg h6]
  by_cases h7 : f = 7
  · rw [if_pos h7, if_pos h7]
  rw [if_neg h7, if_neg h7]
  by_cases h8 : f = 8
  · rw [if_pos h8, if_pos h8]
  rw [if_neg h8, if_neg h8]

theorem dr_Element (L : List Int) (hL : L.length ≤ 140737488351232) (i h f : Int) (hi : 0 ≤ i) : ∃ x i' h', spec_l01DrawElement.f L i h f = some (x, i', h') ∧ 0 ≤ i' := by
  unfold spec_l01DrawElement.f
  simp only [ev_Modulus, Option.bind_some]
  by_cases c : md f = 0
  · obtain ⟨x, i1, h1, e1, hi1, _⟩ := dr_Below L hL i h 50 hi
    simp only [c, e1, Option.bind_some, if_true]
    exact ⟨_, _, _, rfl, hi1⟩
  · obtain ⟨x, i1, h1, e1, hi1, _⟩ := dr_Below L hL i h 6 hi
    simp only [c, e1, Option.bind_some, if_false]
    by_cases c0 : x = 0
    · obtain ⟨y, i2, h2, e2, hi2, _⟩ := dr_Below L hL i1 h1 3 hi1
      simp only [c0, e2, Option.bind_some, if_true]
      exact ⟨_, _, _, rfl, hi2⟩
    by_cases c1 : x = 1
    · obtain ⟨y, i2, h2, e2, hi2, _⟩ := dr_Below L hL i1 h1 3 hi1
      simp only [c0, c1, e2, Option.bind_some, if_true, if_false]
      exact ⟨_, _, _, rfl, hi2⟩
    by_cases c2 : x = 2
    · obtain ⟨y, i2, h2, e2, hi2, _⟩ := dr_Below L hL i1 h1 16777216 hi1
      obtain ⟨z, i3, h3, e3, hi3, _⟩ := dr_Below L hL i2 h2 256 hi2
      simp only [c0, c1, c2, e2, e3, Option.bind_some, if_true, if_false]
      exact ⟨_, _, _, rfl, hi3⟩
    · obtain ⟨y, i2, h2, e2, hi2, _⟩ := dr_Below L hL i1 h1 30 hi1
      simp only [c0, c1, c2, e2, Option.bind_some, if_false]
      exact ⟨_, _, _, rfl, hi2⟩

theorem dr_List (L : List Int) (hL : L.length ≤ 140737488351232) (i h f n : Int) (hi : 0 ≤ i) (hn : n ≤ 1048576) : ∃ out i' h', Ev (fun k => spec_l01DrawList.f k L i h f n) (out, i', h') ∧ out.length = n.toNat ∧ 0 ≤ i' := by
  have key : ∀ (d c : Nat) (out : List Int) (i h : Int), c + d = n.toNat → out.length = c → 0 ≤ i → ∃ out' i' h', Ev (fun k => spec_l01DrawList.l0 k f n out (c : Int) L i h) (out', i', h') ∧ out'.length = n.toNat ∧ 0 ≤ i' := by
    intro d
    induction d with
    | zero =>
      intro c out i h hc ho hi
      refine ⟨out, i, h, ev_s ?_, by omega, hi⟩
      have h1 : ¬ ((c : Int) < n) := by omega
      simp only [spec_l01DrawList.l0, h1, if_false]; exact Ev.now _
    | succ d ih =>
      intro c out i h hc ho hi
      obtain ⟨x, i1, h1, e1, hi1⟩ := dr_Element L hL i h f hi
      obtain ⟨o2, i2, h2, e2, hl2, hi2⟩ := ih (c + 1) (out ++ [x]) i1 h1 (by omega) (by simp [ho]) hi1
      refine ⟨o2, i2, h2, ev_s ?_, hl2, hi2⟩
      have g1 : (c : Int) < n := by omega
      have g2 : out.length < 17592186044416 := by omega
      simp only [spec_l01DrawList.l0, g1, g2, e1, Option.bind_some, if_true, w_succ (n := c) (by omega)]
      exact e2
  unfold spec_l01DrawList.f
  exact key n.toNat 0 [] i h (by omega) rfl hi

theorem ev_TwoPower (f : Int) : Ev (fun k => spec_TwoPower.f k f) (tp f) := by
  unfold spec_TwoPower.f
  simp only [ev_Modulus, Option.bind_some]
  by_cases h : 0 ≤ f ∧ f < 9
  · have hp := pm_of h
    unfold Pm at hp
    obtain ⟨e1, e2, e3, e4, e5⟩ := oddP_spec h
    simp only [show ¬ (md f = 0) from by omega, if_false, w64 (x := md f - 1) (by omega) (by omega)]
    have key : ∀ (t : Nat) (c : Int), 0 ≤ c → c + t ≤ 100 → oddP f * ((2 ^ t : Nat) : Int) ≤ md f - 1 → Ev (fun k => spec_TwoPower.l0 k c (oddP f * ((2 ^ t : Nat) : Int))) (c + t) := by
      intro t
      induction t with
      | zero =>
        intro c hc hct hb
        refine ev_s ?_
        rw [Nat.pow_zero, Int.natCast_one, Int.mul_one] at *
        have h1 : ¬ (Int.tmod (oddP f) 2 = 0) := by rw [tmod_nn (by omega)]; omega
        simp only [spec_TwoPower.l0, h1, if_false, Int.natCast_zero, Int.add_zero]; exact Ev.now _
      | succ t ih =>
        intro c hc hct hb
        have e : oddP f * ((2 ^ (t + 1) : Nat) : Int) = 2 * (oddP f * ((2 ^ t : Nat) : Int)) := by
          rw [Nat.pow_succ, Int.natCast_mul, ← Int.mul_assoc, Int.mul_comm]; rfl
        have hq : 0 ≤ oddP f * ((2 ^ t : Nat) : Int) := Int.mul_nonneg (by omega) (Int.natCast_nonneg _)
        rw [e] at hb ⊢
        have hs := ih (c + 1) (by omega) (by omega) (by omega)
        generalize oddP f * ((2 ^ t : Nat) : Int) = q at *
        refine ev_s ?_
        have h1 : Int.tmod (2 * q) 2 = 0 := by rw [tmod_nn (by omega)]; omega
        have h2 : wrap64 (Int.tdiv (2 * q) 2) = q := by
          rw [Int.tdiv_eq_ediv_of_nonneg (by omega), w64 (by omega) (by omega)]; omega
        simp only [spec_TwoPower.l0, h1, h2, if_true, w64 (x := c + 1) (by omega) (by omega)]
        exact ev_to hs (by omega)
    have := key (tp f).toNat 0 (by omega) (by omega) (by omega)
    rw [← e1] at this
    exact ev_to this (by omega)
  · simp only [md_bad h, if_true]
    rw [tp_bad h]; exact Ev.now _

theorem dr_Vector (L l2 : List Int) (hL : L.length ≤ 140737488351232) (i h f : Int) (hi : 0 ≤ i) : ∃ v i' h', Ev (fun k => spec_l04DrawVector.f k L i h f l2) (v, i', h') ∧ v.length ≤ 4096 ∧ 0 ≤ i' := by
  have j4 : ∀ (c : Nat) (i h : Int), c ≤ 9 → 0 ≤ i → ∃ v i' h', Ev (fun k => spec_l04DrawVector.j4 k f (c : Int) L i h) (v, i', h') ∧ v.length ≤ 4096 ∧ 0 ≤ i' := by
    intro c i h hc hi
    have h2 := two_pow_le hc
    obtain ⟨o, i1, h1, e1, hl1, hi1⟩ := dr_List L hL i h f ((2 ^ c : Nat) : Int) hi (by omega)
    rw [Int.toNat_natCast] at hl1
    obtain ⟨b, i2, h2', e2, hi2⟩ := dr_Once L hL i1 h1 12 hi1
    have g1 : (0 : Int) ≤ (c : Int) := by omega
    have hu : Go.IntKind.u64.wrap (c : Int) = (c : Int) := u64_id (by omega) (by omega)
    cases b with
    | false =>
      refine ⟨o, i2, h2', ev_s ?_, by omega, hi2⟩
      simp only [spec_l04DrawVector.j4, hu, g1, if_true, shl1 (c := c) (by omega)]
      refine Ev.bind e1 ?_
      simp only [e2, Option.bind_some, Bool.false_eq_true, if_false]; exact Ev.now _
    | true =>
      obtain ⟨x, i3, h3, e3, hi3, hx0, hx1⟩ := dr_Below L hL i2 h2' 3 hi2
      by_cases c0 : x = 0
      · refine ⟨o ++ [0], i3, h3, ev_s ?_, by simp; omega, hi3⟩
        simp only [spec_l04DrawVector.j4, hu, g1, if_true, shl1 (c := c) (by omega)]
        refine Ev.bind e1 ?_
        simp only [e2, e3, c0, Option.bind_some, if_true, show o.length < 17592186044416 from by omega]; exact Ev.now _
      by_cases c1 : x = 1
      · obtain ⟨y, i4, h4, e4, hi4, hy0, hy1⟩ := dr_Below L hL i3 h3 (o.length : Int) hi3
        have hy2 := hy1 (by omega)
        obtain ⟨z, i5, h5, e5, hi5, _⟩ := dr_Pick L hL i4 h4 ([(-1), md f] : List Int) (by simp) hi4
        refine ⟨o.set y.toNat z, i5, h5, ev_s ?_, by rw [List.length_set]; omega, hi5⟩
        simp only [spec_l04DrawVector.j4, hu, g1, if_true, shl1 (c := c) (by omega)]
        refine Ev.bind e1 ?_
        simp only [e2, e3, c0, c1, e4, ev_Modulus, e5, hy0, hy2, Option.bind_some, if_true, if_false, show ¬ ((1 : Int) = 0) from by decide]; exact Ev.now _
      by_cases c2 : x = 2
      · refine ⟨[], i3, h3, ev_s ?_, by simp, hi3⟩
        simp only [spec_l04DrawVector.j4, hu, g1, if_true, shl1 (c := c) (by omega)]
        refine Ev.bind e1 ?_
        simp only [e2, e3, c0, c1, c2, Option.bind_some, if_true, if_false, show ¬ ((2 : Int) = 0) from by decide, show ¬ ((2 : Int) = 1) from by decide]; exact Ev.now _
      · refine ⟨o, i3, h3, ev_s ?_, by omega, hi3⟩
        simp only [spec_l04DrawVector.j4, hu, g1, if_true, shl1 (c := c) (by omega)]
        refine Ev.bind e1 ?_
        simp only [e2, e3, c0, c1, c2, Option.bind_some, if_true, if_false]; exact Ev.now _
  have j3 : ∀ (c : Nat) (i h : Int), c ≤ 9 → 0 ≤ i → ∃ v i' h', Ev (fun k => spec_l04DrawVector.j3 k f (c : Int) L i h) (v, i', h') ∧ v.length ≤ 4096 ∧ 0 ≤ i' := by
    intro c i h hc hi
    obtain ⟨b, i1, h1, e1, hi1⟩ := dr_Once L hL i h 25 hi
    cases b with
    | false =>
      obtain ⟨v, i2, h2, e2, r⟩ := j4 c i1 h1 hc hi1
      refine ⟨v, i2, h2, ev_s ?_, r⟩
      simp only [spec_l04DrawVector.j3, e1, Option.bind_some, Bool.false_eq_true, if_false]; exact e2
    | true =>
      obtain ⟨x, i2, h2, e2, hi2, hx⟩ := dr_Pick L hL i1 h1 ([0, 5, 9] : List Int) (by decide) hi1
      simp only [List.mem_cons, List.mem_nil_iff, or_false] at hx
      obtain ⟨n, rfl⟩ : ∃ n : Nat, x = n := ⟨x.toNat, by omega⟩
      obtain ⟨v, i3, h3, e3, r⟩ := j4 n i2 h2 (by omega) hi2
      refine ⟨v, i3, h3, ev_s ?_, r⟩
      simp only [spec_l04DrawVector.j3, e1, e2, Option.bind_some, if_true]; exact e3
  have j2 : ∀ (c t : Nat) (b : Bool) (i h : Int), c ≤ 9 → (b = true → t ≤ 9) → 0 ≤ i → ∃ v i' h', Ev (fun k => spec_l04DrawVector.j2 k f (c : Int) (t : Int) b L i h) (v, i', h') ∧ v.length ≤ 4096 ∧ 0 ≤ i' := by
    intro c t b i h hc ht hi
    cases b with
    | true =>
      obtain ⟨v, i3, h3, e3, r⟩ := j3 t i h (ht rfl) hi
      refine ⟨v, i3, h3, ev_s ?_, r⟩
      simp only [spec_l04DrawVector.j2, if_true]; exact e3
    | false =>
      obtain ⟨v, i3, h3, e3, r⟩ := j3 c i h hc hi
      refine ⟨v, i3, h3, ev_s ?_, r⟩
      simp only [spec_l04DrawVector.j2, Bool.false_eq_true, if_false]; exact e3
  have j2' : ∀ (c : Nat) (t : Int) (i h : Int), c ≤ 9 → 0 ≤ i → ∃ v i' h', Ev (fun k => spec_l04DrawVector.j2 k f (c : Int) t false L i h) (v, i', h') ∧ v.length ≤ 4096 ∧ 0 ≤ i' := by
    intro c t i h hc hi
    obtain ⟨v, i3, h3, e3, r⟩ := j3 c i h hc hi
    refine ⟨v, i3, h3, ev_s ?_, r⟩
    simp only [spec_l04DrawVector.j2, Bool.false_eq_true, if_false]; exact e3
  have j1 : ∀ (c : Nat) (i h : Int), c ≤ 8 → 0 ≤ i → ∃ v i' h', Ev (fun k => spec_l04DrawVector.j1 k f (c : Int) L i h) (v, i', h') ∧ v.length ≤ 4096 ∧ 0 ≤ i' := by
    intro c i h hc hi
    obtain ⟨x, i1, h1, e1, hi1, hx0, hx1⟩ := dr_Below L hL i h ((c : Int) + 2) hi
    have hx2 := hx1 (by omega)
    obtain ⟨n, rfl⟩ : ∃ n : Nat, x = n := ⟨x.toNat, by omega⟩
    by_cases ht : tp f ≥ 0
    · obtain ⟨t, ht2⟩ : ∃ t : Nat, tp f = t := ⟨(tp f).toNat, by omega⟩
      obtain ⟨v, i3, h3, e3, r⟩ := j2 n t (decide ((n : Int) > (t : Int))) i1 h1 (by omega) (fun c => by have := of_decide_eq_true c; omega) hi1
      refine ⟨v, i3, h3, ev_s ?_, r⟩
      simp only [spec_l04DrawVector.j1, w64 (x := (c : Int) + 2) (by omega) (by omega), e1, Option.bind_some]
      refine Ev.bind (ev_TwoPower f) ?_
      simp only [ht, if_true]
      rw [ht2]; exact e3
    · obtain ⟨v, i3, h3, e3, r⟩ := j2' n (tp f) i1 h1 (by omega) hi1
      refine ⟨v, i3, h3, ev_s ?_, r⟩
      simp only [spec_l04DrawVector.j1, w64 (x := (c : Int) + 2) (by omega) (by omega), e1, Option.bind_some]
      refine Ev.bind (ev_TwoPower f) ?_
      simp only [ht, if_false]; exact e3
  have l0 : ∀ (d c : Nat), c + d = 8 → ∃ v i' h', Ev (fun k => spec_l04DrawVector.l0 k f l2 (c : Int) L i h) (v, i', h') ∧ v.length ≤ 4096 ∧ 0 ≤ i' := by
    intro d
    induction d with
    | zero =>
      intro c hc
      obtain ⟨v, i3, h3, e3, r⟩ := j1 c i h (by omega) hi
      refine ⟨v, i3, h3, ev_s ?_, r⟩
      have g1 : ¬ ((c : Int) < 8) := by omega
      simp only [spec_l04DrawVector.l0, g1, if_false]; exact e3
    | succ d ih =>
      intro c hc
      have g1 : (c : Int) < 8 := by omega
      have g2 : (0 : Int) ≤ (c : Int) := by omega
      have hu : Go.IntKind.u64.wrap (c : Int) = (c : Int) := u64_id (by omega) (by omega)
      by_cases q : shl .i64 4 (c : Int) < (l2.length : Int)
      · obtain ⟨v, i3, h3, e3, r⟩ := ih (c + 1) (by omega)
        refine ⟨v, i3, h3, ev_s ?_, r⟩
        simp only [spec_l04DrawVector.l0, g1, g2, hu, q, if_true, w_succ (n := c) (by omega)]; exact e3
      · obtain ⟨v, i3, h3, e3, r⟩ := j1 c i h (by omega) hi
        refine ⟨v, i3, h3, ev_s ?_, r⟩
        simp only [spec_l04DrawVector.l0, g1, g2, hu, q, if_true, if_false]; exact e3
  unfold spec_l04DrawVector.f
  exact l0 8 0 (by omega)

theorem dr_l08Open (L : List Int) (hL : L.length ≤ 140737488351232) (i h : Int) (hi : 0 ≤ i) : ∃ f v i' h', Ev (fun k => spec_l08DrawOpen.f k L L i h) (f, v, i', h') ∧ v.length ≤ 4096 ∧ 0 ≤ i' := by
  obtain ⟨f, i2, h2, e2, hi2, _⟩ := dr_Field L hL i h hi
  obtain ⟨v, i3, h3, e3, hv, hi3⟩ := dr_Vector L L hL i2 h2 f hi2
  by_cases c1 : tp f > 0
  · have hf : 0 ≤ f ∧ f < 9 := by
      by_cases hf : 0 ≤ f ∧ f < 9
      · exact hf
      · have := tp_bad hf; omega
    have hb := (isF hf.1 hf.2).bounds
    have eu : Go.IntKind.u64.wrap (tp f) = tp f := u64_id (by omega) (by omega)
    have g0 : 0 ≤ tp f := by omega
    by_cases c2 : (v.length : Int) = shl .i64 1 (tp f)
    · obtain ⟨b, i4, h4, e4, hi4⟩ := dr_Once L hL i3 h3 4 hi3
      cases b with
      | true =>
        refine ⟨f, v, i4, h4, ?_, hv, hi4⟩
        unfold spec_l08DrawOpen.f
        refine Ev.bind (ev_c e2) ?_
        refine Ev.bind e3 ?_
        refine Ev.bind (ev_TwoPower f) ?_
        simp only [c1, eu, g0, c2, if_true]
        refine Ev.bind (ev_c e4) ?_
        simp only [if_true]; exact Ev.now _
      | false =>
        have ew : wrap64 ((v.length : Int) / 2) = (v.length : Int) / 2 := w64 (by omega) (by omega)
        have g1 : 0 ≤ (v.length : Int) / 2 := by omega
        have g2 : (v.length : Int) / 2 ≤ (v.length : Int) := by omega
        refine ⟨f, v.take ((v.length : Int) / 2).toNat, i4, h4, ?_, by rw [List.length_take]; omega, hi4⟩
        unfold spec_l08DrawOpen.f
        refine Ev.bind (ev_c e2) ?_
        refine Ev.bind e3 ?_
        refine Ev.bind (ev_TwoPower f) ?_
        simp only [c1, eu, g0, if_true]
        rw [if_pos c2]
        refine Ev.bind (ev_c e4) ?_
        simp only [Bool.false_eq_true, if_false, ew, g1, g2, if_true]; exact Ev.now _
    · refine ⟨f, v, i3, h3, ?_, hv, hi3⟩
      unfold spec_l08DrawOpen.f
      refine Ev.bind (ev_c e2) ?_
      refine Ev.bind e3 ?_
      refine Ev.bind (ev_TwoPower f) ?_
      simp only [c1, eu, g0, c2, if_true, if_false]; exact Ev.now _
  · refine ⟨f, v, i3, h3, ?_, hv, hi3⟩
    unfold spec_l08DrawOpen.f
    refine Ev.bind (ev_c e2) ?_
    refine Ev.bind e3 ?_
    refine Ev.bind (ev_TwoPower f) ?_
    simp only [c1, if_false]; exact Ev.now _

theorem dr_DrawTrace (L : List Int) (hL : L.length ≤ 140737488351232) : ∃ f v, Ev (fun k => spec_DrawTrace.f k L) (f, v) ∧ v.length ≤ 4096 := by
  obtain ⟨h, hn⟩ := dr_New L hL
  obtain ⟨f, v, i2, h2, e2, hv, _⟩ := dr_l08Open L hL 0 h (by omega)
  refine ⟨f, v, ?_, hv⟩
  have e : Ev (fun k => spec_DrawOddValues.f k L) (f, v) := by
    unfold spec_DrawOddValues.f
    refine Ev.bind hn ?_
    refine Ev.bind e2 ?_
    exact Ev.now _
  unfold spec_DrawTrace.f
  refine Ev.bind e ?_
  exact Ev.now _

theorem ev_LogOf (n : Int) : Ev (fun k => spec_LogOf.f k n) (lg n) := by
  have key : ∀ (d c : Nat), c + d = 10 → Ev (fun k => spec_LogOf.l0 k n (c : Int)) (lgA n d c) := by
    intro d
    induction d with
    | zero =>
      intro c hc
      refine ev_s ?_
      have h1 : ¬ ((c : Int) ≤ 9) := by omega
      simp only [spec_LogOf.l0, h1, if_false]; exact Ev.now _
    | succ d ih =>
      intro c hc
      refine ev_s ?_
      have h1 : (c : Int) ≤ 9 := by omega
      have h2 : (0 : Int) ≤ (c : Int) := by omega
      simp only [spec_LogOf.l0, h1, u64_id (x := (c : Int)) (by omega) (by omega), h2, if_true, shl1 (c := c) (by omega), w_succ (n := c) (by omega)]
      unfold lgA
      by_cases h : n = ((2 ^ c : Nat) : Int)
      · rw [if_pos h]; simp only [if_pos h]; exact Ev.now _
      · rw [if_neg h]; simp only [if_neg h]; exact ih (c + 1) (by omega)
  exact key 10 0 rfl

theorem ev_l01In (x a b : Int) : spec_l01In.f x a b = some (decide (a ≤ x) && decide (x ≤ b)) := by
  unfold spec_l01In.f
  by_cases h : a ≤ x
  · rw [if_pos h, decide_eq_true h, Bool.true_and]
  · rw [if_neg h, decide_eq_false h, Bool.false_and]

theorem ev_l03Elements {f : Int} (h : 0 ≤ f ∧ f < 9) (l : List Int) (hl : l.length ≤ 35184372088832) : Ev (fun k => spec_l03Elements.f k f l) (elB (md f) l) := by
  have hp := pm_of h
  unfold Pm at hp
  have key : ∀ (d i : Nat), i + d = l.length → Ev (fun k => spec_l03Elements.l0 k l (md f) (i : Int)) (elB (md f) (l.drop i)) := by
    intro d
    induction d with
    | zero =>
      intro i hi
      refine ev_s ?_
      have h1 : ¬ ((i : Int) < (l.length : Int)) := by omega
      simp only [spec_l03Elements.l0, h1, if_false]
      rw [List.drop_of_length_le (by omega)]
      exact Ev.now _
    | succ d ih =>
      intro i hi
      refine ev_s ?_
      have h1 : (i : Int) < (l.length : Int) := by omega
      have h2 : (0 : Int) ≤ (i : Int) := by omega
      simp only [spec_l03Elements.l0, h1, h2, if_true, w_succ (n := i) (by omega), w64 (x := md f - 1) (by omega) (by omega), ev_l01In, Option.bind_some]
      rw [elB_drop (by omega)]
      rw [show decide (rd l (i : Int) < md f) = decide (rd l (i : Int) ≤ md f - 1) from decide_eq_decide.2 (by omega)]
      by_cases c : (decide (0 ≤ rd l (i : Int)) && decide (rd l (i : Int) ≤ md f - 1)) = true
      · simp only [c, if_true, Bool.true_and]
        exact ih (i + 1) (by omega)
      · simp only [Bool.not_eq_true] at c
        simp only [c, Bool.false_and, Bool.false_eq_true, if_false]
        exact Ev.now _
  unfold spec_l03Elements.f
  simp only [ev_Modulus, Option.bind_some]
  have h0 : ¬ (md f = 0) := by omega
  simp only [h0, if_false]
  exact key l.length 0 (by omega)
theorem ev_l03Elements_bad {f : Int} (h : ¬ (0 ≤ f ∧ f < 9)) (l : List Int) : Ev (fun k => spec_l03Elements.f k f l) false := by
  unfold spec_l03Elements.f
  simp only [ev_Modulus, Option.bind_some, md_bad h, if_true]
  exact Ev.now _

theorem ev_VectorOk {f : Int} {v : List Int} (h : VecOk f v) : Ev (fun k => spec_VectorOk.f k f v) true := by
  have hl := h.lg
  have hn := h.len
  unfold spec_VectorOk.f
  refine Ev.bind (ev_LogOf _) ?_
  have h1 : lg (v.length : Int) ≥ 0 := hl.1
  simp only [h1, if_true]
  refine Ev.bind (ev_TwoPower f) ?_
  simp only [hl.2, if_true]
  refine Ev.bind (ev_l03Elements h.1 v (by omega)) ?_
  rw [elB_iff.2 h.2.2]; exact Ev.now _
theorem ev_VectorOk_bad {f : Int} {v : List Int} (h : ¬ VecOk f v) : Ev (fun k => spec_VectorOk.f k f v) false := by
  unfold spec_VectorOk.f
  refine Ev.bind (ev_LogOf _) ?_
  by_cases h1 : lg (v.length : Int) ≥ 0
  · simp only [h1, if_true]
    refine Ev.bind (ev_TwoPower f) ?_
    have hn : v.length ≤ 512 := by
      rcases lg_cases (v.length : Int) with ⟨e, _⟩ | ⟨k, hk, _, e⟩
      · omega
      · have := two_pow_le hk; omega
    by_cases h2 : lg (v.length : Int) ≤ tp f
    · simp only [h2, if_true]
      by_cases hf : 0 ≤ f ∧ f < 9
      · refine Ev.bind (ev_l03Elements hf v (by omega)) ?_
        have he : elB (md f) v = false := by
          rw [← Bool.not_eq_true, elB_iff]
          intro he
          exact h (vec_of hf h1 h2 he)
        rw [he]; exact Ev.now _
      · refine Ev.bind (ev_l03Elements_bad hf v) ?_
        exact Ev.now _
    · simp only [h2, if_false]; exact Ev.now _
  · simp only [h1, if_false]; exact Ev.now _

theorem ev_cp (l : List Int) (hl : l.length ≤ 1048576) : Ev (fun k => laws_cp.f k l) l := by
  have key : ∀ (d i : Nat), i + d = l.length → Ev (fun k => laws_cp.l0 k l (l.take i) (i : Int)) l := by
    intro d
    induction d with
    | zero =>
      intro i hi
      refine ev_s ?_
      have g1 : ¬ ((i : Int) < (l.length : Int)) := by omega
      simp only [laws_cp.l0, g1, if_false]
      rw [List.take_of_length_le (by omega)]; exact Ev.now _
    | succ d ih =>
      intro i hi
      refine ev_s ?_
      have g1 : (i : Int) < (l.length : Int) := by omega
      have g2 : (0 : Int) ≤ (i : Int) := by omega
      have g3 : (l.take i).length < 17592186044416 := by rw [List.length_take]; omega
      simp only [laws_cp.l0, g1, g2, g3, if_true, w_succ (n := i) (by omega)]
      rw [rd_at (show i < l.length by omega), List.take_append_getElem (show i < l.length by omega)]
      exact ih (i + 1) (by omega)
  exact key l.length 0 (by omega)

theorem ev_same (l : List Int) (hl : l.length ≤ 1048576) : Ev (fun k => laws_same.f k l l) true := by
  have key : ∀ (d i : Nat), i + d = l.length → Ev (fun k => laws_same.l0 k l l (i : Int)) true := by
    intro d
    induction d with
    | zero =>
      intro i hi
      refine ev_s ?_
      have h1 : ¬ ((i : Int) < (l.length : Int)) := by omega
      simp only [laws_same.l0, h1, if_false]
      exact Ev.now _
    | succ d ih =>
      intro i hi
      refine ev_s ?_
      have h1 : (i : Int) < (l.length : Int) := by omega
      have h2 : (0 : Int) ≤ (i : Int) := by omega
      simp only [laws_same.l0, h1, h2, if_true, w_succ (n := i) (by omega)]
      exact ih (i + 1) (by omega)
  unfold laws_same.f
  simp only [if_true]
  exact key l.length 0 (by omega)

theorem ev_sub {p : Int} (hp : Pm p) (g t : Int) {a b : Int} (ha : 0 ≤ a ∧ a < p) (hb : 0 ≤ b ∧ b < p) : impl_field_sub.f p g t a b = some ((a - b) % p) := by
  unfold Pm at hp
  unfold impl_field_sub.f
  rw [if_neg (by omega), w64 (x := a - b) (by omega) (by omega), w64 (by omega) (by omega), tmod_nn (by omega), Int.add_emod_right]

theorem ev_automorph {p : Int} (hp : Pm p) (g t : Int) {a : List Int} {k : Nat} (hk : k ≤ 9) (hl : a.length = 2 ^ k) (he : El p a) {q : Int} (hq : q % 2 = 1) : Ev (fun k => impl_field_automorph.f k p g t a q) (autS p (q % (2 * (a.length : Int))).toNat a) := by
  have h2 := two_pow_le hk
  have hw : wrap64 (2 * (a.length : Int)) = 2 * (a.length : Int) := w64 (by omega) (by omega)
  have hqm := em_lt (a := q) (p := 2 * (a.length : Int)) (by omega)
  obtain ⟨G, hG⟩ : ∃ G : Nat, G = (q % (2 * (a.length : Int))).toNat := ⟨_, rfl⟩
  have hG2 : q % (2 * (a.length : Int)) = (G : Int) := by omega
  have hGl : G < 2 * a.length := by omega
  have hGo : G % 2 = 1 := by
    have : q % (2 * (a.length : Int)) % 2 = q % 2 := Int.emod_emod_of_dvd q ⟨(a.length : Int), rfl⟩
    omega
  have hgh : (G * hv a.length G) % (2 * a.length) = 1 := by rw [hl]; exact hv_mul hGo
  rw [← hG]
  have key : ∀ (d i : Nat) (out : List Int), i + d = a.length → auI p a G i out → Ev (fun k => impl_field_automorph.l0 k (G : Int) (a.length : Int) out a (a.length : Int) (i : Int) p g t) (autS p G a) := by
    intro d
    induction d with
    | zero =>
      intro i out hi ho
      refine ev_s ?_
      have g1 : ¬ ((i : Int) < (a.length : Int)) := by omega
      simp only [impl_field_automorph.l0, g1, if_false]
      rw [show i = a.length by omega] at ho
      rw [auI_end hl hGo ho]; exact Ev.now _
    | succ d ih =>
      intro i out hi ho
      have hol := ho.1
      have hil : i < a.length := by omega
      have hpos := pos_lt (n := a.length) (by omega) G i
      have hval := pos_val (a := a) hil hgh
      have hai := he.rd hp.pos (i : Int)
      refine ev_s ?_
      have g1 : (i : Int) < (a.length : Int) := by omega
      have g2 : (0 : Int) ≤ (i : Int) := by omega
      have g3 : ¬ (2 * (a.length : Int) = 0) := by omega
      have hig : 0 ≤ (i : Int) * (G : Int) ∧ (i : Int) * (G : Int) ≤ 1048576 := by
        have h3 : (i : Int) * (G : Int) ≤ 512 * 1024 := Int.mul_le_mul (by omega) (by omega) (by omega) (by omega)
        exact ⟨Int.mul_nonneg (by omega) (by omega), by omega⟩
      have em : Int.tmod (wrap64 ((i : Int) * (G : Int))) (2 * (a.length : Int)) = ((i * G % (2 * a.length) : Nat) : Int) := by
        rw [w64 (by omega) (by omega), tmod_nn hig.1, Int.natCast_emod, Int.natCast_mul, Int.natCast_mul]; rfl
      have hmm := Nat.mod_lt (i * G) (show 0 < 2 * a.length by omega)
      by_cases c : i * G % (2 * a.length) < a.length
      · have c1 : ((i * G % (2 * a.length) : Nat) : Int) < (a.length : Int) := by omega
        have c2 : (0 : Int) ≤ ((i * G % (2 * a.length) : Nat) : Int) := by omega
        have c3 : ((i * G % (2 * a.length) : Nat) : Int) < (out.length : Int) := by omega
        simp only [impl_field_automorph.l0, g1, g2, hw, g3, em, c1, c2, c3, if_true, if_false, w_succ (n := i) (by omega), Int.toNat_natCast]
        have hs := ih (i + 1) _ (by omega) (auI_step (v := rd a (i : Int)) ho hil (by rw [hval.1 c, em_id hai.1 hai.2]))
        have ep : pos a.length G i = i * G % (2 * a.length) := by unfold pos; rw [if_pos c]
        rw [ep] at hs
        exact hs
      · have c1 : ¬ (((i * G % (2 * a.length) : Nat) : Int) < (a.length : Int)) := by omega
        have ew : wrap64 (((i * G % (2 * a.length) : Nat) : Int) - (a.length : Int)) = ((i * G % (2 * a.length) - a.length : Nat) : Int) := by
          rw [w64 (by omega) (by omega)]; omega
        have c2 : (0 : Int) ≤ ((i * G % (2 * a.length) - a.length : Nat) : Int) := by omega
        have c3 : ((i * G % (2 * a.length) - a.length : Nat) : Int) < (out.length : Int) := by omega
        have hpp := hp.pos
        simp only [impl_field_automorph.l0, g1, g2, hw, g3, em, c1, if_true, if_false, ev_sub hp g t (a := 0) (by omega) hai, Option.bind_some, ew, c2, c3, w_succ (n := i) (by omega), Int.toNat_natCast]
        have hs := ih (i + 1) _ (by omega) (auI_step (v := (0 - rd a (i : Int)) % p) ho hil (by rw [hval.2 c, Int.zero_sub]))
        have ep : pos a.length G i = i * G % (2 * a.length) - a.length := by unfold pos; rw [if_neg c]
        rw [ep] at hs
        exact hs
  unfold impl_field_automorph.f
  have g1 : ¬ (2 * (a.length : Int) = 0) := by omega
  have g2 : (0 : Int) ≤ (a.length : Int) := by omega
  have hb := tmod_bounds (a := q) (p := 2 * (a.length : Int)) (by omega)
  have hb2 := tmod_add_emod (a := q) (p := 2 * (a.length : Int)) (by omega)
  simp only [hw, g1, g2, if_true, if_false, Int.toNat_natCast, show a.length ≤ 35184372088832 from by omega]
  rw [w64 (x := Int.tmod q (2 * (a.length : Int)) + 2 * (a.length : Int)) (by omega) (by omega), tmod_nn (a := Int.tmod q (2 * (a.length : Int)) + 2 * (a.length : Int)) (by omega), hb2, hG2]
  exact key a.length 0 _ (by omega) (auI_zero (by simp))
theorem tmod_two (q : Int) : Int.tmod q 2 = 0 ↔ q % 2 = 0 := by
  constructor
  · intro h; exact Int.emod_eq_zero_of_dvd (Int.dvd_of_tmod_eq_zero h)
  · intro h; exact Int.tmod_eq_zero_of_dvd (Int.dvd_of_emod_eq_zero h)

theorem ev_add {p : Int} (hp : Pm p) (g t : Int) {a b : Int} (ha : 0 ≤ a ∧ a < p) (hb : 0 ≤ b ∧ b < p) : impl_field_add.f p g t a b = some ((a + b) % p) := by
  unfold Pm at hp
  unfold impl_field_add.f
  rw [if_neg (by omega), w64 (by omega) (by omega), tmod_nn (by omega)]

theorem ev_fieldOf {f : Int} (h : 0 ≤ f ∧ f < 9) : impl_fieldOf.f f = some (md f, gn f, tp f, true) := by
  rcases fcases h.1 h.2 with e | e | e | e | e | e | e | e | e <;> subst e <;> rfl
theorem ev_fieldOf_bad {f : Int} (h : ¬ (0 ≤ f ∧ f < 9)) : impl_fieldOf.f f = some (0, 0, 0, false) := by
  unfold impl_fieldOf.f
  by_cases c : f < 0
  · rw [if_pos c]
  · rw [if_neg c, if_pos (by omega)]

theorem ev_logOf (n : Int) : Ev (fun k => impl_logOf.f k n) (lg n) := by
  have key : ∀ (d c : Nat), c + d = 10 → Ev (fun k => impl_logOf.l0 k n (c : Int)) (lgA n d c) := by
    intro d
    induction d with
    | zero =>
      intro c hc
      refine ev_s ?_
      have h1 : ¬ ((c : Int) < 10) := by omega
      simp only [impl_logOf.l0, h1, if_false]; exact Ev.now _
    | succ d ih =>
      intro c hc
      refine ev_s ?_
      have h1 : (c : Int) < 10 := by omega
      have h2 : (0 : Int) ≤ (c : Int) := by omega
      simp only [impl_logOf.l0, h1, h2, if_true, shl1 (c := c) (by omega), w_succ (n := c) (by omega)]
      unfold lgA
      by_cases h : n = ((2 ^ c : Nat) : Int)
      · rw [if_pos h]; simp only [if_pos h]; exact Ev.now _
      · rw [if_neg h]; simp only [if_neg h]; exact ih (c + 1) (by omega)
  exact key 10 0 rfl

theorem ev_areElements (p g t : Int) (l : List Int) (hl : l.length ≤ 35184372088832) : Ev (fun k => impl_field_areElements.f k p g t l) (elB p l) := by
  have key : ∀ (d i : Nat), i + d = l.length → Ev (fun k => impl_field_areElements.l0 k l (l.length : Int) (i : Int) p g t) (elB p (l.drop i)) := by
    intro d
    induction d with
    | zero =>
      intro i hi
      refine ev_s ?_
      have h1 : ¬ ((i : Int) < (l.length : Int)) := by omega
      simp only [impl_field_areElements.l0, h1, if_false]
      rw [List.drop_of_length_le (by omega)]
      exact Ev.now _
    | succ d ih =>
      intro i hi
      refine ev_s ?_
      have h1 : (i : Int) < (l.length : Int) := by omega
      have h2 : (0 : Int) ≤ (i : Int) := by omega
      simp only [impl_field_areElements.l0, h1, h2, if_true, w_succ (n := i) (by omega)]
      rw [elB_drop (by omega)]
      by_cases c1 : rd l (i : Int) < 0
      · simp only [c1, if_true, show decide (0 ≤ rd l (i : Int)) = false from decide_eq_false (by omega), Bool.false_and]
        exact Ev.now _
      · by_cases c2 : rd l (i : Int) ≥ p
        · simp only [c1, c2, if_true, if_false, show decide (rd l (i : Int) < p) = false from decide_eq_false (by omega), Bool.false_and, Bool.and_false]
          exact Ev.now _
        · simp only [c1, c2, if_false, show decide (0 ≤ rd l (i : Int)) = true from decide_eq_true (by omega), show decide (rd l (i : Int) < p) = true from decide_eq_true (by omega), Bool.true_and]
          exact ih (i + 1) (by omega)
  exact key l.length 0 (by omega)

theorem ev_vectorField1 {f : Int} {a : List Int} (h : VecOk f a) : Ev (fun k => impl_vectorField.f k f [a]) (md f, gn f, tp f, true) := by
  have hlg := h.lg
  have hn := h.len
  obtain ⟨hf, _, he⟩ := h
  unfold impl_vectorField.f
  have hl : (([a] : List (List Int)).length : Int) = 1 := rfl
  have hr : rd_L2 [a] 0 = a := rfl
  have n1 : ¬ (lg (a.length : Int) < 0) := by omega
  have n2 : ¬ (lg (a.length : Int) > tp f) := by omega
  simp only [ev_fieldOf hf, Option.bind_some, if_true, hl]
  refine ev_s ?_
  simp only [impl_vectorField.l0, hl, hr, show (0 : Int) < 1 from by decide, show (0 : Int) ≤ 0 from by decide, if_true]
  refine Ev.bind (ev_logOf _) ?_
  simp only [n1, n2, if_false]
  refine Ev.bind (ev_areElements _ _ _ a (by omega)) ?_
  simp only [elB_iff.2 he, if_true, w64 (x := 0 + 1) (by decide) (by decide)]
  refine ev_s ?_
  simp only [impl_vectorField.l0, hl, show ¬ ((0 : Int) + 1 < 1) from by decide, if_false]
  exact Ev.now _
theorem lg_small {n : Nat} (h : 0 ≤ lg (n : Int)) : n ≤ 512 := by
  rcases lg_cases (n : Int) with ⟨e, _⟩ | ⟨k, hk, _, e⟩
  · omega
  · have := two_pow_le hk; omega
theorem ev_vectorField1_bad {f : Int} {a : List Int} (h : ¬ VecOk f a) : Ev (fun k => impl_vectorField.f k f [a]) (0, 0, 0, false) := by
  unfold impl_vectorField.f
  by_cases hf : 0 ≤ f ∧ f < 9
  · have hl : (([a] : List (List Int)).length : Int) = 1 := rfl
    have hr : rd_L2 [a] 0 = a := rfl
    simp only [ev_fieldOf hf, Option.bind_some, if_true, hl]
    refine ev_s ?_
    simp only [impl_vectorField.l0, hl, hr, show (0 : Int) < 1 from by decide, show (0 : Int) ≤ 0 from by decide, if_true]
    refine Ev.bind (ev_logOf _) ?_
    by_cases n1 : lg (a.length : Int) < 0
    · simp only [n1, if_true]; exact Ev.now _
    by_cases n2 : lg (a.length : Int) > tp f
    · simp only [n1, n2, if_true, if_false]; exact Ev.now _
    simp only [n1, n2, if_false]
    have hs := lg_small (n := a.length) (by omega)
    refine Ev.bind (ev_areElements _ _ _ a (by omega)) ?_
    have he : elB (md f) a = false := by
      rw [← Bool.not_eq_true, elB_iff]
      intro he
      exact h (vec_of hf (by omega) (by omega) he)
    simp only [he, Bool.false_eq_true, if_false]
    exact Ev.now _
  · simp only [ev_fieldOf_bad hf, Option.bind_some, Bool.false_eq_true, if_false]
    exact Ev.now _

/-- The sum of the images by the first t odd powers. -/
def trS (p : Int) (t : Nat) (a : List Int) : List Int := (List.range a.length).map (fun c => sm t (fun i => sg a a.length (c * hv a.length (2 * i + 1))) % p)
theorem trS_len (p : Int) (t : Nat) (a : List Int) : (trS p t a).length = a.length := by simp [trS]
theorem trS_rd {p : Int} {t : Nat} {a : List Int} {c : Nat} (h : c < a.length) : rd (trS p t a) (c : Int) = sm t (fun i => sg a a.length (c * hv a.length (2 * i + 1))) % p := by unfold trS; rw [rd_map _ h]
theorem ev_iTrace {f : Int} {a : List Int} (h : VecOk f a) : Ev (fun k => impl_Trace.f k f a) (trS (md f) a.length a) := by
  obtain ⟨kk, hk, _, hl⟩ := h.2.1
  have hp := h.pm
  have hpp := hp.pos
  have h2 := two_pow_le hk
  have hw : wrap64 (2 * (a.length : Int)) = 2 * (a.length : Int) := w64 (by omega) (by omega)
  have inner : ∀ (t : Nat) (r : List Int), t < a.length → Ev (fun k => impl_Trace.l0 k a (trS (md f) (t + 1) a) ((2 * (t + 1) + 1 : Nat) : Int) (md f) (gn f) (tp f)) r → ∀ (d j : Nat) (out : List Int), j + d = a.length → out.length = a.length →
      (∀ c : Nat, c < j → rd out (c : Int) = rd (trS (md f) (t + 1) a) (c : Int)) → (∀ c : Nat, j ≤ c → c < a.length → rd out (c : Int) = rd (trS (md f) t a) (c : Int)) →
      Ev (fun k => impl_Trace.l1 k a out ((2 * t + 1 : Nat) : Int) (autS (md f) (2 * t + 1) a) ((autS (md f) (2 * t + 1) a).length : Int) (j : Int) (md f) (gn f) (tp f)) r := by
    intro t r ht hr d
    induction d with
    | zero =>
      intro j out hj ho h1 h3
      refine ev_s ?_
      have g1 : ¬ ((j : Int) < ((autS (md f) (2 * t + 1) a).length : Int)) := by rw [autS_len]; omega
      simp only [impl_Trace.l1, g1, if_false]
      rw [show wrap64 (((2 * t + 1 : Nat) : Int) + 2) = ((2 * (t + 1) + 1 : Nat) : Int) by rw [w64 (by omega) (by omega)]; omega]
      have e : out = trS (md f) (t + 1) a := ext_rd (by rw [trS_len, ho]) (fun c hc => h1 c (by omega))
      rw [e]; exact hr
    | succ d ih =>
      intro j out hj ho h1 h3
      refine ev_s ?_
      have g1 : (j : Int) < ((autS (md f) (2 * t + 1) a).length : Int) := by rw [autS_len]; omega
      have g2 : (0 : Int) ≤ (j : Int) := by omega
      have g3 : (j : Int) < (out.length : Int) := by omega
      have e1 := h3 j (Nat.le_refl _) (by omega)
      rw [trS_rd (by omega)] at e1
      have b1 : 0 ≤ rd out (j : Int) ∧ rd out (j : Int) < md f := by rw [e1]; exact em_lt hpp
      have b2 := (autS_el hpp (2 * t + 1) a).rd hpp (j : Int)
      simp only [impl_Trace.l1, g1, g2, g3, if_true, ev_add hp _ _ b1 b2, Option.bind_some, w_succ (n := j) (by omega), Int.toNat_natCast]
      refine ih (j + 1) _ (by omega) (by rw [List.length_set]; exact ho) (fun c hc => ?_) (fun c hc hc2 => ?_)
      · by_cases q : j = c
        · subst q
          rw [rd_set_eq (by omega), e1, autS_rd (by omega), trS_rd (by omega), sm_succ, eadd_l, eadd_r]
        · rw [rd_set_ne q]; exact h1 c (by omega)
      · rw [rd_set_ne (by omega)]; exact h3 c (by omega) hc2
  have outer : ∀ (d t : Nat), t + d = a.length → Ev (fun k => impl_Trace.l0 k a (trS (md f) t a) ((2 * t + 1 : Nat) : Int) (md f) (gn f) (tp f)) (trS (md f) a.length a) := by
    intro d
    induction d with
    | zero =>
      intro t ht
      refine ev_s ?_
      have g1 : ¬ (((2 * t + 1 : Nat) : Int) < 2 * (a.length : Int)) := by omega
      simp only [impl_Trace.l0, hw, g1, if_false]
      rw [show t = a.length by omega]; exact Ev.now _
    | succ d ih =>
      intro t ht
      refine ev_s ?_
      have g1 : ((2 * t + 1 : Nat) : Int) < 2 * (a.length : Int) := by omega
      simp only [impl_Trace.l0, hw, g1, if_true]
      have ha := ev_automorph hp (gn f) (tp f) hk hl h.2.2 (q := ((2 * t + 1 : Nat) : Int)) (by omega)
      rw [show (((2 * t + 1 : Nat) : Int) % (2 * (a.length : Int))).toNat = 2 * t + 1 by rw [em_id (by omega) (by omega), Int.toNat_natCast]] at ha
      refine Ev.bind ha ?_
      exact inner t _ (by omega) (ih (t + 1) (by omega)) a.length 0 _ (by omega) (trS_len _ _ _) (fun c hc => by omega) (fun c _ hc => rfl)
  unfold impl_Trace.f
  refine Ev.bind (ev_vectorField1 h) ?_
  have g2 : (0 : Int) ≤ (a.length : Int) := by omega
  simp only [if_true, g2, Int.toNat_natCast, show a.length ≤ 35184372088832 from by omega]
  have e0 : List.replicate a.length 0 = trS (md f) 0 a := ext_rd (by rw [trS_len]; simp) (fun c hc => by
    rw [List.length_replicate] at hc
    rw [trS_rd hc, sm_zero, Int.zero_emod, rd_rep])
  rw [e0]
  exact outer a.length 0 (by omega)
theorem ev_iTrace_bad {f : Int} {a : List Int} (h : ¬ VecOk f a) : Ev (fun k => impl_Trace.f k f a) [] := by
  unfold impl_Trace.f
  refine Ev.bind (ev_vectorField1_bad h) ?_
  simp only [Bool.false_eq_true, if_false]; exact Ev.now _

theorem ev_iAutomorph {f : Int} {a : List Int} (h : VecOk f a) {q : Int} (hq : q % 2 = 1) : Ev (fun k => impl_Automorph.f k f a q) (autS (md f) (q % (2 * (a.length : Int))).toNat a) := by
  obtain ⟨k, hk, _, hl⟩ := h.2.1
  unfold impl_Automorph.f
  refine Ev.bind (ev_vectorField1 h) ?_
  have g1 : ¬ (Int.tmod q 2 = 0) := by rw [tmod_two]; omega
  simp only [if_true, g1, if_false]
  refine Ev.bind (ev_automorph h.pm _ _ hk hl h.2.2 hq) ?_
  exact Ev.now _
theorem ev_iAutomorph_bad {f : Int} {a : List Int} {q : Int} (h : ¬ (VecOk f a ∧ q % 2 = 1)) : Ev (fun k => impl_Automorph.f k f a q) [] := by
  unfold impl_Automorph.f
  by_cases hv : VecOk f a
  · refine Ev.bind (ev_vectorField1 hv) ?_
    have g1 : Int.tmod q 2 = 0 := by
      rw [tmod_two]
      by_cases c : q % 2 = 1
      · exact absurd ⟨hv, c⟩ h
      · omega
    simp only [if_true, g1]; exact Ev.now _
  · refine Ev.bind (ev_vectorField1_bad hv) ?_
    simp only [Bool.false_eq_true, if_false]; exact Ev.now _

theorem ev_Reduce {f : Int} (h : 0 ≤ f ∧ f < 9) (x : Int) : spec_Reduce.f f x = some (x % md f) := by
  have hp := pm_of h
  unfold Pm at hp
  unfold spec_Reduce.f
  rw [ev_Modulus]
  simp only [Option.bind_some]
  rw [if_neg (by omega)]
  have hb := tmod_bounds (a := x) (p := md f) (by omega)
  rw [w64 (by omega) (by omega), ← tmod_fix (a := x) (p := md f) (by omega)]
  by_cases c : Int.tmod x (md f) < 0
  · rw [if_pos c, if_pos c]
  · rw [if_neg c, if_neg c]
theorem ev_Reduce_bad {f : Int} (h : ¬ (0 ≤ f ∧ f < 9)) (x : Int) : spec_Reduce.f f x = some (-1) := by
  unfold spec_Reduce.f
  rw [ev_Modulus]
  simp only [Option.bind_some]
  rw [if_pos (md_bad h)]

theorem ev_Add {f : Int} (h : 0 ≤ f ∧ f < 9) (x y : Int) : spec_Add.f f x y = some ((x + y) % md f) := by
  have hp := pm_of h
  unfold Pm at hp
  have hx := em_lt (a := x) (p := md f) (by omega)
  have hy := em_lt (a := y) (p := md f) (by omega)
  unfold spec_Add.f
  rw [ev_Modulus]
  simp only [Option.bind_some, ev_Reduce h]
  rw [if_neg (by omega), w64 (by omega) (by omega), eadd_l, eadd_r]

theorem tr_run {f : Int} {a : List Int} (h : VecOk f a) : Ev (fun k => laws_FnTrace.l1 k f a (List.replicate a.length 0) 1) true := by
  have hn := h.len
  have hp := h.pm
  have hpp := hp.pos
  have hcp : a.length ≤ 1048576 := by omega
  have hw : ∀ _ : Unit, wrap64 (2 * (a.length : Int)) = 2 * (a.length : Int) := fun _ => w64 (by omega) (by omega)
  have inner : ∀ (t : Nat), t < a.length → Ev (fun k => laws_FnTrace.l1 k f a (trS (md f) (t + 1) a) ((2 * (t + 1) + 1 : Nat) : Int)) true → ∀ (d j : Nat) (out : List Int), j + d = a.length → out.length = a.length →
      (∀ c : Nat, c < j → rd out (c : Int) = rd (trS (md f) (t + 1) a) (c : Int)) → (∀ c : Nat, j ≤ c → c < a.length → rd out (c : Int) = rd (trS (md f) t a) (c : Int)) →
      Ev (fun k => laws_FnTrace.l2 k f a out ((2 * t + 1 : Nat) : Int) (autS (md f) (2 * t + 1) a) (j : Int)) true := by
    intro t ht hr d
    induction d with
    | zero =>
      intro j out hj ho h1 h3
      refine ev_s ?_
      have g1 : ¬ ((j : Int) < (a.length : Int)) := by omega
      simp only [laws_FnTrace.l2, g1, if_false]
      rw [show wrap64 (((2 * t + 1 : Nat) : Int) + 2) = ((2 * (t + 1) + 1 : Nat) : Int) by rw [w64 (by omega) (by omega)]; omega]
      have e : out = trS (md f) (t + 1) a := ext_rd (by rw [trS_len, ho]) (fun c hc => h1 c (by omega))
      rw [e]; exact hr
    | succ d ih =>
      intro j out hj ho h1 h3
      refine ev_s ?_
      have g1 : (j : Int) < (a.length : Int) := by omega
      have g2 : (0 : Int) ≤ (j : Int) := by omega
      have g3 : (j : Int) < (out.length : Int) := by omega
      have g4 : (j : Int) < ((autS (md f) (2 * t + 1) a).length : Int) := by rw [autS_len]; exact g1
      have e1 := h3 j (Nat.le_refl _) (by omega)
      have hj2 : j < a.length := Int.ofNat_lt.1 g1
      rw [trS_rd hj2] at e1
      simp only [laws_FnTrace.l2, g1, g2, g3, g4, if_true, ev_Add h.1, Option.bind_some, w_succ (n := j) (Nat.lt_of_lt_of_le hj2 (Nat.le_trans hcp (by decide))), Int.toNat_natCast]
      refine ih (j + 1) _ (by omega) (by rw [List.length_set]; exact ho) (fun c hc => ?_) (fun c hc hc2 => ?_)
      · by_cases q : j = c
        · subst q
          rw [rd_set_eq (by omega), e1, autS_rd hj2, trS_rd hj2, sm_succ, eadd_l, eadd_r]
        · rw [rd_set_ne q]; exact h1 c (by omega)
      · rw [rd_set_ne (by omega)]; exact h3 c (by omega) hc2
  have outer : ∀ (d t : Nat), t + d = a.length → Ev (fun k => laws_FnTrace.l1 k f a (trS (md f) t a) ((2 * t + 1 : Nat) : Int)) true := by
    intro d
    induction d with
    | zero =>
      intro t ht
      refine ev_s ?_
      have g1 : ¬ (((2 * t + 1 : Nat) : Int) < 2 * (a.length : Int)) := by omega
      simp only [laws_FnTrace.l1, hw (), g1, if_false]
      refine Ev.bind (ev_cp a hcp) ?_
      refine Ev.bind (ev_iTrace h) ?_
      rw [show t = a.length by omega]
      refine Ev.bind (ev_same _ (by rw [trS_len]; exact hcp)) ?_
      exact Ev.now _
    | succ d ih =>
      intro t ht
      refine ev_s ?_
      have g1 : ((2 * t + 1 : Nat) : Int) < 2 * (a.length : Int) := by omega
      have g5 : t < a.length := by omega
      have ha := ev_iAutomorph h (q := ((2 * t + 1 : Nat) : Int)) (by omega)
      rw [show (((2 * t + 1 : Nat) : Int) % (2 * (a.length : Int))).toNat = 2 * t + 1 by rw [em_id (by omega) (by omega), Int.toNat_natCast]] at ha
      have g6 : ((autS (md f) (2 * t + 1) a).length : Int) = (a.length : Int) := by rw [autS_len]
      simp only [laws_FnTrace.l1, hw (), g1, if_true]
      refine Ev.bind (ev_cp a hcp) ?_
      refine Ev.bind ha ?_
      simp only [g6, if_true]
      exact inner t g5 (ih (t + 1) (by omega)) a.length 0 _ (Nat.zero_add _) (trS_len _ _ _) (fun c hc => absurd hc (Nat.not_lt_zero _)) (fun c _ hc => rfl)
  have e0 : List.replicate a.length 0 = trS (md f) 0 a := ext_rd (by rw [trS_len]; simp) (fun c hc => by
    rw [List.length_replicate] at hc
    rw [trS_rd hc, sm_zero, Int.zero_emod, rd_rep])
  rw [e0]
  exact outer a.length 0 (Nat.zero_add _)
theorem FnTrace : laws_FnTrace.Pure := by
  intro L hm h8 hw
  refine Ev.rounds ?_
  unfold laws_FnTrace.f laws_big.f
  simp only [Option.bind_some]
  by_cases hbig : (L.length : Int) > 1048576
  · simp only [decide_eq_true hbig, if_true]; exact Ev.now _
  simp only [decide_eq_false hbig, Bool.false_eq_true, if_false]
  obtain ⟨f, v, hd, hvl⟩ := dr_DrawTrace L (by omega)
  have out : Ev (fun k => laws_FnTrace.j0 k f v true) true := by
    refine ev_s ?_
    simp only [laws_FnTrace.j0, if_true]; exact Ev.now _
  refine Ev.bind hd ?_
  by_cases h : VecOk f v
  · refine Ev.bind (ev_VectorOk h) ?_
    simp only [if_true]
    by_cases c : (v.length : Int) > 64
    · simp only [decide_eq_true c]; exact out
    simp only [decide_eq_false c]
    refine ev_s ?_
    simp only [laws_FnTrace.j0, Bool.false_eq_true, if_false]
    have key : ∀ (d i : Nat), i + d = v.length → Ev (fun k => laws_FnTrace.l0 k f v (List.replicate i 0) (i : Int)) true := by
      intro d
      induction d with
      | zero =>
        intro i hi
        refine ev_s ?_
        have g1 : ¬ ((i : Int) < (v.length : Int)) := by omega
        simp only [laws_FnTrace.l0, g1, if_false]
        rw [show i = v.length by omega]
        exact tr_run h
      | succ d ih =>
        intro i hi
        refine ev_s ?_
        have g1 : (i : Int) < (v.length : Int) := by omega
        have g2 : (List.replicate i (0 : Int)).length < 17592186044416 := by rw [List.length_replicate]; omega
        simp only [laws_FnTrace.l0, g1, g2, if_true, w_succ (n := i) (by omega)]
        have := ih (i + 1) (by omega)
        rw [List.replicate_succ'] at this
        exact this
    exact key v.length 0 (Nat.zero_add _)
  · refine Ev.bind (ev_VectorOk_bad h) ?_
    simp only [Bool.false_eq_true, if_false]; exact out

end Go.Proofs.Ytgjogfohknjpmaa.Pure
