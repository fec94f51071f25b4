/- FnRotate returns true for every input: the transform of a rotated vector is the transform times powers of the root. -/
import Derived.Test.YtfjoaloakfjgaaaPFnRotatex7
import Derived.Test.YtfjoaloakfjgaaaGB
import Derived.Test.YtfjoaloakfjgaaaGN
set_option linter.unusedVariables false
set_option linter.unusedSimpArgs false
namespace Go.Proofs.Ytfjoaloakfjgaaa.Pure
open Go.RowKit Go.Proofs.Ytfjoaloakfjgaaa.PFnRotate Go.Proofs.YtfjoaloakfjgaaaW.PrintWords Go.Proofs.YtfjoaloakfjgaaaW.PrintLast Go.Proofs.YtfjoaloakfjgaaaW.PrintMore G7
theorem dr_New (L : List Int) (hL : L.length ≤ 140737488351232) : ∃ h, Ev (fun k => spec_l01New.f k L) (L, 0, h) := by
  have key : ∀ (d i : Nat) (x : Int), i + d = 4000 → ∃ h, Ev (fun k => spec_l01New.l0 k L x (i : Int)) (L, 0, h) := by
    intro d
    induction d with
    | zero =>
      intro i x hi
      refine ⟨x, ev_s ?_⟩
      have h2 : ¬ ((i : Int) < 4000) := by omega
      by_cases h1 : (i : Int) < (L.length : Int)
      · simp only [spec_l01New.l0, h1, h2, if_true, if_false]; exact Ev.now _
      · simp only [spec_l01New.l0, h1, if_false]; exact Ev.now _
    | succ d ih =>
      intro i x hi
      have h2 : (i : Int) < 4000 := by omega
      have h3 : (0 : Int) ≤ (i : Int) := by omega
      by_cases h1 : (i : Int) < (L.length : Int)
      · obtain ⟨h, hh⟩ := ih (i + 1) (Go.bits .and .i64 (wrap64 ((wrap64 ((wrap64 (x * 149)) + (wrap64 (rd L (i : Int))))) + 11)) 1073741823) (by omega)
        refine ⟨h, ev_s ?_⟩
        simp only [spec_l01New.l0, h1, h2, h3, if_true, w_succ (n := i) (by omega)]
        exact hh
      · refine ⟨x, ev_s ?_⟩
        simp only [spec_l01New.l0, h1, if_false]; exact Ev.now _
  unfold spec_l01New.f
  exact key 4000 0 _ (by omega)

theorem dr_Byte (L : List Int) (hL : L.length ≤ 140737488351232) (i h : Int) (hi : 0 ≤ i) : ∃ x i' h', spec_l01Byte.f L i h = some (x, i', h') ∧ 0 ≤ i' ∧ 0 ≤ x ∧ x ≤ 255 := by
  unfold spec_l01Byte.f
  simp only [i64_and255]
  by_cases c : i < (L.length : Int)
  · rw [if_pos c, if_pos hi]
    exact ⟨_, _, _, rfl, by rw [w64 (by omega) (by omega)]; omega, by omega, by omega⟩
  · rw [if_neg c]
    exact ⟨_, _, _, rfl, hi, by omega, by omega⟩

theorem dr_Below (L : List Int) (hL : L.length ≤ 140737488351232) (i h n : Int) (hi : 0 ≤ i) : ∃ x i' h', spec_l01Below.f L i h n = some (x, i', h') ∧ 0 ≤ i' ∧ 0 ≤ x ∧ (0 < n → x < n) := by
  unfold spec_l01Below.f
  by_cases c : n ≤ 0
  · rw [if_pos c]
    exact ⟨_, _, _, rfl, hi, by omega, by omega⟩
  · rw [if_neg c]
    by_cases c2 : n ≤ 256
    · rw [if_pos c2]
      obtain ⟨x, i1, h1, e1, hi1, hx0, hx1⟩ := dr_Byte L hL i h hi
      simp only [e1, Option.bind_some]
      rw [if_neg (by omega), tmod_nn hx0]
      exact ⟨_, _, _, rfl, hi1, (em_lt (by omega)).1, fun _ => (em_lt (by omega)).2⟩
    · rw [if_neg c2]
      obtain ⟨x, i1, h1, e1, hi1, hx0, hx1⟩ := dr_Byte L hL i h hi
      obtain ⟨y, i2, h2, e2, hi2, hy0, hy1⟩ := dr_Byte L hL i1 h1 hi1
      obtain ⟨z, i3, h3, e3, hi3, hz0, hz1⟩ := dr_Byte L hL i2 h2 hi2
      simp only [e1, e2, e3, Option.bind_some]
      rw [if_neg (by omega), w64 (x := x * 65536) (by omega) (by omega), w64 (x := y * 256) (by omega) (by omega), w64 (x := x * 65536 + y * 256) (by omega) (by omega), w64 (by omega) (by omega), tmod_nn (by omega)]
      exact ⟨_, _, _, rfl, hi3, (em_lt (by omega)).1, fun _ => (em_lt (by omega)).2⟩

theorem dr_Once (L : List Int) (hL : L.length ≤ 140737488351232) (i h n : Int) (hi : 0 ≤ i) : ∃ b i' h', spec_l01Once.f L i h n = some (b, i', h') ∧ 0 ≤ i' := by
  unfold spec_l01Once.f
  obtain ⟨x, i1, h1, e1, hi1, hx0, hx1⟩ := dr_Below L hL i h n hi
  simp only [e1, Option.bind_some]
  exact ⟨_, _, _, rfl, hi1⟩

theorem dr_Pick (L : List Int) (hL : L.length ≤ 140737488351232) (i h : Int) (l : List Int) (hl : 0 < l.length) (hi : 0 ≤ i) : ∃ x i' h', spec_l01PickInt.f L i h l = some (x, i', h') ∧ 0 ≤ i' ∧ x ∈ l := by
  unfold spec_l01PickInt.f
  obtain ⟨x, i1, h1, e1, hi1, hx0, hx1⟩ := dr_Below L hL i h (l.length : Int) hi
  have hx2 := hx1 (by omega)
  simp only [e1, Option.bind_some]
  rw [if_pos hx0, if_pos hx2]
  refine ⟨_, _, _, rfl, hi1, ?_⟩
  obtain ⟨n, rfl⟩ : ∃ n : Nat, x = n := ⟨x.toNat, by omega⟩
  rw [rd_at (by omega)]
  exact List.getElem_mem _

theorem dr_Field (L : List Int) (hL : L.length ≤ 140737488351232) (i h : Int) (hi : 0 ≤ i) : ∃ x i' h', spec_l01DrawField.f L i h = some (x, i', h') ∧ 0 ≤ i' ∧ -1 ≤ x ∧ x ≤ 100 := by
  unfold spec_l01DrawField.f
  obtain ⟨b, i1, h1, e1, hi1⟩ := dr_Once L hL i h 20 hi
  simp only [e1, Option.bind_some]
  cases b with
  | true =>
    obtain ⟨x, i2, h2, e2, hi2, hx⟩ := dr_Pick L hL i1 h1 ([-1, 9, 100] : List Int) (by decide) hi1
    simp only [e2, Option.bind_some, if_true]
    simp only [List.mem_cons, List.mem_nil_iff, or_false] at hx
    exact ⟨_, _, _, rfl, hi2, by omega, by omega⟩
  | false =>
    obtain ⟨x, i2, h2, e2, hi2, hx0, hx1⟩ := dr_Below L hL i1 h1 9 hi1
    have := hx1 (by omega)
    simp only [e2, Option.bind_some, Bool.false_eq_true, if_false]
    exact ⟨_, _, _, rfl, hi2, by omega, by omega⟩

theorem ev_Modulus (f : Int) : spec_Modulus.f f = some (md f) := by
  unfold spec_Modulus.f md
  by_cases h0 : f = 0
  · rw [if_pos h0, if_pos h0]
  rw [if_neg h0, if_neg h0]
  by_cases h1 : f = 1
  · rw [if_pos h1, if_pos h1]
  rw [if_neg h1, if_neg h1]
  by_cases h2 : f = 2
  · rw [if_pos h2, if_pos h2]
  rw [if_neg h2, if_neg h2]
  by_cases h3 : f = 3
  · rw [if_pos h3, if_pos h3]
  rw [if_neg h3, if_neg h3]
  by_cases h4 : f = 4
  · rw [if_pos h4, if_pos h4]
  rw [if_neg h4, if_neg h4]
  by_cases h5 : f = 5
  · rw [if_pos h5, if_pos h5]
  rw [if_neg h5, if_neg h5]
  by_cases h6 : f = 6
  · rw [if_pos h6, if_pos h6]
  rw [if_neg h6, if_neg h6]
  by_cases h7 : f = 7
  · rw [if_pos h7, if_pos h7]
  rw [if_neg h7, if_neg h7]
  by_cases h8 : f = 8
  · rw [if_pos h8, if_pos h8]
  rw [if_neg h8, if_neg h8]

theorem dr_Element (L : List Int) (hL : L.length ≤ 140737488351232) (i h f : Int) (hi : 0 ≤ i) : ∃ x i' h', spec_l01DrawElement.f L i h f = some (x, i', h') ∧ 0 ≤ i' := by
  unfold spec_l01DrawElement.f
  simp only [ev_Modulus, Option.bind_some]
  by_cases c : md f = 0
  · obtain ⟨x, i1, h1, e1, hi1, _⟩ := dr_Below L hL i h 50 hi
    simp only [c, e1, Option.bind_some, if_true]
    exact ⟨_, _, _, rfl, hi1⟩
  · obtain ⟨x, i1, h1, e1, hi1, _⟩ := dr_Below L hL i h 6 hi
    simp only [c, e1, Option.bind_some, if_false]
    by_cases c0 : x = 0
    · obtain ⟨y, i2, h2, e2, hi2, _⟩ := dr_Below L hL i1 h1 3 hi1
      simp only [c0, e2, Option.bind_some, if_true]
      exact ⟨_, _, _, rfl, hi2⟩
    by_cases c1 : x = 1
    · obtain ⟨y, i2, h2, e2, hi2, _⟩ := dr_Below L hL i1 h1 3 hi1
      simp only [c0, c1, e2, Option.bind_some, if_true, if_false]
      exact ⟨_, _, _, rfl, hi2⟩
    by_cases c2 : x = 2
    · obtain ⟨y, i2, h2, e2, hi2, _⟩ := dr_Below L hL i1 h1 16777216 hi1
      obtain ⟨z, i3, h3, e3, hi3, _⟩ := dr_Below L hL i2 h2 256 hi2
      simp only [c0, c1, c2, e2, e3, Option.bind_some, if_true, if_false]
      exact ⟨_, _, _, rfl, hi3⟩
    · obtain ⟨y, i2, h2, e2, hi2, _⟩ := dr_Below L hL i1 h1 30 hi1
      simp only [c0, c1, c2, e2, Option.bind_some, if_false]
      exact ⟨_, _, _, rfl, hi2⟩

theorem dr_List (L : List Int) (hL : L.length ≤ 140737488351232) (i h f n : Int) (hi : 0 ≤ i) (hn : n ≤ 1048576) : ∃ out i' h', Ev (fun k => spec_l01DrawList.f k L i h f n) (out, i', h') ∧ out.length = n.toNat ∧ 0 ≤ i' := by
  have key : ∀ (d c : Nat) (out : List Int) (i h : Int), c + d = n.toNat → out.length = c → 0 ≤ i → ∃ out' i' h', Ev (fun k => spec_l01DrawList.l0 k f n out (c : Int) L i h) (out', i', h') ∧ out'.length = n.toNat ∧ 0 ≤ i' := by
    intro d
    induction d with
    | zero =>
      intro c out i h hc ho hi
      refine ⟨out, i, h, ev_s ?_, by omega, hi⟩
      have h1 : ¬ ((c : Int) < n) := by omega
      simp only [spec_l01DrawList.l0, h1, if_false]; exact Ev.now _
    | succ d ih =>
      intro c out i h hc ho hi
      obtain ⟨x, i1, h1, e1, hi1⟩ := dr_Element L hL i h f hi
      obtain ⟨o2, i2, h2, e2, hl2, hi2⟩ := ih (c + 1) (out ++ [x]) i1 h1 (by omega) (by simp [ho]) hi1
      refine ⟨o2, i2, h2, ev_s ?_, hl2, hi2⟩
      have g1 : (c : Int) < n := by omega
      have g2 : out.length < 17592186044416 := by omega
      simp only [spec_l01DrawList.l0, g1, g2, e1, Option.bind_some, if_true, w_succ (n := c) (by omega)]
      exact e2
  unfold spec_l01DrawList.f
  exact key n.toNat 0 [] i h (by omega) rfl hi

theorem ev_TwoPower (f : Int) : Ev (fun k => spec_TwoPower.f k f) (tp f) := by
  unfold spec_TwoPower.f
  simp only [ev_Modulus, Option.bind_some]
  by_cases h : 0 ≤ f ∧ f < 9
  · have hp := pm_of h
    unfold Pm at hp
    obtain ⟨e1, e2, e3, e4, e5⟩ := oddP_spec h
    simp only [show ¬ (md f = 0) from by omega, if_false, w64 (x := md f - 1) (by omega) (by omega)]
    have key : ∀ (t : Nat) (c : Int), 0 ≤ c → c + t ≤ 100 → oddP f * ((2 ^ t : Nat) : Int) ≤ md f - 1 → Ev (fun k => spec_TwoPower.l0 k c (oddP f * ((2 ^ t : Nat) : Int))) (c + t) := by
      intro t
      induction t with
      | zero =>
        intro c hc hct hb
        refine ev_s ?_
        rw [Nat.pow_zero, Int.natCast_one, Int.mul_one] at *
        have h1 : ¬ (Int.tmod (oddP f) 2 = 0) := by rw [tmod_nn (by omega)]; omega
        simp only [spec_TwoPower.l0, h1, if_false, Int.natCast_zero, Int.add_zero]; exact Ev.now _
      | succ t ih =>
        intro c hc hct hb
        have e : oddP f * ((2 ^ (t + 1) : Nat) : Int) = 2 * (oddP f * ((2 ^ t : Nat) : Int)) := by
          rw [Nat.pow_succ, Int.natCast_mul, ← Int.mul_assoc, Int.mul_comm]; rfl
        have hq : 0 ≤ oddP f * ((2 ^ t : Nat) : Int) := Int.mul_nonneg (by omega) (Int.natCast_nonneg _)
        rw [e] at hb ⊢
        have hs := ih (c + 1) (by omega) (by omega) (by omega)
        generalize oddP f * ((2 ^ t : Nat) : Int) = q at *
        refine ev_s ?_
        have h1 : Int.tmod (2 * q) 2 = 0 := by rw [tmod_nn (by omega)]; omega
        have h2 : wrap64 (Int.tdiv (2 * q) 2) = q := by
          rw [Int.tdiv_eq_ediv_of_nonneg (by omega), w64 (by omega) (by omega)]; omega
        simp only [spec_TwoPower.l0, h1, h2, if_true, w64 (x := c + 1) (by omega) (by omega)]
        exact ev_to hs (by omega)
    have := key (tp f).toNat 0 (by omega) (by omega) (by omega)
    rw [← e1] at this
    exact ev_to this (by omega)
  · simp only [md_bad h, if_true]
    rw [tp_bad h]; exact Ev.now _

theorem dr_Vector (L l2 : List Int) (hL : L.length ≤ 140737488351232) (i h f : Int) (hi : 0 ≤ i) : ∃ v i' h', Ev (fun k => spec_l04DrawVector.f k L i h f l2) (v, i', h') ∧ v.length ≤ 4096 ∧ 0 ≤ i' := by
  have j4 : ∀ (c : Nat) (i h : Int), c ≤ 9 → 0 ≤ i → ∃ v i' h', Ev (fun k => spec_l04DrawVector.j4 k f (c : Int) L i h) (v, i', h') ∧ v.length ≤ 4096 ∧ 0 ≤ i' := by
    intro c i h hc hi
    have h2 := two_pow_le hc
    obtain ⟨o, i1, h1, e1, hl1, hi1⟩ := dr_List L hL i h f ((2 ^ c : Nat) : Int) hi (by omega)
    rw [Int.toNat_natCast] at hl1
    obtain ⟨b, i2, h2', e2, hi2⟩ := dr_Once L hL i1 h1 12 hi1
    have g1 : (0 : Int) ≤ (c : Int) := by omega
    have hu : Go.IntKind.u64.wrap (c : Int) = (c : Int) := u64_id (by omega) (by omega)
    cases b with
    | false =>
      refine ⟨o, i2, h2', ev_s ?_, by omega, hi2⟩
      simp only [spec_l04DrawVector.j4, hu, g1, if_true, shl1 (c := c) (by omega)]
      refine Ev.bind e1 ?_
      simp only [e2, Option.bind_some, Bool.false_eq_true, if_false]; exact Ev.now _
    | true =>
      obtain ⟨x, i3, h3, e3, hi3, hx0, hx1⟩ := dr_Below L hL i2 h2' 3 hi2
      by_cases c0 : x = 0
      · refine ⟨o ++ [0], i3, h3, ev_s ?_, by simp; omega, hi3⟩
        simp only [spec_l04DrawVector.j4, hu, g1, if_true, shl1 (c := c) (by omega)]
        refine Ev.bind e1 ?_
        simp only [e2, e3, c0, Option.bind_some, if_true, show o.length < 17592186044416 from by omega]; exact Ev.now _
      by_cases c1 : x = 1
      · obtain ⟨y, i4, h4, e4, hi4, hy0, hy1⟩ := dr_Below L hL i3 h3 (o.length : Int) hi3
        have hy2 := hy1 (by omega)
        obtain ⟨z, i5, h5, e5, hi5, _⟩ := dr_Pick L hL i4 h4 ([(-1), md f] : List Int) (by simp) hi4
        refine ⟨o.set y.toNat z, i5, h5, ev_s ?_, by rw [List.length_set]; omega, hi5⟩
        simp only [spec_l04DrawVector.j4, hu, g1, if_true, shl1 (c := c) (by omega)]
        refine Ev.bind e1 ?_
        simp only [e2, e3, c0, c1, e4, ev_Modulus, e5, hy0, hy2, Option.bind_some, if_true, if_false, show ¬ ((1 : Int) = 0) from by decide]; exact Ev.now _
      by_cases c2 : x = 2
      · refine ⟨[], i3, h3, ev_s ?_, by simp, hi3⟩
        simp only [spec_l04DrawVector.j4, hu, g1, if_true, shl1 (c := c) (by omega)]
        refine Ev.bind e1 ?_
        simp only [e2, e3, c0, c1, c2, Option.bind_some, if_true, if_false, show ¬ ((2 : Int) = 0) from by decide, show ¬ ((2 : Int) = 1) from by decide]; exact Ev.now _
      · refine ⟨o, i3, h3, ev_s ?_, by omega, hi3⟩
        simp only [spec_l04DrawVector.j4, hu, g1, if_true, shl1 (c := c) (by omega)]
        refine Ev.bind e1 ?_
        simp only [e2, e3, c0, c1, c2, Option.bind_some, if_true, if_false]; exact Ev.now _
  have j3 : ∀ (c : Nat) (i h : Int), c ≤ 9 → 0 ≤ i → ∃ v i' h', Ev (fun k => spec_l04DrawVector.j3 k f (c : Int) L i h) (v, i', h') ∧ v.length ≤ 4096 ∧ 0 ≤ i' := by
    intro c i h hc hi
    obtain ⟨b, i1, h1, e1, hi1⟩ := dr_Once L hL i h 25 hi
    cases b with
    | false =>
      obtain ⟨v, i2, h2, e2, r⟩ := j4 c i1 h1 hc hi1
      refine ⟨v, i2, h2, ev_s ?_, r⟩
      simp only [spec_l04DrawVector.j3, e1, Option.bind_some, Bool.false_eq_true, if_false]; exact e2
    | true =>
      obtain ⟨x, i2, h2, e2, hi2, hx⟩ := dr_Pick L hL i1 h1 ([0, 5, 9] : List Int) (by decide) hi1
      simp only [List.mem_cons, List.mem_nil_iff, or_false] at hx
      obtain ⟨n, rfl⟩ : ∃ n : Nat, x = n := ⟨x.toNat, by omega⟩
      obtain ⟨v, i3, h3, e3, r⟩ := j4 n i2 h2 (by omega) hi2
      refine ⟨v, i3, h3, ev_s ?_, r⟩
      simp only [spec_l04DrawVector.j3, e1, e2, Option.bind_some, if_true]; exact e3
  have j2 : ∀ (c t : Nat) (b : Bool) (i h : Int), c ≤ 9 → (b = true → t ≤ 9) → 0 ≤ i → ∃ v i' h', Ev (fun k => spec_l04DrawVector.j2 k f (c : Int) (t : Int) b L i h) (v, i', h') ∧ v.length ≤ 4096 ∧ 0 ≤ i' := by
    intro c t b i h hc ht hi
    cases b with
    | true =>
      obtain ⟨v, i3, h3, e3, r⟩ := j3 t i h (ht rfl) hi
      refine ⟨v, i3, h3, ev_s ?_, r⟩
      simp only [spec_l04DrawVector.j2, if_true]; exact e3
    | false =>
      obtain ⟨v, i3, h3, e3, r⟩ := j3 c i h hc hi
      refine ⟨v, i3, h3, ev_s ?_, r⟩
      simp only [spec_l04DrawVector.j2, Bool.false_eq_true, if_false]; exact e3
  have j2' : ∀ (c : Nat) (t : Int) (i h : Int), c ≤ 9 → 0 ≤ i → ∃ v i' h', Ev (fun k => spec_l04DrawVector.j2 k f (c : Int) t false L i h) (v, i', h') ∧ v.length ≤ 4096 ∧ 0 ≤ i' := by
    intro c t i h hc hi
    obtain ⟨v, i3, h3, e3, r⟩ := j3 c i h hc hi
    refine ⟨v, i3, h3, ev_s ?_, r⟩
    simp only [spec_l04DrawVector.j2, Bool.false_eq_true, if_false]; exact e3
  have j1 : ∀ (c : Nat) (i h : Int), c ≤ 8 → 0 ≤ i → ∃ v i' h', Ev (fun k => spec_l04DrawVector.j1 k f (c : Int) L i h) (v, i', h') ∧ v.length ≤ 4096 ∧ 0 ≤ i' := by
    intro c i h hc hi
    obtain ⟨x, i1, h1, e1, hi1, hx0, hx1⟩ := dr_Below L hL i h ((c : Int) + 2) hi
    have hx2 := hx1 (by omega)
    obtain ⟨n, rfl⟩ : ∃ n : Nat, x = n := ⟨x.toNat, by omega⟩
    by_cases ht : tp f ≥ 0
    · obtain ⟨t, ht2⟩ : ∃ t : Nat, tp f = t := ⟨(tp f).toNat, by omega⟩
      obtain ⟨v, i3, h3, e3, r⟩ := j2 n t (decide ((n : Int) > (t : Int))) i1 h1 (by omega) (fun c => by have := of_decide_eq_true c; omega) hi1
      refine ⟨v, i3, h3, ev_s ?_, r⟩
      simp only [spec_l04DrawVector.j1, w64 (x := (c : Int) + 2) (by omega) (by omega), e1, Option.bind_some]
      refine Ev.bind (ev_TwoPower f) ?_
      simp only [ht, if_true]
      rw [ht2]; exact e3
    · obtain ⟨v, i3, h3, e3, r⟩ := j2' n (tp f) i1 h1 (by omega) hi1
      refine ⟨v, i3, h3, ev_s ?_, r⟩
      simp only [spec_l04DrawVector.j1, w64 (x := (c : Int) + 2) (by omega) (by omega), e1, Option.bind_some]
      refine Ev.bind (ev_TwoPower f) ?_
      simp only [ht, if_false]; exact e3
  have l0 : ∀ (d c : Nat), c + d = 8 → ∃ v i' h', Ev (fun k => spec_l04DrawVector.l0 k f l2 (c : Int) L i h) (v, i', h') ∧ v.length ≤ 4096 ∧ 0 ≤ i' := by
    intro d
    induction d with
    | zero =>
      intro c hc
      obtain ⟨v, i3, h3, e3, r⟩ := j1 c i h (by omega) hi
      refine ⟨v, i3, h3, ev_s ?_, r⟩
      have g1 : ¬ ((c : Int) < 8) := by omega
      simp only [spec_l04DrawVector.l0, g1, if_false]; exact e3
    | succ d ih =>
      intro c hc
      have g1 : (c : Int) < 8 := by omega
      have g2 : (0 : Int) ≤ (c : Int) := by omega
      have hu : Go.IntKind.u64.wrap (c : Int) = (c : Int) := u64_id (by omega) (by omega)
      by_cases q : shl .i64 4 (c : Int) < (l2.length : Int)
      · obtain ⟨v, i3, h3, e3, r⟩ := ih (c + 1) (by omega)
        refine ⟨v, i3, h3, ev_s ?_, r⟩
        simp only [spec_l04DrawVector.l0, g1, g2, hu, q, if_true, w_succ (n := c) (by omega)]; exact e3
      · obtain ⟨v, i3, h3, e3, r⟩ := j1 c i h (by omega) hi
        refine ⟨v, i3, h3, ev_s ?_, r⟩
        simp only [spec_l04DrawVector.l0, g1, g2, hu, q, if_true, if_false]; exact e3
  unfold spec_l04DrawVector.f
  exact l0 8 0 (by omega)

theorem dr_One (L : List Int) (hL : L.length ≤ 140737488351232) : ∃ f v, Ev (fun k => spec_l04DrawOne.f k L) (f, v) ∧ v.length ≤ 1048576 := by
  obtain ⟨h, hn⟩ := dr_New L hL
  obtain ⟨f, i2, h2, e2, hi2, _⟩ := dr_Field L hL 0 h (by omega)
  obtain ⟨v, i3, h3, e3, hl, _⟩ := dr_Vector L L hL i2 h2 f hi2
  refine ⟨f, v, ?_, by omega⟩
  unfold spec_l04DrawOne.f
  refine Ev.bind hn ?_
  simp only [e2, Option.bind_some]
  refine Ev.bind e3 ?_
  exact Ev.now _

theorem ev_LogOf (n : Int) : Ev (fun k => spec_LogOf.f k n) (lg n) := by
  have key : ∀ (d c : Nat), c + d = 10 → Ev (fun k => spec_LogOf.l0 k n (c : Int)) (lgA n d c) := by
    intro d
    induction d with
    | zero =>
      intro c hc
      refine ev_s ?_
      have h1 : ¬ ((c : Int) ≤ 9) := by omega
      simp only [spec_LogOf.l0, h1, if_false]; exact Ev.now _
    | succ d ih =>
      intro c hc
      refine ev_s ?_
      have h1 : (c : Int) ≤ 9 := by omega
      have h2 : (0 : Int) ≤ (c : Int) := by omega
      simp only [spec_LogOf.l0, h1, u64_id (x := (c : Int)) (by omega) (by omega), h2, if_true, shl1 (c := c) (by omega), w_succ (n := c) (by omega)]
      unfold lgA
      by_cases h : n = ((2 ^ c : Nat) : Int)
      · rw [if_pos h]; simp only [if_pos h]; exact Ev.now _
      · rw [if_neg h]; simp only [if_neg h]; exact ih (c + 1) (by omega)
  exact key 10 0 rfl

theorem ev_l01In (x a b : Int) : spec_l01In.f x a b = some (decide (a ≤ x) && decide (x ≤ b)) := by
  unfold spec_l01In.f
  by_cases h : a ≤ x
  · rw [if_pos h, decide_eq_true h, Bool.true_and]
  · rw [if_neg h, decide_eq_false h, Bool.false_and]

theorem ev_l03Elements {f : Int} (h : 0 ≤ f ∧ f < 9) (l : List Int) (hl : l.length ≤ 35184372088832) : Ev (fun k => spec_l03Elements.f k f l) (elB (md f) l) := by
  have hp := pm_of h
  unfold Pm at hp
  have key : ∀ (d i : Nat), i + d = l.length → Ev (fun k => spec_l03Elements.l0 k l (md f) (i : Int)) (elB (md f) (l.drop i)) := by
    intro d
    induction d with
    | zero =>
      intro i hi
      refine ev_s ?_
      have h1 : ¬ ((i : Int) < (l.length : Int)) := by omega
      simp only [spec_l03Elements.l0, h1, if_false]
      rw [List.drop_of_length_le (by omega)]
      exact Ev.now _
    | succ d ih =>
      intro i hi
      refine ev_s ?_
      have h1 : (i : Int) < (l.length : Int) := by omega
      have h2 : (0 : Int) ≤ (i : Int) := by omega
      simp only [spec_l03Elements.l0, h1, h2, if_true, w_succ (n := i) (by omega), w64 (x := md f - 1) (by omega) (by omega), ev_l01In, Option.bind_some]
      rw [elB_drop (by omega)]
      rw [show decide (rd l (i : Int) < md f) = decide (rd l (i : Int) ≤ md f - 1) from decide_eq_decide.2 (by omega)]
      by_cases c : (decide (0 ≤ rd l (i : Int)) && decide (rd l (i : Int) ≤ md f - 1)) = true
      · simp only [c, if_true, Bool.true_and]
        exact ih (i + 1) (by omega)
      · simp only [Bool.not_eq_true] at c
        simp only [c, Bool.false_and, Bool.false_eq_true, if_false]
        exact Ev.now _
  unfold spec_l03Elements.f
  simp only [ev_Modulus, Option.bind_some]
  have h0 : ¬ (md f = 0) := by omega
  simp only [h0, if_false]
  exact key l.length 0 (by omega)
theorem ev_l03Elements_bad {f : Int} (h : ¬ (0 ≤ f ∧ f < 9)) (l : List Int) : Ev (fun k => spec_l03Elements.f k f l) false := by
  unfold spec_l03Elements.f
  simp only [ev_Modulus, Option.bind_some, md_bad h, if_true]
  exact Ev.now _

theorem ev_VectorOk {f : Int} {v : List Int} (h : VecOk f v) : Ev (fun k => spec_VectorOk.f k f v) true := by
  have hl := h.lg
  have hn := h.len
  unfold spec_VectorOk.f
  refine Ev.bind (ev_LogOf _) ?_
  have h1 : lg (v.length : Int) ≥ 0 := hl.1
  simp only [h1, if_true]
  refine Ev.bind (ev_TwoPower f) ?_
  simp only [hl.2, if_true]
  refine Ev.bind (ev_l03Elements h.1 v (by omega)) ?_
  rw [elB_iff.2 h.2.2]; exact Ev.now _
theorem ev_VectorOk_bad {f : Int} {v : List Int} (h : ¬ VecOk f v) : Ev (fun k => spec_VectorOk.f k f v) false := by
  unfold spec_VectorOk.f
  refine Ev.bind (ev_LogOf _) ?_
  by_cases h1 : lg (v.length : Int) ≥ 0
  · simp only [h1, if_true]
    refine Ev.bind (ev_TwoPower f) ?_
    have hn : v.length ≤ 512 := by
      rcases lg_cases (v.length : Int) with ⟨e, _⟩ | ⟨k, hk, _, e⟩
      · omega
      · have := two_pow_le hk; omega
    by_cases h2 : lg (v.length : Int) ≤ tp f
    · simp only [h2, if_true]
      by_cases hf : 0 ≤ f ∧ f < 9
      · refine Ev.bind (ev_l03Elements hf v (by omega)) ?_
        have he : elB (md f) v = false := by
          rw [← Bool.not_eq_true, elB_iff]
          intro he
          exact h (vec_of hf h1 h2 he)
        rw [he]; exact Ev.now _
      · refine Ev.bind (ev_l03Elements_bad hf v) ?_
        exact Ev.now _
    · simp only [h2, if_false]; exact Ev.now _
  · simp only [h1, if_false]; exact Ev.now _

theorem ev_cp (l : List Int) (hl : l.length ≤ 1048576) : Ev (fun k => laws_cp.f k l) l := by
  have key : ∀ (d i : Nat), i + d = l.length → Ev (fun k => laws_cp.l0 k l (l.take i) (i : Int)) l := by
    intro d
    induction d with
    | zero =>
      intro i hi
      refine ev_s ?_
      have g1 : ¬ ((i : Int) < (l.length : Int)) := by omega
      simp only [laws_cp.l0, g1, if_false]
      rw [List.take_of_length_le (by omega)]; exact Ev.now _
    | succ d ih =>
      intro i hi
      refine ev_s ?_
      have g1 : (i : Int) < (l.length : Int) := by omega
      have g2 : (0 : Int) ≤ (i : Int) := by omega
      have g3 : (l.take i).length < 17592186044416 := by rw [List.length_take]; omega
      simp only [laws_cp.l0, g1, g2, g3, if_true, w_succ (n := i) (by omega)]
      rw [rd_at (show i < l.length by omega), List.take_append_getElem (show i < l.length by omega)]
      exact ih (i + 1) (by omega)
  exact key l.length 0 (by omega)

theorem ev_reversed : ∀ (m x : Nat), m ≤ 9 → x < 2 ^ m → Ev (fun k => impl_reversed.f k (x : Int) (m : Int)) ((rv m x : Nat) : Int) := by
  intro m x hm hx
  have hm2 := two_pow_le hm
  have key : ∀ (d i y acc : Nat), i + d = m → y < 2 ^ d → acc < 2 ^ i → Ev (fun k => impl_reversed.l0 k (y : Int) (acc : Int) (m : Int) (i : Int)) ((acc * 2 ^ d + rv d y : Nat) : Int) := by
    intro d
    induction d with
    | zero =>
      intro i y acc hi hy hacc
      refine ev_s ?_
      have g1 : ¬ ((i : Int) < (m : Int)) := by omega
      simp only [impl_reversed.l0, g1, if_false]
      rw [Nat.pow_zero, Nat.mul_one]; exact Ev.now _
    | succ d ih =>
      intro i y acc hi hy hacc
      refine ev_s ?_
      have g1 : (i : Int) < (m : Int) := by omega
      have hi2 := two_pow_le (k := i) (by omega)
      have e1 : ((y : Int) / 2) = ((y / 2 : Nat) : Int) := by omega
      have e2 : wrap64 (wrap64 (2 * (acc : Int)) + (y : Int) % 2) = ((2 * acc + y % 2 : Nat) : Int) := by
        have hacc3 : acc < 512 := by omega
        clear hy hx hm2 hi2 hacc
        rw [w64 (x := 2 * (acc : Int)) (by omega) (by omega), w64 (by omega) (by omega)]; omega
      simp only [impl_reversed.l0, g1, if_true, i64_and1, e1, e2, w_succ (n := i) (by omega)]
      rw [Nat.pow_succ] at hy
      have hy2 : y / 2 < 2 ^ d := by
        generalize 2 ^ d = q at hy
        clear hx hm2 hi2 hacc e2
        omega
      have ha2 : 2 * acc + y % 2 < 2 ^ (i + 1) := by
        rw [Nat.pow_succ]
        generalize 2 ^ i = q at hacc
        clear hx hm2 hi2 hy hy2 e2
        omega
      have hs := ih (i + 1) (y / 2) (2 * acc + y % 2) (by clear hy hy2 ha2 hx hm2 hi2 hacc e2; omega) hy2 ha2
      refine ev_to hs ?_
      congr 1
      show _ = acc * 2 ^ (d + 1) + ((y % 2) * 2 ^ d + rv d (y / 2))
      rw [Nat.add_mul, Nat.pow_succ, Nat.mul_comm 2 acc, Nat.mul_assoc acc 2, Nat.mul_comm 2 (2 ^ d)]
      generalize acc * (2 ^ d * 2) = q1
      generalize y % 2 * 2 ^ d = q2
      generalize rv d (y / 2) = q3
      clear hy hy2 ha2 hx hm2 hi2 hacc e2 hs
      omega
  have := key m 0 x 0 (by omega) hx (by simp)
  rw [Nat.zero_mul, Nat.zero_add] at this
  exact this

theorem ev_logOf (n : Int) : Ev (fun k => impl_logOf.f k n) (lg n) := by
  have key : ∀ (d c : Nat), c + d = 10 → Ev (fun k => impl_logOf.l0 k n (c : Int)) (lgA n d c) := by
    intro d
    induction d with
    | zero =>
      intro c hc
      refine ev_s ?_
      have h1 : ¬ ((c : Int) < 10) := by omega
      simp only [impl_logOf.l0, h1, if_false]; exact Ev.now _
    | succ d ih =>
      intro c hc
      refine ev_s ?_
      have h1 : (c : Int) < 10 := by omega
      have h2 : (0 : Int) ≤ (c : Int) := by omega
      simp only [impl_logOf.l0, h1, h2, if_true, shl1 (c := c) (by omega), w_succ (n := c) (by omega)]
      unfold lgA
      by_cases h : n = ((2 ^ c : Nat) : Int)
      · rw [if_pos h]; simp only [if_pos h]; exact Ev.now _
      · rw [if_neg h]; simp only [if_neg h]; exact ih (c + 1) (by omega)
  exact key 10 0 rfl

theorem ev_permuted {a : List Int} {k : Nat} (hk : k ≤ 9) (hl : a.length = 2 ^ k) : Ev (fun q => impl_permuted.f q a) (prmS k a) := by
  have h2 := two_pow_le hk
  have key : ∀ (d i : Nat) (out : List Int), i + d = a.length → out.length = a.length → (∀ j, j < i → rd out ((rv k j : Nat) : Int) = rd a (j : Int)) → Ev (fun q => impl_permuted.l0 q (k : Int) out a (a.length : Int) (i : Int)) (prmS k a) := by
    intro d
    induction d with
    | zero =>
      intro i out hi ho hx
      refine ev_s ?_
      have g1 : ¬ ((i : Int) < (a.length : Int)) := by omega
      simp only [impl_permuted.l0, g1, if_false]
      have e : out = prmS k a := set_map_rd (by omega) (fun c hc => by
        have hr := rv_lt k c
        have := hx (rv k c) (by omega)
        rw [rv_rv k c hc] at this
        exact this)
      rw [e]; exact Ev.now _
    | succ d ih =>
      intro i out hi ho hx
      refine ev_s ?_
      have g1 : (i : Int) < (a.length : Int) := by omega
      have g2 : (0 : Int) ≤ (i : Int) := by omega
      have hr := rv_lt k i
      simp only [impl_permuted.l0, g1, g2, if_true]
      refine Ev.bind (ev_reversed k i hk (by omega)) ?_
      have g3 : (0 : Int) ≤ ((rv k i : Nat) : Int) := by omega
      have g4 : ((rv k i : Nat) : Int) < (out.length : Int) := by omega
      simp only [g3, g4, if_true, w_succ (n := i) (by omega), Int.toNat_natCast]
      refine ih (i + 1) _ (by omega) (by rw [List.length_set]; exact ho) (fun j hj => ?_)
      by_cases c : rv k i = rv k j
      · rw [← c, rd_set_eq (by omega)]
        have : i = j := by rw [← rv_rv k i (by omega), c, rv_rv k j (by omega)]
        rw [this]
      · rw [rd_set_ne c]
        refine hx j ?_
        by_cases c2 : j = i
        · subst c2; exact absurd rfl c
        · omega
  unfold impl_permuted.f
  refine Ev.bind (ev_logOf _) ?_
  have g1 : (0 : Int) ≤ (a.length : Int) := by omega
  simp only [g1, if_true, Int.toNat_natCast, show a.length ≤ 35184372088832 from by omega]
  rw [show lg (a.length : Int) = (k : Int) by rw [hl, lg_pow hk]]
  exact key a.length 0 _ (by omega) (by simp) (fun j hj => by omega)

theorem ev_mul {p : Int} (hp : Pm p) (g t : Int) {a b : Int} (ha : 0 ≤ a ∧ a < p) (hb : 0 ≤ b ∧ b < p) : impl_field_mul.f p g t a b = some (a * b % p) := by
  unfold Pm at hp
  have h := mul_lt_big ha.1 ha.2 hb.1 hb.2 hp.2
  unfold impl_field_mul.f
  rw [if_neg (by omega), w64 (by omega) (by omega), tmod_nn (by omega)]

theorem ev_power {p : Int} (hp : Pm p) (g t : Int) : ∀ (e : Nat) {a : Int}, (0 ≤ a ∧ a < p) → e < 4611686018427387904 → Ev (fun k => impl_field_power.f k p g t a (e : Int)) (a ^ e % p) := by
  have hpp := hp
  unfold Pm at hpp
  have key : ∀ (n e : Nat), e ≤ n → e < 4611686018427387904 → ∀ a out : Int, (0 ≤ a ∧ a < p) → (0 ≤ out ∧ out < p) → Ev (fun k => impl_field_power.l0 k a (e : Int) out p g t) (out * a ^ e % p) := by
    intro n
    induction n with
    | zero =>
      intro e he _ a out ha ho
      obtain rfl : e = 0 := by omega
      refine ev_s ?_
      have h1 : ¬ (((0 : Nat) : Int) > 0) := by omega
      simp only [impl_field_power.l0, h1, if_false]
      rw [Int.pow_zero, Int.mul_one, em_id ho.1 ho.2]
      exact Ev.now _
    | succ n ih =>
      intro e he hb a out ha ho
      by_cases h0 : e = 0
      · subst h0
        exact ih 0 (by omega) hb a out ha ho
      · refine ev_s ?_
        have h1 : (e : Int) > 0 := by omega
        have h2 : Int.tmod (e : Int) 2 = ((e % 2 : Nat) : Int) := by rw [tmod_nn (by omega)]; omega
        have h3 : wrap64 (Int.tdiv (e : Int) 2) = ((e / 2 : Nat) : Int) := by
          rw [Int.tdiv_eq_ediv_of_nonneg (by omega), w64 (by omega) (by omega)]; omega
        have haa := em_lt (a := a * a) hp.pos
        simp only [impl_field_power.l0, h1, if_true, h2, h3, ev_mul hp g t ha ha, ev_mul hp g t ho ha, Option.bind_some]
        by_cases c : e % 2 = 1
        · have hoa := em_lt (a := out * a) hp.pos
          simp only [c, Int.natCast_one, if_true]
          refine ev_to (ih (e / 2) (by omega) (by omega) (a * a % p) (out * a % p) haa hoa) ?_
          have e1 : (out * a % p) * (a * a % p) ^ (e / 2) % p = (out * a) * (a * a) ^ (e / 2) % p := emul (Int.emod_emod _ _) (epow_l _)
          rw [e1, ipow2, Int.mul_assoc, ← Int.pow_succ']
          congr 3; omega
        · have c0 : e % 2 = 0 := by omega
          simp only [c0, show ¬ (((0 : Nat) : Int) = 1) from by omega, if_false]
          refine ev_to (ih (e / 2) (by omega) (by omega) (a * a % p) out haa ho) ?_
          have e1 : out * (a * a % p) ^ (e / 2) % p = out * (a * a) ^ (e / 2) % p := emul rfl (epow_l _)
          rw [e1, ipow2]
          congr 3; omega
  intro e a ha he
  unfold impl_field_power.f
  refine ev_to (key e e (Nat.le_refl _) he a 1 ha (by omega)) ?_
  rw [Int.one_mul]

theorem shr_pow {x : Int} {c : Nat} (h : c ≤ 60) : shr .i64 x (c : Int) = x / ((2 ^ c : Nat) : Int) := by
  unfold shr
  rw [Int.toNat_natCast, show min c (Go.IntKind.bits .i64) = c from Nat.min_eq_left (by show c ≤ 64; omega), Int.natCast_pow]; rfl
theorem eK_shr {f : Int} (hf : 0 ≤ f ∧ f < 9) {k : Nat} (hk : (k : Int) ≤ tp f) : shr .i64 (wrap64 (md f - 1)) (k : Int) = ((eK f k : Nat) : Int) := by
  have hp := pm_of hf
  unfold Pm at hp
  obtain ⟨h1, h2, h3, h4, h5⟩ := oddP_spec hf
  rw [w64 (by omega) (by omega), shr_pow (by omega)]
  have e : (2 ^ (tp f).toNat : Nat) = 2 ^ ((tp f).toNat - k) * 2 ^ k := by rw [← Nat.pow_add, show (tp f).toNat - k + k = (tp f).toNat by omega]
  have hpos := Nat.two_pow_pos k
  rw [h1, e, Int.natCast_mul, ← Int.mul_assoc, Int.mul_ediv_cancel _ (by omega)]
  unfold eK
  rw [Int.natCast_mul, show (((oddP f).toNat : Nat) : Int) = oddP f by omega]
theorem ev_root {f : Int} (hf : 0 ≤ f ∧ f < 9) {k : Nat} (hk : (k : Int) ≤ tp f) : Ev (fun q => impl_field_root.f q (md f) (gn f) (tp f) (k : Int)) (rtf f k) := by
  have hp := pm_of hf
  have hpp := hp
  unfold Pm at hpp
  have hb := (isF hf.1 hf.2).bounds
  have hg : 0 ≤ gn f ∧ gn f < md f := by
    rcases fcases hf.1 hf.2 with e | e | e | e | e | e | e | e | e <;> subst e <;> decide
  have hE : eK f k < 4611686018427387904 := by
    have hs := eK_shr hf hk
    have h0 : (0 : Int) ≤ md f - 1 := by omega
    obtain ⟨h1, h2, h3, h4, h5⟩ := oddP_spec hf
    rw [w64 (by omega) (by omega), shr_pow (by omega)] at hs
    have := Int.ediv_le_self ((2 ^ k : Nat) : Int) h0
    omega
  unfold impl_field_root.f
  have g1 : (0 : Int) ≤ (k : Int) := by omega
  simp only [g1, if_true, eK_shr hf hk]
  refine Ev.bind (ev_power hp _ _ _ hg hE) ?_
  exact Ev.now _

theorem ev_add {p : Int} (hp : Pm p) (g t : Int) {a b : Int} (ha : 0 ≤ a ∧ a < p) (hb : 0 ≤ b ∧ b < p) : impl_field_add.f p g t a b = some ((a + b) % p) := by
  unfold Pm at hp
  unfold impl_field_add.f
  rw [if_neg (by omega), w64 (by omega) (by omega), tmod_nn (by omega)]

theorem ev_sub {p : Int} (hp : Pm p) (g t : Int) {a b : Int} (ha : 0 ≤ a ∧ a < p) (hb : 0 ≤ b ∧ b < p) : impl_field_sub.f p g t a b = some ((a - b) % p) := by
  unfold Pm at hp
  unfold impl_field_sub.f
  rw [if_neg (by omega), w64 (x := a - b) (by omega) (by omega), w64 (by omega) (by omega), tmod_nn (by omega), Int.add_emod_right]

theorem ev_stageI {p : Int} (hp : Pm p) (g t : Int) {x F : List Int} {v : Int} {h B : Nat} (hv : 0 ≤ v ∧ v < p) (hx : El p x) (hn : x.length ≤ 512) (hb : B + 2 * h ≤ x.length)
    (hlo : ∀ j, j < h → rd F ((B + j : Nat) : Int) = (rd x ((B + j : Nat) : Int) + rd x ((B + j + h : Nat) : Int) * v ^ j) % p)
    (hhi : ∀ j, j < h → rd F ((B + j + h : Nat) : Int) = (rd x ((B + j : Nat) : Int) - rd x ((B + j + h : Nat) : Int) * v ^ j) % p) {r : List Int}
    (hr : ∀ out' : List Int, out'.length = x.length → (∀ i : Nat, i < B + 2 * h → rd out' (i : Int) = rd F (i : Int)) → Ev (fun q => impl_field_stage.l0 q x out' (h : Int) v ((B + 2 * h : Nat) : Int) p g t) r) :
    ∀ (d j : Nat) (out : List Int), j + d = h → out.length = x.length → (∀ i : Nat, i < x.length → (i < B ∨ (B ≤ i ∧ i < B + j) ∨ (B + h ≤ i ∧ i < B + h + j)) → rd out (i : Int) = rd F (i : Int)) →
      Ev (fun q => impl_field_stage.l1 q x out (h : Int) v (B : Int) (v ^ j % p) (h : Int) (j : Int) p g t) r := by
  intro d
  induction d with
  | zero =>
    intro j out hj ho hx2
    refine ev_s ?_
    have g1 : ¬ ((j : Int) < (h : Int)) := by omega
    have ew : wrap64 ((B : Int) + wrap64 (2 * (h : Int))) = ((B + 2 * h : Nat) : Int) := by
      rw [w64 (x := 2 * (h : Int)) (by omega) (by omega), w64 (by omega) (by omega)]; omega
    simp only [impl_field_stage.l1, g1, if_false, ew]
    exact hr out ho (fun i hi => hx2 i (by omega) (by omega))
  | succ d ih =>
    intro j out hj ho hx2
    refine ev_s ?_
    have g1 : (j : Int) < (h : Int) := by omega
    have e1 : wrap64 ((B : Int) + (j : Int)) = ((B + j : Nat) : Int) := by rw [w64 (by omega) (by omega)]; omega
    have e2 : wrap64 (((B + j : Nat) : Int) + (h : Int)) = ((B + j + h : Nat) : Int) := by rw [w64 (by omega) (by omega)]; omega
    have g2 : (0 : Int) ≤ ((B + j : Nat) : Int) := by omega
    have g3 : ((B + j : Nat) : Int) < (x.length : Int) := by omega
    have g4 : (0 : Int) ≤ ((B + j + h : Nat) : Int) := by omega
    have g5 : ((B + j + h : Nat) : Int) < (x.length : Int) := by omega
    have g6 : ((B + j : Nat) : Int) < (out.length : Int) := by omega
    have g8 : ((B + j + h : Nat) : Int) < (out.length : Int) := by omega
    have b1 := hx.rd hp.pos ((B + j : Nat) : Int)
    have b2 := hx.rd hp.pos ((B + j + h : Nat) : Int)
    have b3 := em_lt (a := v ^ j) hp.pos
    have b4 := em_lt (a := rd x ((B + j + h : Nat) : Int) * (v ^ j % p)) hp.pos
    have ev1 : v ^ j % p * v % p = v ^ (j + 1) % p := by rw [emul_l, Int.pow_succ]
    simp only [impl_field_stage.l1, g1, e1, e2, g2, g3, g4, g5, g6, g8, if_true, ev_mul hp _ _ b2 b3, ev_add hp _ _ b1 b4, ev_sub hp _ _ b1 b4, ev_mul hp _ _ b3 hv, Option.bind_some, ev1, Int.toNat_natCast, w_succ (n := j) (by omega), List.length_set]
    refine ih (j + 1) _ (by omega) (by rw [List.length_set, List.length_set]; exact ho) (fun i hi hc => ?_)
    by_cases c1 : i = B + j + h
    · subst c1
      rw [rd_set_eq (by rw [List.length_set]; omega), hhi j (by omega)]
      exact (esub_r (p := p)).trans (esub rfl emul_r)
    · rw [rd_set_ne (by omega)]
      by_cases c2 : i = B + j
      · subst c2
        rw [rd_set_eq (by omega), hlo j (by omega)]
        exact (eadd_r (p := p)).trans (eadd rfl emul_r)
      · rw [rd_set_ne (by omega)]
        exact hx2 i hi (by omega)
theorem ev_stageO {p : Int} (hp : Pm p) (g t : Int) {x : List Int} {v : Int} {h nb : Nat} (hv : 0 ≤ v ∧ v < p) (hx : El p x) (hn : x.length ≤ 512) (hh : 0 < h) (hl : x.length = 2 * h * nb) :
    ∀ (d b : Nat) (out : List Int), b + d = nb → out.length = x.length → (∀ i : Nat, i < 2 * h * b → rd out (i : Int) = stF p v h x i) → Ev (fun q => impl_field_stage.l0 q x out (h : Int) v ((2 * h * b : Nat) : Int) p g t) (stgS p v h x) := by
  intro d
  induction d with
  | zero =>
    intro b out hb ho hx2
    refine ev_s ?_
    have hb' : b = nb := by clear hl; omega
    subst hb'
    rw [← hl] at hx2 ⊢
    have g1 : ¬ ((x.length : Int) < (x.length : Int)) := by clear hl; omega
    simp only [impl_field_stage.l0, g1, if_false]
    have e : out = stgS p v h x := set_map_rd ho hx2
    rw [e]; exact Ev.now _
  | succ d ih =>
    intro b out hb ho hx2
    have hle : 2 * h * b + 2 * h ≤ x.length := by
      have : 2 * h * (b + 1) ≤ 2 * h * nb := Nat.mul_le_mul_left _ (by clear hl; omega)
      rw [Nat.mul_add, Nat.mul_one] at this
      rw [hl]; exact this
    have hs := ih (b + 1)
    rw [Nat.mul_add, Nat.mul_one] at hs
    have hFr : ∀ i : Nat, i < x.length → rd (stgS p v h x) (i : Int) = stF p v h x i := fun i hi => by unfold stgS; rw [rd_map _ hi]
    have hlo := fun j (hj : j < h) => stF_lo (p := p) (v := v) (b := b) x hj
    have hhi := fun j (hj : j < h) => stF_hi (p := p) (v := v) (b := b) x hj
    clear hl ih
    generalize 2 * h * b = B at *
    refine ev_s ?_
    have g1 : (B : Int) < (x.length : Int) := by omega
    have hpp := hp
    unfold Pm at hpp
    simp only [impl_field_stage.l0, g1, if_true]
    have hi := ev_stageI hp g t (F := stgS p v h x) hv hx hn hle (fun j hj => by rw [hFr _ (by omega), hlo j hj]) (fun j hj => by rw [hFr _ (by omega), hhi j hj])
      (fun out' ho' hx' => hs out' (by omega) ho' (fun i hi => by rw [hx' i hi, hFr i (by omega)])) h 0 out (by omega) ho (fun i hi hc => by rw [hFr i hi, hx2 i (by omega)])
    rw [Int.pow_zero, em_id (by omega) (by omega)] at hi
    exact hi
theorem ev_stage {f : Int} (hf : 0 ≤ f ∧ f < 9) {x : List Int} {k s : Nat} (hk : k ≤ 9) (ht : (k : Int) ≤ tp f) (hl : x.length = 2 ^ k) (hx : El (md f) x) (hs : s < k) : Ev (fun q => impl_field_stage.f q (md f) (gn f) (tp f) x (s : Int)) (stgS (md f) (rtf f (s + 1)) (2 ^ s) x) := by
  have hp := pm_of hf
  have h2 := two_pow_le hk
  rw [← hl] at h2
  have hroot := ev_root hf (k := s + 1) (by clear hl; omega)
  have hn : x.length = 2 * 2 ^ s * 2 ^ (k - (s + 1)) := by rw [hl, show 2 * 2 ^ s = 2 ^ (s + 1) by rw [Nat.pow_succ, Nat.mul_comm], ← Nat.pow_add, show s + 1 + (k - (s + 1)) = k by omega]
  have hsh : shl .i64 1 (s : Int) = ((2 ^ s : Nat) : Int) := shl1 (by clear hl hn; omega)
  have hO := ev_stageO hp (gn f) (tp f) (rtf_lt hf (s + 1)) hx h2.2 (Nat.two_pow_pos s) hn (2 ^ (k - (s + 1))) 0 (List.replicate x.length 0) (Nat.zero_add _) (by simp) (fun i hi => by rw [Nat.mul_zero] at hi; exact absurd hi (Nat.not_lt_zero i))
  clear hl hn
  unfold impl_field_stage.f
  have g1 : (0 : Int) ≤ (x.length : Int) := by omega
  have g2 : (0 : Int) ≤ (s : Int) := by omega
  simp only [g1, g2, if_true, Int.toNat_natCast, show x.length ≤ 35184372088832 from by omega, w_succ (n := s) (by omega), hsh]
  refine Ev.bind hroot ?_
  exact hO

theorem ev_forwardL {f : Int} {a : List Int} (h : VecOk f a) : Ev (fun q => impl_field_forward.f q (md f) (gn f) (tp f) a) (fwS f a) := by
  have hf := h.1
  obtain ⟨k, hk, ht, hl⟩ := h.2.1
  have h2 := two_pow_le hk
  rw [fwS_eq hk hl]
  have key : ∀ (d s : Nat), s + d = k → Ev (fun q => impl_field_forward.l0 q (stS (md f) (rtf f s) k s a) (k : Int) (s : Int) (md f) (gn f) (tp f)) (dftS (md f) (rtf f k) a) := by
    intro d
    induction d with
    | zero =>
      intro s hs
      obtain rfl : s = k := by omega
      refine ev_s ?_
      have g1 : ¬ ((s : Int) < (s : Int)) := by omega
      simp only [impl_field_forward.l0, g1, if_false]
      rw [stS_end hl]; exact Ev.now _
    | succ d ih =>
      intro s hs
      refine ev_s ?_
      have g1 : (s : Int) < (k : Int) := by omega
      simp only [impl_field_forward.l0, g1, if_true]
      refine Ev.bind (ev_stage hf hk ht (stS_len _ _ _ _ _) (stS_el h.pm.pos _ _ _ _) (show s < k by omega)) ?_
      simp only [w_succ (n := s) (by omega)]
      have hr1 := rtf_root hf (k := s) (by omega)
      have hr2 := (rtf_root hf (k := s + 1) (by omega)).2 (by omega)
      rw [Nat.add_sub_cancel] at hr2
      rw [stS_step (show s < k by omega) (rtf_sq hf (by omega)) hr1.1 hr2]
      exact ih (s + 1) (by omega)
  unfold impl_field_forward.f
  refine Ev.bind (ev_permuted hk hl) ?_
  refine Ev.bind (ev_logOf _) ?_
  rw [show lg (a.length : Int) = (k : Int) by rw [hl, lg_pow hk], prmS_st h.pm.pos (rtf f 0) h.2.2]
  exact key k 0 (by omega)

theorem ev_fieldOf {f : Int} (h : 0 ≤ f ∧ f < 9) : impl_fieldOf.f f = some (md f, gn f, tp f, true) := by
  rcases fcases h.1 h.2 with e | e | e | e | e | e | e | e | e <;> subst e <;> rfl
theorem ev_fieldOf_bad {f : Int} (h : ¬ (0 ≤ f ∧ f < 9)) : impl_fieldOf.f f = some (0, 0, 0, false) := by
  unfold impl_fieldOf.f
  by_cases c : f < 0
  · rw [if_pos c]
  · rw [if_neg c, if_pos (by omega)]

theorem ev_areElements (p g t : Int) (l : List Int) (hl : l.length ≤ 35184372088832) : Ev (fun k => impl_field_areElements.f k p g t l) (elB p l) := by
  have key : ∀ (d i : Nat), i + d = l.length → Ev (fun k => impl_field_areElements.l0 k l (l.length : Int) (i : Int) p g t) (elB p (l.drop i)) := by
    intro d
    induction d with
    | zero =>
      intro i hi
      refine ev_s ?_
      have h1 : ¬ ((i : Int) < (l.length : Int)) := by omega
      simp only [impl_field_areElements.l0, h1, if_false]
      rw [List.drop_of_length_le (by omega)]
      exact Ev.now _
    | succ d ih =>
      intro i hi
      refine ev_s ?_
      have h1 : (i : Int) < (l.length : Int) := by omega
      have h2 : (0 : Int) ≤ (i : Int) := by omega
      simp only [impl_field_areElements.l0, h1, h2, if_true, w_succ (n := i) (by omega)]
      rw [elB_drop (by omega)]
      by_cases c1 : rd l (i : Int) < 0
      · simp only [c1, if_true, show decide (0 ≤ rd l (i : Int)) = false from decide_eq_false (by omega), Bool.false_and]
        exact Ev.now _
      · by_cases c2 : rd l (i : Int) ≥ p
        · simp only [c1, c2, if_true, if_false, show decide (rd l (i : Int) < p) = false from decide_eq_false (by omega), Bool.false_and, Bool.and_false]
          exact Ev.now _
        · simp only [c1, c2, if_false, show decide (0 ≤ rd l (i : Int)) = true from decide_eq_true (by omega), show decide (rd l (i : Int) < p) = true from decide_eq_true (by omega), Bool.true_and]
          exact ih (i + 1) (by omega)
  exact key l.length 0 (by omega)

theorem ev_vectorField1 {f : Int} {a : List Int} (h : VecOk f a) : Ev (fun k => impl_vectorField.f k f [a]) (md f, gn f, tp f, true) := by
  have hlg := h.lg
  have hn := h.len
  obtain ⟨hf, _, he⟩ := h
  unfold impl_vectorField.f
  have hl : (([a] : List (List Int)).length : Int) = 1 := rfl
  have hr : rd_L2 [a] 0 = a := rfl
  have n1 : ¬ (lg (a.length : Int) < 0) := by omega
  have n2 : ¬ (lg (a.length : Int) > tp f) := by omega
  simp only [ev_fieldOf hf, Option.bind_some, if_true, hl]
  refine ev_s ?_
  simp only [impl_vectorField.l0, hl, hr, show (0 : Int) < 1 from by decide, show (0 : Int) ≤ 0 from by decide, if_true]
  refine Ev.bind (ev_logOf _) ?_
  simp only [n1, n2, if_false]
  refine Ev.bind (ev_areElements _ _ _ a (by omega)) ?_
  simp only [elB_iff.2 he, if_true, w64 (x := 0 + 1) (by decide) (by decide)]
  refine ev_s ?_
  simp only [impl_vectorField.l0, hl, show ¬ ((0 : Int) + 1 < 1) from by decide, if_false]
  exact Ev.now _
theorem lg_small {n : Nat} (h : 0 ≤ lg (n : Int)) : n ≤ 512 := by
  rcases lg_cases (n : Int) with ⟨e, _⟩ | ⟨k, hk, _, e⟩
  · omega
  · have := two_pow_le hk; omega
theorem ev_vectorField1_bad {f : Int} {a : List Int} (h : ¬ VecOk f a) : Ev (fun k => impl_vectorField.f k f [a]) (0, 0, 0, false) := by
  unfold impl_vectorField.f
  by_cases hf : 0 ≤ f ∧ f < 9
  · have hl : (([a] : List (List Int)).length : Int) = 1 := rfl
    have hr : rd_L2 [a] 0 = a := rfl
    simp only [ev_fieldOf hf, Option.bind_some, if_true, hl]
    refine ev_s ?_
    simp only [impl_vectorField.l0, hl, hr, show (0 : Int) < 1 from by decide, show (0 : Int) ≤ 0 from by decide, if_true]
    refine Ev.bind (ev_logOf _) ?_
    by_cases n1 : lg (a.length : Int) < 0
    · simp only [n1, if_true]; exact Ev.now _
    by_cases n2 : lg (a.length : Int) > tp f
    · simp only [n1, n2, if_true, if_false]; exact Ev.now _
    simp only [n1, n2, if_false]
    have hs := lg_small (n := a.length) (by omega)
    refine Ev.bind (ev_areElements _ _ _ a (by omega)) ?_
    have he : elB (md f) a = false := by
      rw [← Bool.not_eq_true, elB_iff]
      intro he
      exact h (vec_of hf (by omega) (by omega) he)
    simp only [he, Bool.false_eq_true, if_false]
    exact Ev.now _
  · simp only [ev_fieldOf_bad hf, Option.bind_some, Bool.false_eq_true, if_false]
    exact Ev.now _

theorem ev_iForward {f : Int} {a : List Int} (h : VecOk f a) : Ev (fun q => impl_Forward.f q f a) (fwS f a) := by
  unfold impl_Forward.f
  refine Ev.bind (ev_vectorField1 h) ?_
  simp only [if_true]
  refine Ev.bind (ev_forwardL h) ?_
  exact Ev.now _
theorem ev_iForward_bad {f : Int} {a : List Int} (h : ¬ VecOk f a) : Ev (fun q => impl_Forward.f q f a) [] := by
  unfold impl_Forward.f
  refine Ev.bind (ev_vectorField1_bad h) ?_
  simp only [Bool.false_eq_true, if_false]; exact Ev.now _

theorem ev_Generator {f : Int} (h : 0 ≤ f ∧ f < 9) : Ev (fun k => spec_Generator.f k f) (gn f) := by
  rcases fcases h.1 h.2 with e | e | e | e | e | e | e | e | e <;> subst e <;> exact ⟨4, fun k hk => by obtain ⟨m, rfl⟩ : ∃ m, k = m + 4 := ⟨k - 4, by omega⟩; rfl⟩

theorem ev_Reduce {f : Int} (h : 0 ≤ f ∧ f < 9) (x : Int) : spec_Reduce.f f x = some (x % md f) := by
  have hp := pm_of h
  unfold Pm at hp
  unfold spec_Reduce.f
  rw [ev_Modulus]
  simp only [Option.bind_some]
  rw [if_neg (by omega)]
  have hb := tmod_bounds (a := x) (p := md f) (by omega)
  rw [w64 (by omega) (by omega), ← tmod_fix (a := x) (p := md f) (by omega)]
  by_cases c : Int.tmod x (md f) < 0
  · rw [if_pos c, if_pos c]
  · rw [if_neg c, if_neg c]
theorem ev_Reduce_bad {f : Int} (h : ¬ (0 ≤ f ∧ f < 9)) (x : Int) : spec_Reduce.f f x = some (-1) := by
  unfold spec_Reduce.f
  rw [ev_Modulus]
  simp only [Option.bind_some]
  rw [if_pos (md_bad h)]

theorem ev_PowerL {p : Int} (hp : Pm p) : ∀ (e : Nat) {a : Int}, (0 ≤ a ∧ a < p) → e < 4611686018427387904 → Ev (fun k => spec_Power.j0 k p a (e : Int)) (a ^ e % p) := by
  have hpp := hp
  unfold Pm at hpp
  have key : ∀ (n e : Nat), e ≤ n → e < 4611686018427387904 → ∀ a out : Int, (0 ≤ a ∧ a < p) → (0 ≤ out ∧ out < p) → Ev (fun k => spec_Power.l0 k p a (e : Int) out) (out * a ^ e % p) := by
    intro n
    induction n with
    | zero =>
      intro e he _ a out ha ho
      obtain rfl : e = 0 := by omega
      refine ev_s ?_
      have h1 : ¬ (((0 : Nat) : Int) > 0) := by omega
      simp only [spec_Power.l0, h1, if_false]
      rw [Int.pow_zero, Int.mul_one, em_id ho.1 ho.2]
      exact Ev.now _
    | succ n ih =>
      intro e he hb a out ha ho
      by_cases h0 : e = 0
      · subst h0
        exact ih 0 (by omega) hb a out ha ho
      · refine ev_s ?_
        have h1 : (e : Int) > 0 := by omega
        have h2 : Int.tmod (e : Int) 2 = ((e % 2 : Nat) : Int) := by rw [tmod_nn (by omega)]; omega
        have h3 : wrap64 (Int.tdiv (e : Int) 2) = ((e / 2 : Nat) : Int) := by
          rw [Int.tdiv_eq_ediv_of_nonneg (by omega), w64 (by omega) (by omega)]; omega
        have haa := em_lt (a := a * a) hp.pos
        have hp0 : ¬ (p = 0) := by omega
        have b1 := mul_lt_big ha.1 ha.2 ha.1 ha.2 hpp.2
        have b2 := mul_lt_big ho.1 ho.2 ha.1 ha.2 hpp.2
        simp only [spec_Power.l0, h1, if_true, h2, h3, hp0, if_false, w64 (x := a * a) (by omega) (by omega), w64 (x := out * a) (by omega) (by omega), tmod_nn b1.1, tmod_nn b2.1]
        by_cases c : e % 2 = 1
        · have hoa := em_lt (a := out * a) hp.pos
          simp only [c, Int.natCast_one, if_true]
          refine ev_to (ih (e / 2) (by omega) (by omega) (a * a % p) (out * a % p) haa hoa) ?_
          have e1 : (out * a % p) * (a * a % p) ^ (e / 2) % p = (out * a) * (a * a) ^ (e / 2) % p := emul (Int.emod_emod _ _) (epow_l _)
          rw [e1, ipow2, Int.mul_assoc, ← Int.pow_succ']
          congr 3; omega
        · have c0 : e % 2 = 0 := by omega
          simp only [c0, show ¬ (((0 : Nat) : Int) = 1) from by omega, if_false]
          refine ev_to (ih (e / 2) (by omega) (by omega) (a * a % p) out haa ho) ?_
          have e1 : out * (a * a % p) ^ (e / 2) % p = out * (a * a) ^ (e / 2) % p := emul rfl (epow_l _)
          rw [e1, ipow2]
          congr 3; omega
  intro e a ha he
  refine ev_s ?_
  simp only [spec_Power.j0]
  refine ev_to (key e e (Nat.le_refl _) he a 1 ha (by omega)) ?_
  rw [Int.one_mul]
theorem ev_Power {f : Int} (h : 0 ≤ f ∧ f < 9) {x : Int} (hx : x % md f ≠ 0) (e : Int) : Ev (fun k => spec_Power.f k f x e) ((x % md f) ^ (e % (md f - 1)).toNat % md f) := by
  have hp := pm_of h
  have hpp := hp
  unfold Pm at hpp
  have hxe := em_lt (a := x) hp.pos
  have hb := tmod_bounds (a := e) (p := md f - 1) (by omega)
  have hm := em_lt (a := e) (p := md f - 1) (by omega)
  have hfix := tmod_fix (a := e) (p := md f - 1) (by omega)
  unfold spec_Power.f
  simp only [ev_Modulus, Option.bind_some, ev_Reduce h, hx, if_false, w64 (x := md f - 1) (by omega) (by omega), show ¬ (md f = 0) from by omega, show ¬ (md f - 1 = 0) from by omega]
  have hcast : e % (md f - 1) = (((e % (md f - 1)).toNat : Nat) : Int) := by omega
  by_cases c : Int.tmod e (md f - 1) < 0
  · rw [if_pos c] at hfix
    simp only [c, if_true, w64 (x := Int.tmod e (md f - 1) + md f) (by omega) (by omega), w64 (x := Int.tmod e (md f - 1) + md f - 1) (by omega) (by omega)]
    rw [show Int.tmod e (md f - 1) + md f - 1 = (((e % (md f - 1)).toNat : Nat) : Int) by omega]
    exact ev_PowerL hp _ hxe (by omega)
  · rw [if_neg c] at hfix
    simp only [c, if_false]
    rw [show Int.tmod e (md f - 1) = (((e % (md f - 1)).toNat : Nat) : Int) by omega]
    exact ev_PowerL hp _ hxe (by omega)
theorem ev_Power0 {f : Int} (h : 0 ≤ f ∧ f < 9) {x : Int} (hx : x % md f = 0) (e : Int) : Ev (fun k => spec_Power.f k f x e) (if e = 0 then 1 else if e < 0 then -1 else 0) := by
  have hp := pm_of h
  unfold Pm at hp
  unfold spec_Power.f
  simp only [ev_Modulus, Option.bind_some, ev_Reduce h, hx, if_true, show ¬ (md f = 0) from by omega, if_false]
  by_cases c : e = 0
  · simp only [c, if_true]; exact Ev.now _
  · by_cases c2 : e < 0
    · simp only [c, c2, if_true, if_false]; exact Ev.now _
    · simp only [c, c2, if_false]; exact Ev.now _

theorem ev_PowerN {f : Int} (h : 0 ≤ f ∧ f < 9) {x : Int} (hx : 0 ≤ x ∧ x < md f) (e : Nat) : Ev (fun k => spec_Power.f k f x (e : Int)) (x ^ e % md f) := by
  have hp := pm_of h
  unfold Pm at hp
  by_cases c : x % md f = 0
  · refine ev_to (ev_Power0 h c (e : Int)) ?_
    rw [em_id hx.1 hx.2] at c
    subst c
    by_cases he : e = 0
    · subst he; rw [if_pos (show ((0 : Nat) : Int) = 0 from rfl), Int.pow_zero, em_id (by omega) (by omega)]
    · rw [if_neg (by omega), if_neg (by omega)]
      obtain ⟨q, rfl⟩ : ∃ q, e = q + 1 := ⟨e - 1, by omega⟩
      rw [Int.pow_succ, Int.mul_zero, Int.zero_emod]
  · refine ev_to (ev_Power h c (e : Int)) ?_
    have e1 : ((e : Int) % (md f - 1)).toNat = e % (md f - 1).toNat := by
      have : (md f - 1) = (((md f - 1).toNat : Nat) : Int) := by omega
      rw [this, ← Int.natCast_emod, Int.toNat_natCast, Int.toNat_natCast]
    rw [e1, epow_l, pow_red h c]

theorem ev_RootOf {f : Int} (hf : 0 ≤ f ∧ f < 9) {k : Nat} (hk : (k : Int) ≤ tp f) : Ev (fun q => spec_RootOf.f q f (k : Int)) (rtf f k) := by
  have hp := pm_of hf
  unfold Pm at hp
  have ht := (isF hf.1 hf.2).bounds
  have hg : 0 ≤ gn f ∧ gn f < md f := by
    rcases fcases hf.1 hf.2 with e | e | e | e | e | e | e | e | e <;> subst e <;> decide
  unfold spec_RootOf.f
  have g1 : ¬ (md f = 0) := by omega
  simp only [ev_Modulus, Option.bind_some, g1, if_false]
  refine Ev.bind (ev_TwoPower f) ?_
  simp only [ev_l01In, Option.bind_some, show decide ((0 : Int) ≤ (k : Int)) = true from decide_eq_true (by omega), show decide ((k : Int) ≤ tp f) = true from decide_eq_true hk, Bool.and_self, Bool.not_true]
  refine ev_s ?_
  simp only [spec_RootOf.j0, Bool.false_eq_true, if_false]
  refine Ev.bind (ev_Generator hf) ?_
  have g2 : (0 : Int) ≤ (k : Int) := by omega
  simp only [ev_Modulus, Option.bind_some, u64_id (x := (k : Int)) (by omega) (by omega), g2, if_true, eK_shr hf hk]
  refine Ev.bind (ev_PowerN hf hg (eK f k)) ?_
  exact Ev.now _

theorem ev_Mul {f : Int} (h : 0 ≤ f ∧ f < 9) (x y : Int) : spec_Mul.f f x y = some ((x * y) % md f) := by
  have hp := pm_of h
  have hb := hp
  unfold Pm at hp
  have hx := em_lt (a := x) (p := md f) (by omega)
  have hy := em_lt (a := y) (p := md f) (by omega)
  have hxy := mul_lt_big hx.1 hx.2 hy.1 hy.2 hp.2
  unfold spec_Mul.f
  rw [ev_Modulus]
  simp only [Option.bind_some, ev_Reduce h]
  rw [if_neg (by omega), w64 (by omega) (by omega), emul_l, emul_r]

theorem dr_Rotate (L : List Int) (hL : L.length ≤ 140737488351232) : ∃ f v r, Ev (fun k => spec_DrawRotate.f k L) (f, v, r) ∧ v.length ≤ 1048576 := by
  obtain ⟨f, v, e1, hl⟩ := dr_One L hL
  obtain ⟨h, hn⟩ := dr_New L hL
  obtain ⟨x, i1, h1, e2, hi1, _⟩ := dr_Below L hL 0 h 600 (by omega)
  obtain ⟨y, i2, h2, e3, hi2, _⟩ := dr_Below L hL i1 h1 600 hi1
  obtain ⟨z, i3, h3, e4, hi3, _⟩ := dr_Pick L hL i2 h2 ([0, 1, (-1), x, wrap64 (-y), 9223372036854775807, (-9223372036854775808)] : List Int) (by simp) hi2
  refine ⟨f, v, z, ?_, hl⟩
  unfold spec_DrawRotate.f
  refine Ev.bind e1 ?_
  refine Ev.bind hn ?_
  simp only [e2, e3, e4, Option.bind_some]
  exact Ev.now _
def rotS (R : Nat) (a : List Int) : List Int := (List.range a.length).map (fun c => rd a (((c + (a.length - R)) % a.length : Nat) : Int))
theorem rotS_len (R : Nat) (a : List Int) : (rotS R a).length = a.length := by simp [rotS]
theorem rotS_rd {R : Nat} {a : List Int} {c : Nat} (h : c < a.length) : rd (rotS R a) (c : Int) = rd a (((c + (a.length - R)) % a.length : Nat) : Int) := by unfold rotS; rw [rd_map _ h]
theorem rotS_ok {f : Int} {a : List Int} (ha : VecOk f a) (R : Nat) : VecOk f (rotS R a) := by
  have hp := ha.pm
  obtain ⟨hf, ⟨k, h1, h2, h3⟩, he⟩ := ha
  exact ⟨hf, ⟨k, h1, h2, by rw [rotS_len]; exact h3⟩, El.map (fun i _ => he.rd hp.pos _)⟩
theorem rot_back {n R i : Nat} (hR : R < n) (hi : i < n) : ((i + R) % n + (n - R)) % n = i := by
  rw [Nat.mod_add_mod, show i + R + (n - R) = i + n by omega, Nat.add_mod_right, Nat.mod_eq_of_lt hi]
theorem ev_Rotate {f : Int} {a : List Int} (h : VecOk f a) {r : Int} (hr : -1099511627776 ≤ r ∧ r ≤ 1099511627776) : Ev (fun k => impl_Rotate.f k f a r) (rotS (r % (a.length : Int)).toNat a) := by
  have hn := h.len
  obtain ⟨R, hR⟩ : ∃ R : Nat, R = (r % (a.length : Int)).toNat := ⟨_, rfl⟩
  have hm := em_lt (a := r) (p := (a.length : Int)) (by omega)
  have hR2 : r % (a.length : Int) = (R : Int) := by omega
  have hRl : R < a.length := by omega
  rw [← hR]
  have hidx : ∀ i : Nat, i < a.length → Int.tmod (wrap64 (wrap64 ((i : Int) + Int.tmod r (a.length : Int)) + (a.length : Int))) (a.length : Int) = (((i + R) % a.length : Nat) : Int) := fun i hi => by
    have hb := tmod_bounds (a := r) (p := (a.length : Int)) (by omega)
    have ht := tmod_add_emod (a := r) (p := (a.length : Int)) (by omega)
    rw [hR2] at ht
    generalize Int.tmod r (a.length : Int) = t at *
    rw [w64 (x := (i : Int) + t) (by omega) (by omega), w64 (by omega) (by omega), tmod_nn (by omega), Int.natCast_emod, Int.natCast_add, ← ht, eadd_r]
    congr 1; omega
  clear hR hR2 hm
  have key : ∀ (d i : Nat) (out : List Int), i + d = a.length → out.length = a.length → (∀ j : Nat, j < i → rd out (((j + R) % a.length : Nat) : Int) = rd a (j : Int)) → Ev (fun k => impl_Rotate.l0 k r (a.length : Int) out a (a.length : Int) (i : Int)) (rotS R a) := by
    intro d
    induction d with
    | zero =>
      intro i out hi ho hx
      refine ev_s ?_
      have g1 : ¬ ((i : Int) < (a.length : Int)) := by omega
      simp only [impl_Rotate.l0, g1, if_false]
      have e : out = rotS R a := set_map_rd ho (fun c hc => by
        have hml := Nat.mod_lt (c + (a.length - R)) (show 0 < a.length by omega)
        have := hx ((c + (a.length - R)) % a.length) (by omega)
        rw [Nat.mod_add_mod, show c + (a.length - R) + R = c + a.length by omega, Nat.add_mod_right, Nat.mod_eq_of_lt hc] at this
        exact this)
      rw [e]; exact Ev.now _
    | succ d ih =>
      intro i out hi ho hx
      refine ev_s ?_
      have hil : i < a.length := by omega
      have g1 : (i : Int) < (a.length : Int) := by omega
      have g2 : (0 : Int) ≤ (i : Int) := by omega
      have g3 : ¬ ((a.length : Int) = 0) := by omega
      have hml := Nat.mod_lt (i + R) (show 0 < a.length by omega)
      have g4 : (0 : Int) ≤ (((i + R) % a.length : Nat) : Int) := by omega
      have g5 : (((i + R) % a.length : Nat) : Int) < (out.length : Int) := by omega
      simp only [impl_Rotate.l0, g1, g2, g3, hidx i hil, g4, g5, if_true, if_false, w_succ (n := i) (by omega), Int.toNat_natCast]
      refine ih (i + 1) _ (by omega) (by rw [List.length_set]; exact ho) (fun j hj => ?_)
      by_cases c : (i + R) % a.length = (j + R) % a.length
      · rw [← c, rd_set_eq (by omega)]
        have e1 := rot_back hRl hil
        rw [c, rot_back hRl (show j < a.length by omega)] at e1
        rw [e1]
      · rw [rd_set_ne c]
        refine hx j ?_
        by_cases c2 : j = i
        · subst c2; exact absurd rfl c
        · omega
  unfold impl_Rotate.f
  refine Ev.bind (ev_vectorField1 h) ?_
  have g2 : (0 : Int) ≤ (a.length : Int) := by omega
  simp only [if_true, g2, Int.toNat_natCast, show a.length ≤ 35184372088832 from by omega]
  exact key a.length 0 _ (by omega) (by simp) (fun j hj => by omega)
theorem rot_dft {p w : Int} {a : List Int} {R c : Nat} (hw : w ^ a.length % p = 1 % p) (hn : 0 < a.length) (hR : R < a.length) : dft w a.length (rotS R a) c % p = dft w a.length a c * w ^ (c * R) % p := by
  unfold dft
  rw [← sm_mul_r, ← sm_turn hn (a.length - R) (fun i => rd a (i : Int) * w ^ (c * i) * w ^ (c * R))]
  refine sm_econgr (fun j hj => ?_)
  rw [rotS_rd hj, Int.mul_assoc]
  refine emul rfl ?_
  rw [← ipow_add, ← Nat.mul_add, ← root_mod hw, ← root_mod hw (c * ((j + (a.length - R)) % a.length + R))]
  congr 2
  refine nmul rfl ?_
  rw [Nat.mod_add_mod, show j + (a.length - R) + R = j + a.length by omega, Nat.add_mod_right]
theorem FnRotate : laws_FnRotate.Pure := by
  intro L hm h8 hw
  refine Ev.rounds ?_
  unfold laws_FnRotate.f laws_big.f
  simp only [Option.bind_some]
  by_cases hbig : (L.length : Int) > 1048576
  · simp only [decide_eq_true hbig, if_true]; exact Ev.now _
  simp only [decide_eq_false hbig, Bool.false_eq_true, if_false]
  obtain ⟨f, v, r, hd, hvl⟩ := dr_Rotate L (by omega)
  have out : Ev (fun k => laws_FnRotate.j0 k f v r true) true := by
    refine ev_s ?_
    simp only [laws_FnRotate.j0, if_true]; exact Ev.now _
  refine Ev.bind hd ?_
  by_cases h : VecOk f v
  · refine Ev.bind (ev_VectorOk h) ?_
    simp only [if_true]
    by_cases c1 : r > 1099511627776
    · simp only [c1, if_true]; exact out
    by_cases c2 : r < -1099511627776
    · simp only [c1, if_false, decide_eq_true c2]; exact out
    simp only [c1, if_false, decide_eq_false c2]
    clear out
    have hf := h.1
    have hp := h.pm
    have hn := h.len
    obtain ⟨k, hk, ht, hl⟩ := h.2.1
    have hlg : lg (v.length : Int) = (k : Int) := by rw [hl, lg_pow hk]
    have hroot := (rtf_root hf ht).1
    rw [← hl] at hroot
    have hmm := em_lt (a := r) (p := (v.length : Int)) (by omega)
    obtain ⟨R, hR⟩ : ∃ R : Nat, R = (r % (v.length : Int)).toNat := ⟨_, rfl⟩
    have hRl : R < v.length := by clear hl; omega
    have hR2 : r % (v.length : Int) = (R : Int) := by clear hl; omega
    have hw0 : rtf f k % md f ≠ 0 := by
      intro c
      have h1 : rtf f k ^ v.length % md f = 0 := by
        rw [epow _ (show rtf f k % md f = 0 % md f by rw [c, Int.zero_emod])]
        obtain ⟨m, hm⟩ : ∃ m, v.length = m + 1 := ⟨v.length - 1, by clear hl; omega⟩
        rw [hm, Int.pow_succ, Int.mul_zero, Int.zero_emod]
      have hpp := hp
      unfold Pm at hpp
      rw [h1, em_id (by clear hl; omega) (by clear hl; omega)] at hroot
      exact absurd hroot (by decide)
    have hdv : ∃ q : Int, md f - 1 = (v.length : Int) * q := by
      obtain ⟨o1, o2, o3, o4, o5⟩ := oddP_spec hf
      refine ⟨oddP f * ((2 ^ ((tp f).toNat - k) : Nat) : Int), ?_⟩
      have e2 : (2 ^ (tp f).toNat : Nat) = 2 ^ k * 2 ^ ((tp f).toNat - k) := by rw [← Nat.pow_add, show k + ((tp f).toNat - k) = (tp f).toNat by clear hl hroot; omega]
      rw [o1, e2, hl, Int.natCast_mul, Int.mul_left_comm]
    refine ev_s ?_
    simp only [laws_FnRotate.j0, Bool.false_eq_true, if_false]
    refine Ev.bind (ev_cp v hvl) ?_
    refine Ev.bind (ev_Rotate h (by clear hl; omega)) ?_
    rw [← hR]
    refine Ev.bind (ev_iForward (rotS_ok h R)) ?_
    refine Ev.bind (ev_cp v hvl) ?_
    refine Ev.bind (ev_iForward h) ?_
    have g1 : ((fwS f (rotS R v)).length : Int) = (v.length : Int) := by rw [fwS_len, rotS_len]
    have g2 : (((fwS f v).length : Int) != (v.length : Int)) = false := by rw [fwS_len, bne_self_eq_false]
    simp only [g1, g2, if_true]
    refine ev_s ?_
    simp only [laws_FnRotate.j1, Bool.false_eq_true, if_false]
    refine Ev.bind (ev_LogOf _) ?_
    rw [hlg]
    refine Ev.bind (ev_RootOf hf ht) ?_
    have e1 := fwS_eq (f := f) hk hl
    have e2 := fwS_eq (f := f) (a := rotS R v) hk (by rw [rotS_len]; exact hl)
    rw [e1, e2]
    have hwl := rtf_lt hf k
    clear hl hlg e1 e2 g1 g2 hR hmm
    generalize rtf f k = w at *
    have key : ∀ (d i : Nat), i + d = v.length → Ev (fun q => laws_FnRotate.l0 q f v r (dftS (md f) w (rotS R v)) (dftS (md f) w v) w (i : Int)) true := by
      intro d
      induction d with
      | zero =>
        intro i hi
        refine ev_s ?_
        have g1 : ¬ ((i : Int) < (v.length : Int)) := by omega
        simp only [laws_FnRotate.l0, g1, if_false]; exact Ev.now _
      | succ d ih =>
        intro i hi
        have hil : i < v.length := by omega
        have g1 : (i : Int) < (v.length : Int) := by omega
        have g2 : (0 : Int) ≤ (i : Int) := by omega
        have g3 : (i : Int) < ((dftS (md f) w (rotS R v)).length : Int) := by rw [dftS_len, rotS_len]; exact g1
        have g4 : (i : Int) < ((dftS (md f) w v).length : Int) := by rw [dftS_len]; exact g1
        have hmul : -562949953421312 ≤ (i : Int) * r ∧ (i : Int) * r ≤ 562949953421312 := by
          have h1 : (i : Int) * r ≤ (i : Int) * 1099511627776 := Int.mul_le_mul_of_nonneg_left (by omega) g2
          have h2 : (i : Int) * (-1099511627776) ≤ (i : Int) * r := Int.mul_le_mul_of_nonneg_left (by omega) g2
          clear hdv
          generalize (i : Int) * r = z at *
          omega
        have hs := ih (i + 1) (by omega)
        have hexp : w ^ ((i : Int) * r % (md f - 1)).toNat % md f = w ^ (i * R) % md f := by
          rw [← root_mod hroot, ← root_mod hroot (i * R)]
          congr 2
          have hq0 : (0 : Int) ≤ (i : Int) * r % (md f - 1) := by
            have hpp := hp
            unfold Pm at hpp
            exact Int.emod_nonneg _ (by omega)
          have e3 : (((((i : Int) * r % (md f - 1)).toNat % v.length : Nat)) : Int) = ((i * R % v.length : Nat) : Int) := by
            rw [Int.natCast_emod, Int.toNat_of_nonneg hq0, Int.natCast_emod, Int.natCast_mul, ← hR2, emul_r]
            obtain ⟨q, hq⟩ := hdv
            exact Int.emod_emod_of_dvd _ ⟨q, hq⟩
          exact Int.ofNat.inj e3
        refine ev_s ?_
        have hi9 : i < 9223372036854775807 := by omega
        simp only [laws_FnRotate.l0, g1, g2, g3, g4, if_true, w64 (x := (i : Int) * r) (by omega) (by omega)]
        refine Ev.bind (ev_Power hf hw0 _) ?_
        rw [em_id hwl.1 hwl.2, hexp]
        have e5 : rd (dftS (md f) w (rotS R v)) (i : Int) = rd (dftS (md f) w v) (i : Int) * (w ^ (i * R) % md f) % md f := by
          rw [dftS_rd (by rw [rotS_len]; exact hil), dftS_rd hil, rotS_len, rot_dft hroot (by omega) hRl, emul_l, emul_r]
        simp only [ev_Mul hf, Option.bind_some, ← e5, if_true, w_succ (n := i) hi9]
        exact hs
    exact key v.length 0 (by omega)
  · refine Ev.bind (ev_VectorOk_bad h) ?_
    simp only [Bool.false_eq_true, if_false]; exact out

end Go.Proofs.Ytfjoaloakfjgaaa.Pure
