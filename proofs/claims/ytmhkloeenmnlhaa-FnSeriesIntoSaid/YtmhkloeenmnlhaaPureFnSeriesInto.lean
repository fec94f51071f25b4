/- FnSeriesInto returns true for every input: substituting into a product gives the product of the substitutions. -/
import Derived.Test.YtmhkloeenmnlhaaPFnSeriesIntox6
import Derived.Test.YtmhkloeenmnlhaaGB
import Derived.Test.YtmhkloeenmnlhaaGK
import Derived.Test.YtmhkloeenmnlhaaGQ
set_option linter.unusedVariables false
set_option linter.unusedSimpArgs false
namespace Go.Proofs.Ytmhkloeenmnlhaa.Pure
open Go.RowKit Go.Proofs.Ytmhkloeenmnlhaa.PFnSeriesInto Go.Proofs.YtmhkloeenmnlhaaW.PrintWords Go.Proofs.YtmhkloeenmnlhaaW.PrintLast Go.Proofs.YtmhkloeenmnlhaaW.PrintMore G7
theorem dr_New (L : List Int) (hL : L.length ≤ 140737488351232) : ∃ h, Ev (fun k => spec_l01New.f k L) (L, 0, h) := by
  have key : ∀ (d i : Nat) (x : Int), i + d = 4000 → ∃ h, Ev (fun k => spec_l01New.l0 k L x (i : Int)) (L, 0, h) := by
    intro d
    induction d with
    | zero =>
      intro i x hi
      refine ⟨x, ev_s ?_⟩
      have h2 : ¬ ((i : Int) < 4000) := by omega
      by_cases h1 : (i : Int) < (L.length : Int)
      · simp only [spec_l01New.l0, h1, h2, if_true, if_false]; exact Ev.now _
      · simp only [spec_l01New.l0, h1, if_false]; exact Ev.now _
    | succ d ih =>
      intro i x hi
      have h2 : (i : Int) < 4000 := by omega
      have h3 : (0 : Int) ≤ (i : Int) := by omega
      by_cases h1 : (i : Int) < (L.length : Int)
      · obtain ⟨h, hh⟩ := ih (i + 1) (Go.bits .and .i64 (wrap64 ((wrap64 ((wrap64 (x * 149)) + (wrap64 (rd L (i : Int))))) + 11)) 1073741823) (by omega)
        refine ⟨h, ev_s ?_⟩
        simp only [spec_l01New.l0, h1, h2, h3, if_true, w_succ (n := i) (by omega)]
        exact hh
      · refine ⟨x, ev_s ?_⟩
        simp only [spec_l01New.l0, h1, if_false]; exact Ev.now _
  unfold spec_l01New.f
  exact key 4000 0 _ (by omega)

theorem dr_Byte (L : List Int) (hL : L.length ≤ 140737488351232) (i h : Int) (hi : 0 ≤ i) : ∃ x i' h', spec_l01Byte.f L i h = some (x, i', h') ∧ 0 ≤ i' ∧ 0 ≤ x ∧ x ≤ 255 := by
  unfold spec_l01Byte.f
  simp only [i64_and255]
  by_cases c : i < (L.length : Int)
  · rw [if_pos c, if_pos hi]
    exact ⟨_, _, _, rfl, by rw [w64 (by omega) (by omega)]; omega, by omega, by omega⟩
  · rw [if_neg c]
    exact ⟨_, _, _, rfl, hi, by omega, by omega⟩

theorem dr_Below (L : List Int) (hL : L.length ≤ 140737488351232) (i h n : Int) (hi : 0 ≤ i) : ∃ x i' h', spec_l01Below.f L i h n = some (x, i', h') ∧ 0 ≤ i' ∧ 0 ≤ x ∧ (0 < n → x < n) := by
  unfold spec_l01Below.f
  by_cases c : n ≤ 0
  · rw [if_pos c]
    exact ⟨_, _, _, rfl, hi, by omega, by omega⟩
  · rw [if_neg c]
    by_cases c2 : n ≤ 256
    · rw [if_pos c2]
      obtain ⟨x, i1, h1, e1, hi1, hx0, hx1⟩ := dr_Byte L hL i h hi
      simp only [e1, Option.bind_some]
      rw [if_neg (by omega), tmod_nn hx0]
      exact ⟨_, _, _, rfl, hi1, (em_lt (by omega)).1, fun _ => (em_lt (by omega)).2⟩
    · rw [if_neg c2]
      obtain ⟨x, i1, h1, e1, hi1, hx0, hx1⟩ := dr_Byte L hL i h hi
      obtain ⟨y, i2, h2, e2, hi2, hy0, hy1⟩ := dr_Byte L hL i1 h1 hi1
      obtain ⟨z, i3, h3, e3, hi3, hz0, hz1⟩ := dr_Byte L hL i2 h2 hi2
      simp only [e1, e2, e3, Option.bind_some]
      rw [if_neg (by omega), w64 (x := x * 65536) (by omega) (by omega), w64 (x := y * 256) (by omega) (by omega), w64 (x := x * 65536 + y * 256) (by omega) (by omega), w64 (by omega) (by omega), tmod_nn (by omega)]
      exact ⟨_, _, _, rfl, hi3, (em_lt (by omega)).1, fun _ => (em_lt (by omega)).2⟩

theorem dr_Once (L : List Int) (hL : L.length ≤ 140737488351232) (i h n : Int) (hi : 0 ≤ i) : ∃ b i' h', spec_l01Once.f L i h n = some (b, i', h') ∧ 0 ≤ i' := by
  unfold spec_l01Once.f
  obtain ⟨x, i1, h1, e1, hi1, hx0, hx1⟩ := dr_Below L hL i h n hi
  simp only [e1, Option.bind_some]
  exact ⟨_, _, _, rfl, hi1⟩

theorem dr_Pick (L : List Int) (hL : L.length ≤ 140737488351232) (i h : Int) (l : List Int) (hl : 0 < l.length) (hi : 0 ≤ i) : ∃ x i' h', spec_l01PickInt.f L i h l = some (x, i', h') ∧ 0 ≤ i' ∧ x ∈ l := by
  unfold spec_l01PickInt.f
  obtain ⟨x, i1, h1, e1, hi1, hx0, hx1⟩ := dr_Below L hL i h (l.length : Int) hi
  have hx2 := hx1 (by omega)
  simp only [e1, Option.bind_some]
  rw [if_pos hx0, if_pos hx2]
  refine ⟨_, _, _, rfl, hi1, ?_⟩
  obtain ⟨n, rfl⟩ : ∃ n : Nat, x = n := ⟨x.toNat, by omega⟩
  rw [rd_at (by omega)]
  exact List.getElem_mem _

theorem dr_Field (L : List Int) (hL : L.length ≤ 140737488351232) (i h : Int) (hi : 0 ≤ i) : ∃ x i' h', spec_l01DrawField.f L i h = some (x, i', h') ∧ 0 ≤ i' ∧ -1 ≤ x ∧ x ≤ 100 := by
  unfold spec_l01DrawField.f
  obtain ⟨b, i1, h1, e1, hi1⟩ := dr_Once L hL i h 20 hi
  simp only [e1, Option.bind_some]
  cases b with
  | true =>
    obtain ⟨x, i2, h2, e2, hi2, hx⟩ := dr_Pick L hL i1 h1 ([-1, 9, 100] : List Int) (by decide) hi1
    simp only [e2, Option.bind_some, if_true]
    simp only [List.mem_cons, List.mem_nil_iff, or_false] at hx
    exact ⟨_, _, _, rfl, hi2, by omega, by omega⟩
  | false =>
    obtain ⟨x, i2, h2, e2, hi2, hx0, hx1⟩ := dr_Below L hL i1 h1 9 hi1
    have := hx1 (by omega)
    simp only [e2, Option.bind_some, Bool.false_eq_true, if_false]
    exact ⟨_, _, _, rfl, hi2, by omega, by omega⟩

theorem dr_Length (L l2 : List Int) (hL : L.length ≤ 140737488351232) (hl2 : l2.length ≤ 140737488351232) (i h f : Int) (hi : 0 ≤ i) : ∃ n i' h', Ev (fun k => spec_l06DrawLength.f k L i h f l2) (n, i', h') ∧ 0 ≤ n ∧ n ≤ 100 ∧ 0 ≤ i' := by
  have j1 : ∀ x i h : Int, 0 ≤ x → x ≤ 100 → 0 ≤ i → ∃ n i' h', Ev (fun k => spec_l06DrawLength.j1 k x L i h) (n, i', h') ∧ 0 ≤ n ∧ n ≤ 100 ∧ 0 ≤ i' := by
    intro x i h h0 h1 hi
    obtain ⟨b, i1, h1, e1, hi1⟩ := dr_Once L hL i h 20 hi
    cases b with
    | true =>
      obtain ⟨y, i2, h2, e2, hi2, hy⟩ := dr_Pick L hL i1 h1 ([0, 1, 17, 18, 64, 65] : List Int) (by decide) hi1
      simp only [List.mem_cons, List.mem_nil_iff, or_false] at hy
      refine ⟨y, i2, h2, ev_s ?_, by omega, by omega, hi2⟩
      simp only [spec_l06DrawLength.j1, e1, e2, Option.bind_some, if_true]; exact Ev.now _
    | false =>
      refine ⟨x, i1, h1, ev_s ?_, by omega, by omega, hi1⟩
      simp only [spec_l06DrawLength.j1, e1, Option.bind_some, Bool.false_eq_true, if_false]; exact Ev.now _
  have j0 : ∀ (x : Int) (b : Bool) (i h : Int), 0 ≤ x → x ≤ 100 → 0 ≤ i → ∃ n i' h', Ev (fun k => spec_l06DrawLength.j0 k x b L i h) (n, i', h') ∧ 0 ≤ n ∧ n ≤ 100 ∧ 0 ≤ i' := by
    intro x b i h h0 h1 hi
    cases b with
    | true =>
      obtain ⟨n, i', h', e, r⟩ := j1 17 i h (by omega) (by omega) hi
      refine ⟨n, i', h', ev_s ?_, r⟩
      simp only [spec_l06DrawLength.j0, if_true]; exact e
    | false =>
      obtain ⟨n, i', h', e, r⟩ := j1 x i h h0 h1 hi
      refine ⟨n, i', h', ev_s ?_, r⟩
      simp only [spec_l06DrawLength.j0, Bool.false_eq_true, if_false]; exact e
  have hs : ∃ s, spec_l01Size.f l2 40 = some s ∧ s ≤ 40 := by
    unfold spec_l01Size.f
    rw [w64 (x := (l2.length : Int) / 16) (by omega) (by omega), w64 (by omega) (by omega)]
    by_cases c : 2 + (l2.length : Int) / 16 > 40
    · rw [if_pos c]; exact ⟨_, rfl, by omega⟩
    · rw [if_neg c]; exact ⟨_, rfl, by omega⟩
  obtain ⟨s, es, hs⟩ := hs
  unfold spec_l06DrawLength.f
  obtain ⟨x, i1, h1, e1, hi1, hx0, hx1⟩ := dr_Below L hL i h s hi
  have hx2 : x ≤ 40 := by
    by_cases c : 0 < s
    · have := hx1 c; omega
    · have e0 : spec_l01Below.f L i h s = some (0, i, h) := by unfold spec_l01Below.f; rw [if_pos (by omega)]
      rw [e0] at e1
      injection e1 with e1
      injection e1 with e1 _
      omega
  simp only [es, e1, Option.bind_some, w64 (x := 1 + x) (by omega) (by omega)]
  by_cases c : f = 0
  · obtain ⟨b, i2, h2, e2, hi2⟩ := dr_Once L hL i1 h1 6 hi1
    simp only [c, e2, Option.bind_some, if_true]
    cases b with
    | true => simp only [if_true]; exact j0 _ _ _ _ (by omega) (by omega) hi2
    | false => simp only [Bool.false_eq_true, if_false]; exact j0 _ _ _ _ (by omega) (by omega) hi2
  · simp only [c, if_false]; exact j0 _ _ _ _ (by omega) (by omega) hi1

theorem ev_Modulus (f : Int) : spec_Modulus.f f = some (md f) := by
  unfold spec_Modulus.f md
  by_cases h0 : f = 0
  · rw [if_pos h0, if_pos h0]
  rw [if_neg h0, if_neg h0]
  by_cases h1 : f = 1
  · rw [if_pos h1, if_pos h1]
  rw [if_neg h1, if_neg h1]
  by_cases h2 : f = 2
  · rw [if_pos h2, if_pos h2]
  rw [if_neg h2, if_neg h2]
  by_cases h3 : f = 3
  · rw [if_pos h3, if_pos h3]
  rw [if_neg h3, if_neg h3]
  by_cases h4 : f = 4
  · rw [if_pos h4, if_pos h4]
  rw [if_neg h4, if_neg h4]
  by_cases h5 : f = 5
  · rw [if_pos h5, if_pos h5]
  rw [if_neg h5, if_neg h5]
  by_cases h6 : f = 6
  · rw [if_pos h6, if_pos h6]
  rw [if_neg h6, if_neg h6]
  by_cases h7 : f = 7
  · rw [if_pos h7, if_pos h7]
  rw [if_neg h7, if_neg h7]
  by_cases h8 : f = 8
  · rw [if_pos h8, if_pos h8]
  rw [if_neg h8, if_neg h8]

theorem dr_Element (L : List Int) (hL : L.length ≤ 140737488351232) (i h f : Int) (hi : 0 ≤ i) : ∃ x i' h', spec_l01DrawElement.f L i h f = some (x, i', h') ∧ 0 ≤ i' := by
  unfold spec_l01DrawElement.f
  simp only [ev_Modulus, Option.bind_some]
  by_cases c : md f = 0
  · obtain ⟨x, i1, h1, e1, hi1, _⟩ := dr_Below L hL i h 50 hi
    simp only [c, e1, Option.bind_some, if_true]
    exact ⟨_, _, _, rfl, hi1⟩
  · obtain ⟨x, i1, h1, e1, hi1, _⟩ := dr_Below L hL i h 6 hi
    simp only [c, e1, Option.bind_some, if_false]
    by_cases c0 : x = 0
    · obtain ⟨y, i2, h2, e2, hi2, _⟩ := dr_Below L hL i1 h1 3 hi1
      simp only [c0, e2, Option.bind_some, if_true]
      exact ⟨_, _, _, rfl, hi2⟩
    by_cases c1 : x = 1
    · obtain ⟨y, i2, h2, e2, hi2, _⟩ := dr_Below L hL i1 h1 3 hi1
      simp only [c0, c1, e2, Option.bind_some, if_true, if_false]
      exact ⟨_, _, _, rfl, hi2⟩
    by_cases c2 : x = 2
    · obtain ⟨y, i2, h2, e2, hi2, _⟩ := dr_Below L hL i1 h1 16777216 hi1
      obtain ⟨z, i3, h3, e3, hi3, _⟩ := dr_Below L hL i2 h2 256 hi2
      simp only [c0, c1, c2, e2, e3, Option.bind_some, if_true, if_false]
      exact ⟨_, _, _, rfl, hi3⟩
    · obtain ⟨y, i2, h2, e2, hi2, _⟩ := dr_Below L hL i1 h1 30 hi1
      simp only [c0, c1, c2, e2, Option.bind_some, if_false]
      exact ⟨_, _, _, rfl, hi2⟩

theorem dr_List (L : List Int) (hL : L.length ≤ 140737488351232) (i h f n : Int) (hi : 0 ≤ i) (hn : n ≤ 1048576) : ∃ out i' h', Ev (fun k => spec_l01DrawList.f k L i h f n) (out, i', h') ∧ out.length = n.toNat ∧ 0 ≤ i' := by
  have key : ∀ (d c : Nat) (out : List Int) (i h : Int), c + d = n.toNat → out.length = c → 0 ≤ i → ∃ out' i' h', Ev (fun k => spec_l01DrawList.l0 k f n out (c : Int) L i h) (out', i', h') ∧ out'.length = n.toNat ∧ 0 ≤ i' := by
    intro d
    induction d with
    | zero =>
      intro c out i h hc ho hi
      refine ⟨out, i, h, ev_s ?_, by omega, hi⟩
      have h1 : ¬ ((c : Int) < n) := by omega
      simp only [spec_l01DrawList.l0, h1, if_false]; exact Ev.now _
    | succ d ih =>
      intro c out i h hc ho hi
      obtain ⟨x, i1, h1, e1, hi1⟩ := dr_Element L hL i h f hi
      obtain ⟨o2, i2, h2, e2, hl2, hi2⟩ := ih (c + 1) (out ++ [x]) i1 h1 (by omega) (by simp [ho]) hi1
      refine ⟨o2, i2, h2, ev_s ?_, hl2, hi2⟩
      have g1 : (c : Int) < n := by omega
      have g2 : out.length < 17592186044416 := by omega
      simp only [spec_l01DrawList.l0, g1, g2, e1, Option.bind_some, if_true, w_succ (n := c) (by omega)]
      exact e2
  unfold spec_l01DrawList.f
  exact key n.toNat 0 [] i h (by omega) rfl hi

theorem dr_Series (L : List Int) (hL : L.length ≤ 140737488351232) (i h f n first : Int) (hi : 0 ≤ i) (hn : n ≤ 1048576) : ∃ out i' h', Ev (fun k => spec_l06DrawSeries.f k L i h f n first) (out, i', h') ∧ out.length = n.toNat ∧ 0 ≤ i' := by
  have j2 : ∀ (out : List Int) (b : Bool) (i h : Int), out.length = n.toNat → 0 ≤ i → (b = true → 0 < n) → ∃ out' i' h', Ev (fun k => spec_l06DrawSeries.j2 k f n out b L i h) (out', i', h') ∧ out'.length = n.toNat ∧ 0 ≤ i' := by
    intro out b i h ho hi hb
    cases b with
    | true =>
      have hn0 := hb rfl
      obtain ⟨x, i1, h1, e1, hi1, hx0, hx1⟩ := dr_Below L hL i h n hi
      have hx2 := hx1 hn0
      obtain ⟨y, i2, h2, e2, hi2, _⟩ := dr_Pick L hL i1 h1 ([(-1), md f, 0, 1] : List Int) (by simp) hi1
      refine ⟨out.set x.toNat y, i2, h2, ev_s ?_, by rw [List.length_set]; exact ho, hi2⟩
      have g1 : x < (out.length : Int) := by omega
      simp only [spec_l06DrawSeries.j2, ev_Modulus, e1, e2, hx0, g1, Option.bind_some, if_true]; exact Ev.now _
    | false =>
      refine ⟨out, i, h, ev_s ?_, ho, hi⟩
      simp only [spec_l06DrawSeries.j2, Bool.false_eq_true, if_false]; exact Ev.now _
  have j1 : ∀ (out : List Int) (i h : Int), out.length = n.toNat → 0 ≤ i → ∃ out' i' h', Ev (fun k => spec_l06DrawSeries.j1 k f n out L i h) (out', i', h') ∧ out'.length = n.toNat ∧ 0 ≤ i' := by
    intro out i h ho hi
    obtain ⟨b, i1, h1, e1, hi1⟩ := dr_Once L hL i h 20 hi
    cases b with
    | true =>
      obtain ⟨o, i', h', e, r⟩ := j2 out (decide (n > 0)) i1 h1 ho hi1 (fun c => by have := of_decide_eq_true c; omega)
      refine ⟨o, i', h', ev_s ?_, r⟩
      simp only [spec_l06DrawSeries.j1, e1, Option.bind_some, if_true]; exact e
    | false =>
      obtain ⟨o, i', h', e, r⟩ := j2 out false i1 h1 ho hi1 (fun c => by cases c)
      refine ⟨o, i', h', ev_s ?_, r⟩
      simp only [spec_l06DrawSeries.j1, e1, Option.bind_some, Bool.false_eq_true, if_false]; exact e
  have j0 : ∀ (out : List Int) (b : Bool) (i h : Int), out.length = n.toNat → 0 ≤ i → (b = true → 0 < n) → ∃ out' i' h', Ev (fun k => spec_l06DrawSeries.j0 k f n first out b L i h) (out', i', h') ∧ out'.length = n.toNat ∧ 0 ≤ i' := by
    intro out b i h ho hi hb
    cases b with
    | true =>
      have hn0 := hb rfl
      obtain ⟨o, i', h', e, r⟩ := j1 (out.set (0 : Int).toNat first) i h (by rw [List.length_set]; exact ho) hi
      refine ⟨o, i', h', ev_s ?_, r⟩
      have g1 : (0 : Int) < (out.length : Int) := by omega
      simp only [spec_l06DrawSeries.j0, g1, if_true]; exact e
    | false =>
      obtain ⟨o, i', h', e, r⟩ := j1 out i h ho hi
      refine ⟨o, i', h', ev_s ?_, r⟩
      simp only [spec_l06DrawSeries.j0, Bool.false_eq_true, if_false]; exact e
  obtain ⟨o, i1, h1, e1, hl1, hi1⟩ := dr_List L hL i h f n hi hn
  unfold spec_l06DrawSeries.f
  by_cases c : first ≥ 0
  · obtain ⟨o2, i', h', e, r⟩ := j0 o (decide (n > 0)) i1 h1 hl1 hi1 (fun c => by have := of_decide_eq_true c; omega)
    refine ⟨o2, i', h', Ev.bind e1 ?_, r⟩
    simp only [c, if_true]; exact e
  · obtain ⟨o2, i', h', e, r⟩ := j0 o false i1 h1 hl1 hi1 (fun c => by cases c)
    refine ⟨o2, i', h', Ev.bind e1 ?_, r⟩
    simp only [c, if_false]; exact e

theorem dr_DrawSeriesInto (L : List Int) (hL : L.length ≤ 140737488351232) : ∃ f a b, Ev (fun k => spec_DrawSeriesInto.f k L) (f, a, b) ∧ a.length ≤ 1048576 ∧ b.length ≤ 1048576 := by
  obtain ⟨h, hn⟩ := dr_New L hL
  obtain ⟨f, i2, h2, e2, hi2, _⟩ := dr_Field L hL 0 h (by omega)
  obtain ⟨n, i3, h3, e3, hn0, hn1, hi3⟩ := dr_Length L L hL hL i2 h2 f hi2
  obtain ⟨b, i4, h4, e4, hi4⟩ := dr_Once L hL i3 h3 12 hi3
  obtain ⟨u, i5, h5, e5, hu, hi5⟩ := dr_Series L hL i4 h4 f n (-1) hi4 (by omega)
  unfold spec_DrawSeriesInto.f
  cases b with
  | true =>
    obtain ⟨v, i6, h6, e6, hv, hi6⟩ := dr_Series L hL i5 h5 f (n + 1) 0 hi5 (by omega)
    refine ⟨f, u, v, Ev.bind hn ?_, by omega, by omega⟩
    refine Ev.bind (ev_c e2) ?_
    refine Ev.bind e3 ?_
    refine Ev.bind (ev_c e4) ?_
    simp only [if_true, w64 (x := n + 1) (by omega) (by omega)]
    refine Ev.bind e5 ?_
    refine Ev.bind e6 ?_
    exact Ev.now _
  | false =>
    obtain ⟨v, i6, h6, e6, hv, hi6⟩ := dr_Series L hL i5 h5 f n 0 hi5 (by omega)
    refine ⟨f, u, v, Ev.bind hn ?_, by omega, by omega⟩
    refine Ev.bind (ev_c e2) ?_
    refine Ev.bind e3 ?_
    refine Ev.bind (ev_c e4) ?_
    simp only [Bool.false_eq_true, if_false]
    refine Ev.bind e5 ?_
    refine Ev.bind e6 ?_
    exact Ev.now _

theorem ev_alt (L : List Int) (hL : L.length ≤ 1048576) (c : Int) : ∃ t, Ev (fun k => laws_alt.f k L c) t ∧ t.length ≤ 1048577 := by
  have key : ∀ (d i : Nat) (out : List Int), i + d = L.length → out.length = i + 1 → ∃ t, Ev (fun k => laws_alt.l0 k L out (i : Int)) t ∧ t.length ≤ 1048577 := by
    intro d
    induction d with
    | zero =>
      intro i out hi ho
      refine ⟨out, ev_s ?_, by omega⟩
      have g1 : ¬ ((i : Int) < (L.length : Int)) := by omega
      simp only [laws_alt.l0, g1, if_false]; exact Ev.now _
    | succ d ih =>
      intro i out hi ho
      have g1 : (i : Int) < (L.length : Int) := by omega
      have g2 : (0 : Int) ≤ (i : Int) := by omega
      have g3 : out.length < 140737488355328 := by omega
      by_cases c : (i : Int) < 3000
      · obtain ⟨t, ht, hl⟩ := ih (i + 1) (out ++ [rd L (i : Int)]) (by omega) (by simp [ho])
        refine ⟨t, ev_s ?_, hl⟩
        simp only [laws_alt.l0, g1, g2, g3, c, if_true, w_succ (n := i) (by omega)]
        exact ht
      · refine ⟨out, ev_s ?_, by omega⟩
        simp only [laws_alt.l0, g1, c, if_true, if_false]; exact Ev.now _
  unfold laws_alt.f
  exact key L.length 0 _ (by omega) rfl

theorem ev_cp (l : List Int) (hl : l.length ≤ 1048576) : Ev (fun k => laws_cp.f k l) l := by
  have key : ∀ (d i : Nat), i + d = l.length → Ev (fun k => laws_cp.l0 k l (l.take i) (i : Int)) l := by
    intro d
    induction d with
    | zero =>
      intro i hi
      refine ev_s ?_
      have g1 : ¬ ((i : Int) < (l.length : Int)) := by omega
      simp only [laws_cp.l0, g1, if_false]
      rw [List.take_of_length_le (by omega)]; exact Ev.now _
    | succ d ih =>
      intro i hi
      refine ev_s ?_
      have g1 : (i : Int) < (l.length : Int) := by omega
      have g2 : (0 : Int) ≤ (i : Int) := by omega
      have g3 : (l.take i).length < 17592186044416 := by rw [List.length_take]; omega
      simp only [laws_cp.l0, g1, g2, g3, if_true, w_succ (n := i) (by omega)]
      rw [rd_at (show i < l.length by omega), List.take_append_getElem (show i < l.length by omega)]
      exact ih (i + 1) (by omega)
  exact key l.length 0 (by omega)

theorem ev_same (l : List Int) (hl : l.length ≤ 1048576) : Ev (fun k => laws_same.f k l l) true := by
  have key : ∀ (d i : Nat), i + d = l.length → Ev (fun k => laws_same.l0 k l l (i : Int)) true := by
    intro d
    induction d with
    | zero =>
      intro i hi
      refine ev_s ?_
      have h1 : ¬ ((i : Int) < (l.length : Int)) := by omega
      simp only [laws_same.l0, h1, if_false]
      exact Ev.now _
    | succ d ih =>
      intro i hi
      refine ev_s ?_
      have h1 : (i : Int) < (l.length : Int) := by omega
      have h2 : (0 : Int) ≤ (i : Int) := by omega
      simp only [laws_same.l0, h1, h2, if_true, w_succ (n := i) (by omega)]
      exact ih (i + 1) (by omega)
  unfold laws_same.f
  simp only [if_true]
  exact key l.length 0 (by omega)

/-- A series over a field. -/
def SerOk (f : Int) (a : List Int) : Prop := (0 ≤ f ∧ f < 9) ∧ 1 ≤ a.length ∧ a.length ≤ 64 ∧ El (md f) a
theorem SerOk.pm {f : Int} {a : List Int} (h : SerOk f a) : Pm (md f) := pm_of h.1
theorem SerOk.rd {f : Int} {a : List Int} (h : SerOk f a) (i : Int) : 0 ≤ rd a i ∧ rd a i < md f := h.2.2.2.rd (pm_of h.1).pos i

theorem ev_l01In (x a b : Int) : spec_l01In.f x a b = some (decide (a ≤ x) && decide (x ≤ b)) := by
  unfold spec_l01In.f
  by_cases h : a ≤ x
  · rw [if_pos h, decide_eq_true h, Bool.true_and]
  · rw [if_neg h, decide_eq_false h, Bool.false_and]

theorem ev_l03Elements {f : Int} (h : 0 ≤ f ∧ f < 9) (l : List Int) (hl : l.length ≤ 35184372088832) : Ev (fun k => spec_l03Elements.f k f l) (elB (md f) l) := by
  have hp := pm_of h
  unfold Pm at hp
  have key : ∀ (d i : Nat), i + d = l.length → Ev (fun k => spec_l03Elements.l0 k l (md f) (i : Int)) (elB (md f) (l.drop i)) := by
    intro d
    induction d with
    | zero =>
      intro i hi
      refine ev_s ?_
      have h1 : ¬ ((i : Int) < (l.length : Int)) := by omega
      simp only [spec_l03Elements.l0, h1, if_false]
      rw [List.drop_of_length_le (by omega)]
      exact Ev.now _
    | succ d ih =>
      intro i hi
      refine ev_s ?_
      have h1 : (i : Int) < (l.length : Int) := by omega
      have h2 : (0 : Int) ≤ (i : Int) := by omega
      simp only [spec_l03Elements.l0, h1, h2, if_true, w_succ (n := i) (by omega), w64 (x := md f - 1) (by omega) (by omega), ev_l01In, Option.bind_some]
      rw [elB_drop (by omega)]
      rw [show decide (rd l (i : Int) < md f) = decide (rd l (i : Int) ≤ md f - 1) from decide_eq_decide.2 (by omega)]
      by_cases c : (decide (0 ≤ rd l (i : Int)) && decide (rd l (i : Int) ≤ md f - 1)) = true
      · simp only [c, if_true, Bool.true_and]
        exact ih (i + 1) (by omega)
      · simp only [Bool.not_eq_true] at c
        simp only [c, Bool.false_and, Bool.false_eq_true, if_false]
        exact Ev.now _
  unfold spec_l03Elements.f
  simp only [ev_Modulus, Option.bind_some]
  have h0 : ¬ (md f = 0) := by omega
  simp only [h0, if_false]
  exact key l.length 0 (by omega)
theorem ev_l03Elements_bad {f : Int} (h : ¬ (0 ≤ f ∧ f < 9)) (l : List Int) : Ev (fun k => spec_l03Elements.f k f l) false := by
  unfold spec_l03Elements.f
  simp only [ev_Modulus, Option.bind_some, md_bad h, if_true]
  exact Ev.now _

theorem ev_SeriesOk {f : Int} {a : List Int} (h : SerOk f a) : Ev (fun k => spec_SeriesOk.f k f a) true := by
  obtain ⟨hf, h1, h2, he⟩ := h
  unfold spec_SeriesOk.f
  simp only [ev_l01In, Option.bind_some, show decide ((1 : Int) ≤ (a.length : Int)) = true from decide_eq_true (by omega), show decide ((a.length : Int) ≤ 64) = true from decide_eq_true (by omega), Bool.and_self, if_true]
  refine Ev.bind (ev_l03Elements hf a (by omega)) ?_
  rw [elB_iff.2 he]
  exact Ev.now _
theorem ev_SeriesOk_bad {f : Int} {a : List Int} (h : ¬ SerOk f a) : Ev (fun k => spec_SeriesOk.f k f a) false := by
  unfold spec_SeriesOk.f
  simp only [ev_l01In, Option.bind_some]
  by_cases c : (1 : Int) ≤ (a.length : Int) ∧ (a.length : Int) ≤ 64
  · simp only [decide_eq_true c.1, decide_eq_true c.2, Bool.and_self, if_true]
    by_cases hf : 0 ≤ f ∧ f < 9
    · refine Ev.bind (ev_l03Elements hf a (by omega)) ?_
      have he : elB (md f) a = false := by
        rw [← Bool.not_eq_true, elB_iff]
        intro he
        exact h ⟨hf, by omega, by omega, he⟩
      rw [he]
      exact Ev.now _
    · refine Ev.bind (ev_l03Elements_bad hf a) ?_
      exact Ev.now _
  · have e : (decide ((1 : Int) ≤ (a.length : Int)) && decide ((a.length : Int) ≤ 64)) = false := by
      rw [← Bool.not_eq_true, Bool.and_eq_true, decide_eq_true_eq, decide_eq_true_eq]; exact c
    simp only [e, Bool.false_eq_true, if_false]
    exact Ev.now _

theorem ev_fieldOf {f : Int} (h : 0 ≤ f ∧ f < 9) : impl_fieldOf.f f = some (md f, gn f, tp f, true) := by
  rcases fcases h.1 h.2 with e | e | e | e | e | e | e | e | e <;> subst e <;> rfl
theorem ev_fieldOf_bad {f : Int} (h : ¬ (0 ≤ f ∧ f < 9)) : impl_fieldOf.f f = some (0, 0, 0, false) := by
  unfold impl_fieldOf.f
  by_cases c : f < 0
  · rw [if_pos c]
  · rw [if_neg c, if_pos (by omega)]

theorem ev_areElements (p g t : Int) (l : List Int) (hl : l.length ≤ 35184372088832) : Ev (fun k => impl_field_areElements.f k p g t l) (elB p l) := by
  have key : ∀ (d i : Nat), i + d = l.length → Ev (fun k => impl_field_areElements.l0 k l (l.length : Int) (i : Int) p g t) (elB p (l.drop i)) := by
    intro d
    induction d with
    | zero =>
      intro i hi
      refine ev_s ?_
      have h1 : ¬ ((i : Int) < (l.length : Int)) := by omega
      simp only [impl_field_areElements.l0, h1, if_false]
      rw [List.drop_of_length_le (by omega)]
      exact Ev.now _
    | succ d ih =>
      intro i hi
      refine ev_s ?_
      have h1 : (i : Int) < (l.length : Int) := by omega
      have h2 : (0 : Int) ≤ (i : Int) := by omega
      simp only [impl_field_areElements.l0, h1, h2, if_true, w_succ (n := i) (by omega)]
      rw [elB_drop (by omega)]
      by_cases c1 : rd l (i : Int) < 0
      · simp only [c1, if_true, show decide (0 ≤ rd l (i : Int)) = false from decide_eq_false (by omega), Bool.false_and]
        exact Ev.now _
      · by_cases c2 : rd l (i : Int) ≥ p
        · simp only [c1, c2, if_true, if_false, show decide (rd l (i : Int) < p) = false from decide_eq_false (by omega), Bool.false_and, Bool.and_false]
          exact Ev.now _
        · simp only [c1, c2, if_false, show decide (0 ≤ rd l (i : Int)) = true from decide_eq_true (by omega), show decide (rd l (i : Int) < p) = true from decide_eq_true (by omega), Bool.true_and]
          exact ih (i + 1) (by omega)
  exact key l.length 0 (by omega)

theorem ev_seriesField2 {f : Int} {a b : List Int} (h : SerOk f a) (k : SerOk f b) (e : a.length = b.length) : Ev (fun k => impl_seriesField.f k f [a, b]) (md f, gn f, tp f, true) := by
  obtain ⟨hf, h1, h2, he⟩ := h
  obtain ⟨_, k1, k2, ke⟩ := k
  unfold impl_seriesField.f
  have hl : (([a, b] : List (List Int)).length : Int) = 2 := rfl
  have hr : rd_L2 [a, b] 0 = a := rfl
  have hr1 : rd_L2 [a, b] (0 + 1) = b := rfl
  have n1 : ¬ ((a.length : Int) < 1) := by omega
  have n2 : ¬ ((a.length : Int) > 64) := by omega
  have m1 : ¬ ((b.length : Int) < 1) := by omega
  have m2 : ¬ ((b.length : Int) > 64) := by omega
  have me : ((b.length : Int) = (a.length : Int)) := by omega
  simp only [ev_fieldOf hf, Option.bind_some, if_true, hl]
  refine ev_s ?_
  simp only [impl_seriesField.l0, hl, hr, n1, n2, if_false, show (0 : Int) < 2 from by decide, show (0 : Int) ≤ 0 from by decide, if_true]
  refine Ev.bind (ev_areElements _ _ _ a (by omega)) ?_
  simp only [elB_iff.2 he, if_true, w64 (x := 0 + 1) (by decide) (by decide)]
  refine ev_s ?_
  simp only [impl_seriesField.l0, hl, hr, hr1, m1, m2, if_false, show (0 : Int) + 1 < 2 from by decide, show (0 : Int) ≤ 0 + 1 from by decide, show (0 : Int) < 2 from by decide, if_true]
  refine Ev.bind (ev_areElements _ _ _ b (by omega)) ?_
  simp only [elB_iff.2 ke, if_true, me, w64 (x := 0 + 1 + 1) (by decide) (by decide)]
  refine ev_s ?_
  simp only [impl_seriesField.l0, hl, show ¬ ((0 : Int) + 1 + 1 < 2) from by decide, if_false]
  exact Ev.now _
theorem ev_seriesField2_bad {f : Int} {a b : List Int} (h : ¬ (SerOk f a ∧ SerOk f b ∧ a.length = b.length)) : Ev (fun k => impl_seriesField.f k f [a, b]) (0, 0, 0, false) := by
  unfold impl_seriesField.f
  by_cases hf : 0 ≤ f ∧ f < 9
  · have hl : (([a, b] : List (List Int)).length : Int) = 2 := rfl
    have hr : rd_L2 [a, b] 0 = a := rfl
    have hr1 : rd_L2 [a, b] (0 + 1) = b := rfl
    simp only [ev_fieldOf hf, Option.bind_some, if_true, hl]
    refine ev_s ?_
    simp only [impl_seriesField.l0, hl, hr, show (0 : Int) < 2 from by decide, show (0 : Int) ≤ 0 from by decide, if_true]
    by_cases n1 : (a.length : Int) < 1
    · simp only [n1, if_true]; exact Ev.now _
    by_cases n2 : (a.length : Int) > 64
    · simp only [n1, n2, if_true, if_false]; exact Ev.now _
    simp only [n1, n2, if_false]
    refine Ev.bind (ev_areElements _ _ _ a (by omega)) ?_
    by_cases he : El (md f) a
    · simp only [elB_iff.2 he, if_true, w64 (x := 0 + 1) (by decide) (by decide)]
      refine ev_s ?_
      simp only [impl_seriesField.l0, hl, hr, hr1, show (0 : Int) + 1 < 2 from by decide, show (0 : Int) ≤ 0 + 1 from by decide, show (0 : Int) < 2 from by decide, if_true]
      by_cases m1 : (b.length : Int) < 1
      · simp only [m1, if_true]; exact Ev.now _
      by_cases m2 : (b.length : Int) > 64
      · simp only [m1, m2, if_true, if_false]; exact Ev.now _
      simp only [m1, m2, if_false]
      refine Ev.bind (ev_areElements _ _ _ b (by omega)) ?_
      by_cases ke : El (md f) b
      · have me : ¬ ((b.length : Int) = (a.length : Int)) := fun c => h ⟨⟨hf, by omega, by omega, he⟩, ⟨hf, by omega, by omega, ke⟩, by omega⟩
        simp only [elB_iff.2 ke, if_true, me, if_false]
        exact Ev.now _
      · simp only [Bool.eq_false_iff.2 (fun c => ke (elB_iff.1 c)), Bool.false_eq_true, if_false]
        exact Ev.now _
    · simp only [Bool.eq_false_iff.2 (fun c => he (elB_iff.1 c)), Bool.false_eq_true, if_false]
      exact Ev.now _
  · simp only [ev_fieldOf_bad hf, Option.bind_some, Bool.false_eq_true, if_false]
    exact Ev.now _

theorem ev_seriesMul {p : Int} (hp : Pm p) (g t : Int) {a b : List Int} (h2 : a.length ≤ 64) (e : a.length = b.length) (ha : El p a) (hb : El p b) : Ev (fun k => impl_field_seriesMul.f k p g t a b) (mulS p a b) := by
  have hpp := hp
  unfold Pm at hpp
  have inner : ∀ (d j i : Nat) (out : List Int) (r : List Int), i + j + d = a.length → i < a.length → out.length = a.length → (∀ c : Nat, c < a.length → rd out (c : Int) = scat a b i j c % p) →
      (∀ out' : List Int, out'.length = a.length → (∀ c : Nat, c < a.length → rd out' (c : Int) = sm (i + 1) (tm a b c) % p) → Ev (fun k => impl_field_seriesMul.l0 k a b out' a (a.length : Int) ((i + 1 : Nat) : Int) p g t) r) →
      Ev (fun k => impl_field_seriesMul.l1 k a b out (i : Int) (rd a (i : Int)) (j : Int) a (a.length : Int) (i : Int) p g t) r := by
    intro d
    induction d with
    | zero =>
      intro j i out r hj hi ho hx hr
      refine ev_s ?_
      have ei : wrap64 ((i : Int) + (j : Int)) = ((i + j : Nat) : Int) := by rw [w64 (by omega) (by omega)]; omega
      have g1 : ¬ (((i + j : Nat) : Int) < (a.length : Int)) := by omega
      simp only [impl_field_seriesMul.l1, ei, g1, if_false, w_succ (n := i) (by omega)]
      exact hr out ho (fun c hc => by rw [hx c hc, scat_row (Or.inr (by omega))])
    | succ d ih =>
      intro j i out r hj hi ho hx hr
      refine ev_s ?_
      have ei : wrap64 ((i : Int) + (j : Int)) = ((i + j : Nat) : Int) := by rw [w64 (by omega) (by omega)]; omega
      have g1 : ((i + j : Nat) : Int) < (a.length : Int) := by omega
      have g2 : (0 : Int) ≤ ((i + j : Nat) : Int) := by omega
      have g3 : ((i + j : Nat) : Int) < (out.length : Int) := by omega
      have g4 : (0 : Int) ≤ (j : Int) := by omega
      have g5 : (j : Int) < (b.length : Int) := by omega
      have g6 : ¬ (p = 0) := by omega
      have hai := ha.rd hp.pos (i : Int)
      have hbj := hb.rd hp.pos (j : Int)
      have hm := mul_lt_big hai.1 hai.2 hbj.1 hbj.2 hpp.2
      have ho1 := hx (i + j) (by omega)
      have ho2 := em_lt (a := scat a b i j (i + j)) hp.pos
      have ev : Int.tmod (wrap64 (rd out ((i + j : Nat) : Int) + wrap64 (rd a (i : Int) * rd b (j : Int)))) p = scat a b i (j + 1) (i + j) % p := by
        rw [w64 (x := rd a (i : Int) * rd b (j : Int)) (by omega) (by omega), ho1, w64 (by omega) (by omega), tmod_nn (by omega), eadd_l, scat_hit]
      simp only [impl_field_seriesMul.l1, ei, g1, g2, g3, g4, g5, g6, if_true, if_false, ev, w_succ (n := j) (by omega), Int.toNat_natCast]
      refine ih (j + 1) i _ r (by omega) hi (by rw [List.length_set]; exact ho) (fun c hc => ?_) hr
      by_cases e : i + j = c
      · subst e; rw [rd_set_eq (by omega)]
      · rw [rd_set_ne e, hx c hc, scat_miss (by omega)]
  have outer : ∀ (d i : Nat) (out : List Int), i + d = a.length → out.length = a.length → (∀ c : Nat, c < a.length → rd out (c : Int) = sm i (tm a b c) % p) → Ev (fun k => impl_field_seriesMul.l0 k a b out a (a.length : Int) (i : Int) p g t) (mulS p a b) := by
    intro d
    induction d with
    | zero =>
      intro i out hi ho hx
      refine ev_s ?_
      have g1 : ¬ ((i : Int) < (a.length : Int)) := by omega
      simp only [impl_field_seriesMul.l0, g1, if_false]
      have e : out = mulS p a b := set_map_rd ho (fun c hc => by rw [hx c hc, show i = a.length by omega, pc_of_len])
      rw [e]; exact Ev.now _
    | succ d ih =>
      intro i out hi ho hx
      refine ev_s ?_
      have g1 : (i : Int) < (a.length : Int) := by omega
      have g2 : (0 : Int) ≤ (i : Int) := by omega
      simp only [impl_field_seriesMul.l0, g1, g2, if_true]
      exact inner (a.length - i) 0 i out _ (by omega) (by omega) ho (fun c hc => by rw [hx c hc, scat_start]) (fun out' ho' hx' => ih (i + 1) out' (by omega) ho' hx')
  unfold impl_field_seriesMul.f
  have g1 : (0 : Int) ≤ (a.length : Int) := by omega
  simp only [g1, if_true, Int.toNat_natCast, show a.length ≤ 35184372088832 from by omega]
  exact outer a.length 0 _ (by omega) (by simp) (fun c _ => by rw [rd_rep, sm_zero, Int.zero_emod])

theorem ev_add {p : Int} (hp : Pm p) (g t : Int) {a b : Int} (ha : 0 ≤ a ∧ a < p) (hb : 0 ≤ b ∧ b < p) : impl_field_add.f p g t a b = some ((a + b) % p) := by
  unfold Pm at hp
  unfold impl_field_add.f
  rw [if_neg (by omega), w64 (by omega) (by omega), tmod_nn (by omega)]

theorem intoR_len (p : Int) (a b : List Int) : ∀ (d : Nat) (out : List Int), (intoR p a b d out).length = out.length := by
  intro d
  induction d with
  | zero => intro out; rfl
  | succ d ih => intro out; unfold intoR; rw [ih, List.length_set, mulS_len]
theorem intoS_len (p : Int) (a b : List Int) : (intoS p a b).length = a.length := by unfold intoS; rw [intoR_len]; simp
def IntoOk (f : Int) (a b : List Int) : Prop := (SerOk f a ∧ SerOk f b ∧ a.length = b.length) ∧ rd b 0 = 0

theorem ev_iSeriesInto {f : Int} {a b : List Int} (h : IntoOk f a b) : Ev (fun k => impl_SeriesInto.f k f a b) (intoS (md f) a b, true) := by
  obtain ⟨⟨ha, hb, e⟩, h0⟩ := h
  have h1 := ha.2.1
  have h2 := ha.2.2.1
  have hp := ha.pm
  have run : ∀ (d : Nat) (out : List Int), d ≤ a.length → out.length = a.length → El (md f) out → Ev (fun k => impl_SeriesInto.l0 k a b out ((d : Int) - 1) (md f) (gn f) (tp f)) (intoR (md f) a b d out, true) := by
    intro d
    induction d with
    | zero =>
      intro out hd ho he
      refine ev_s ?_
      have g1 : ¬ (((0 : Nat) : Int) - 1 ≥ 0) := by decide
      simp only [impl_SeriesInto.l0, g1, if_false]; exact Ev.now _
    | succ d ih =>
      intro out hd ho he
      refine ev_s ?_
      have ed : ((d + 1 : Nat) : Int) - 1 = (d : Int) := by omega
      rw [ed]
      have g1 : (d : Int) ≥ 0 := by omega
      have g2 : (0 : Int) ≤ (d : Int) := by omega
      have g3 : (d : Int) < (a.length : Int) := by omega
      simp only [impl_SeriesInto.l0, g1, g2, g3, if_true]
      refine Ev.bind (ev_seriesMul hp _ _ (by omega) (by omega) he hb.2.2.2) ?_
      have g4 : (0 : Int) < ((mulS (md f) out b).length : Int) := by rw [mulS_len]; omega
      simp only [g4, if_true, ev_add hp _ _ ((mulS_el hp.pos out b).rd hp.pos 0) (ha.rd (d : Int)), Option.bind_some, w64 (x := (d : Int) - 1) (by omega) (by omega)]
      exact ih _ (by omega) (by rw [List.length_set, mulS_len]; exact ho) ((mulS_el hp.pos out b).set (em_lt hp.pos).1 (em_lt hp.pos).2)
  unfold impl_SeriesInto.f
  refine Ev.bind (ev_seriesField2 ha hb e) ?_
  have g0 : (0 : Int) < (b.length : Int) := by omega
  have g1 : (0 : Int) ≤ (a.length : Int) := by omega
  simp only [if_true, g0, h0, bne_self_eq_false]
  refine ev_s ?_
  simp only [impl_SeriesInto.j0, Bool.false_eq_true, if_false, g1, if_true, Int.toNat_natCast, show a.length ≤ 35184372088832 from by omega]
  rw [w64 (by omega) (by omega)]
  exact run a.length _ (Nat.le_refl _) (by simp) (El.rep hp.pos _)
theorem ev_iSeriesInto_bad {f : Int} {a b : List Int} (h : ¬ IntoOk f a b) : Ev (fun k => impl_SeriesInto.f k f a b) ([], false) := by
  have bad : ∀ p g t : Int, Ev (fun k => impl_SeriesInto.j0 k a b true p g t) ([], false) := fun p g t => by
    refine ev_s ?_
    simp only [impl_SeriesInto.j0, if_true]; exact Ev.now _
  unfold impl_SeriesInto.f
  by_cases hs : SerOk f a ∧ SerOk f b ∧ a.length = b.length
  · refine Ev.bind (ev_seriesField2 hs.1 hs.2.1 hs.2.2) ?_
    have g0 : (0 : Int) < (b.length : Int) := by have := hs.2.1.2.1; omega
    have g1 : (rd b 0 != 0) = true := by
      rw [bne_iff_ne]
      intro c
      exact h ⟨hs, c⟩
    simp only [if_true, g0, g1]; exact bad _ _ _
  · refine Ev.bind (ev_seriesField2_bad hs) ?_
    simp only [Bool.false_eq_true, if_false]; exact bad _ _ _

theorem ev_iSeriesMul {f : Int} {a b : List Int} (h : SerOk f a) (k : SerOk f b) (e : a.length = b.length) : Ev (fun k => impl_SeriesMul.f k f a b) (mulS (md f) a b) := by
  unfold impl_SeriesMul.f
  refine Ev.bind (ev_seriesField2 h k e) ?_
  simp only [if_true]
  refine Ev.bind (ev_seriesMul h.pm _ _ h.2.2.1 e h.2.2.2 k.2.2.2) ?_
  exact Ev.now _
theorem ev_iSeriesMul_bad {f : Int} {a b : List Int} (h : ¬ (SerOk f a ∧ SerOk f b ∧ a.length = b.length)) : Ev (fun k => impl_SeriesMul.f k f a b) [] := by
  unfold impl_SeriesMul.f
  refine Ev.bind (ev_seriesField2_bad h) ?_
  simp only [Bool.false_eq_true, if_false]; exact Ev.now _

theorem ev_Reduce {f : Int} (h : 0 ≤ f ∧ f < 9) (x : Int) : spec_Reduce.f f x = some (x % md f) := by
  have hp := pm_of h
  unfold Pm at hp
  unfold spec_Reduce.f
  rw [ev_Modulus]
  simp only [Option.bind_some]
  rw [if_neg (by omega)]
  have hb := tmod_bounds (a := x) (p := md f) (by omega)
  rw [w64 (by omega) (by omega), ← tmod_fix (a := x) (p := md f) (by omega)]
  by_cases c : Int.tmod x (md f) < 0
  · rw [if_pos c, if_pos c]
  · rw [if_neg c, if_neg c]
theorem ev_Reduce_bad {f : Int} (h : ¬ (0 ≤ f ∧ f < 9)) (x : Int) : spec_Reduce.f f x = some (-1) := by
  unfold spec_Reduce.f
  rw [ev_Modulus]
  simp only [Option.bind_some]
  rw [if_pos (md_bad h)]

theorem into_el {f : Int} {a b : List Int} (h : IntoOk f a b) : SerOk f (intoS (md f) a b) := by
  have hp := h.1.1.pm.pos
  refine ⟨h.1.1.1, by rw [intoS_len]; exact h.1.1.2.1, by rw [intoS_len]; exact h.1.1.2.2.1, ?_⟩
  have key : ∀ (d : Nat) (out : List Int), El (md f) out → El (md f) (intoR (md f) a b d out) := by
    intro d
    induction d with
    | zero => intro out ho; exact ho
    | succ d ih =>
      intro out ho
      unfold intoR
      exact ih _ ((mulS_el hp out b).set (em_lt hp).1 (em_lt hp).2)
  exact key _ _ (El.rep hp _)
theorem cmp_econgr {p : Int} {n m : Nat} {F G X : Nat → Int} (h : sq p n F G) : sq p m (cmp F X n) (cmp G X n) := by
  intro i hi
  rw [cmp_at, cmp_at]
  exact sm_econgr (fun k hk => emul (h k hk) rfl)
theorem into_prod {f : Int} {a c x : List Int} (ha : IntoOk f a x) (hc : IntoOk f c x) : mulS (md f) (intoS (md f) a x) (intoS (md f) c x) = intoS (md f) (mulS (md f) a c) x := by
  have hp := ha.1.1.pm.pos
  have hn := ha.1.1.2.1
  have e1 := ha.1.2.2
  have e2 := hc.1.2.2
  have hm : IntoOk f (mulS (md f) a c) x := ⟨⟨⟨ha.1.1.1, by rw [mulS_len]; exact ha.1.1.2.1, by rw [mulS_len]; exact ha.1.1.2.2.1, mulS_el hp a c⟩, ha.1.2.1, by rw [mulS_len]; exact e1⟩, ha.2⟩
  have la : (intoS (md f) a x).length = a.length := intoS_len _ _ _
  refine ser_eq (p := md f) hp (mulS_el hp _ _) (into_el hm).2.2.2 (by rw [mulS_len, la, intoS_len, mulS_len]) ?_
  rw [mulS_len, la]
  have h1 := ser_mulS (md f) (intoS (md f) a x) (intoS (md f) c x)
  rw [la] at h1
  have hA := ser_into (p := md f) (a := a) (b := x) hn e1
  have hC := ser_into (p := md f) (a := c) (b := x) (by omega) e2
  have hM := ser_into (p := md f) (a := mulS (md f) a c) (b := x) (by rw [mulS_len]; exact hn) (by rw [mulS_len]; exact e1)
  have hac := ser_mulS (md f) a c
  rw [show c.length = a.length by omega] at hC
  rw [mulS_len] at hM
  have h0 : ser x 0 % md f = 0 := by
    show rd x 0 % md f = 0
    rw [ha.2, Int.zero_emod]
  refine sq_trans h1 (sq_trans (sq_mul hA hC) (sq_trans (cmp_mul h0) (sq_trans (cmp_econgr (sq_symm hac)) (sq_symm hM))))
theorem si_end {f : Int} {a c x : List Int} (ha : IntoOk f a x) (hc : IntoOk f c x) {b : List Int} (n : Nat) (hn : n = a.length) : Ev (fun k => laws_FnSeriesInto.l0 k f a x b c (n : Int)) true := by
  have l1 := ha.1.1.2.2.1
  have l2 := ha.1.2.1.2.2.1
  have l3 := hc.1.1.2.2.1
  have e1 := ha.1.2.2
  have e2 := hc.1.2.2
  have hm : IntoOk f (mulS (md f) a c) x := ⟨⟨⟨ha.1.1.1, by rw [mulS_len]; exact ha.1.1.2.1, by rw [mulS_len]; exact ha.1.1.2.2.1, mulS_el ha.1.1.pm.pos a c⟩, ha.1.2.1, by rw [mulS_len]; exact e1⟩, ha.2⟩
  refine ev_s ?_
  have g1 : ¬ ((n : Int) < (a.length : Int)) := by omega
  simp only [laws_FnSeriesInto.l0, g1, if_false]
  refine Ev.bind (ev_cp a (by omega)) ?_
  refine Ev.bind (ev_cp x (by omega)) ?_
  refine Ev.bind (ev_iSeriesInto ha) ?_
  refine Ev.bind (ev_cp c (by omega)) ?_
  refine Ev.bind (ev_cp x (by omega)) ?_
  refine Ev.bind (ev_iSeriesInto hc) ?_
  refine Ev.bind (ev_cp a (by omega)) ?_
  refine Ev.bind (ev_cp c (by omega)) ?_
  refine Ev.bind (ev_iSeriesMul ha.1.1 hc.1.1 (by omega)) ?_
  refine Ev.bind (ev_cp x (by omega)) ?_
  refine Ev.bind (ev_iSeriesInto hm) ?_
  have g2 : ((intoS (md f) (mulS (md f) a c) x).length : Int) = (a.length : Int) := by rw [intoS_len, mulS_len]
  simp only [g2, if_true]
  refine Ev.bind (ev_iSeriesMul (into_el ha) (into_el hc) (by rw [intoS_len, intoS_len]; omega)) ?_
  rw [into_prod ha hc]
  refine Ev.bind (ev_same _ (by rw [intoS_len, mulS_len]; omega)) ?_
  exact Ev.now _
theorem FnSeriesInto : laws_FnSeriesInto.Pure := by
  intro L hm h8 hw
  refine Ev.rounds ?_
  unfold laws_FnSeriesInto.f laws_big.f
  simp only [Option.bind_some]
  by_cases hbig : (L.length : Int) > 1048576
  · simp only [decide_eq_true hbig, if_true]; exact Ev.now _
  simp only [decide_eq_false hbig, Bool.false_eq_true, if_false]
  obtain ⟨f, a, x, hdr, hal, hxl⟩ := dr_DrawSeriesInto L (by omega)
  obtain ⟨t, ht, htl⟩ := ev_alt L (by omega) 9
  obtain ⟨f2, b, x2, hdr2, hbl, hxl2⟩ := dr_DrawSeriesInto t (by omega)
  have out : Ev (fun k => laws_FnSeriesInto.j0 k f a x b true) true := by
    refine ev_s ?_
    simp only [laws_FnSeriesInto.j0, if_true]; exact Ev.now _
  refine Ev.bind hdr ?_
  refine Ev.bind ht ?_
  refine Ev.bind hdr2 ?_
  by_cases e : (a.length : Int) = (x.length : Int)
  · by_cases ha : SerOk f a
    · by_cases hx : SerOk f x
      · by_cases h0 : rd x 0 = 0
        · have gx : 0 < (x.length : Int) := by have := hx.2.1; omega
          have e0 : (rd x 0 != 0) = false := by rw [bne_eq_false_iff_eq]; exact h0
          simp only [e, if_true]
          refine Ev.bind (ev_SeriesOk ha) ?_
          simp only [if_true]
          refine Ev.bind (ev_SeriesOk hx) ?_
          simp only [if_true, gx, e0]
          refine ev_s ?_
          simp only [laws_FnSeriesInto.j0, Bool.false_eq_true, if_false]
          have hp := ha.pm.pos
          have hA : IntoOk f a x := ⟨⟨ha, hx, by omega⟩, h0⟩
          have key : ∀ (d i : Nat) (c : List Int), i + d = a.length → c.length = i → El (md f) c → Ev (fun k => laws_FnSeriesInto.l0 k f a x b c (i : Int)) true := by
            intro d
            induction d with
            | zero =>
              intro i c hi hc he
              exact si_end hA ⟨⟨⟨ha.1, by have := ha.2.1; omega, by have := ha.2.2.1; omega, he⟩, hx, by omega⟩, h0⟩ i (by omega)
            | succ d ih =>
              intro i c hi hc he
              have la := ha.2.2.1
              refine ev_s ?_
              have g1 : (i : Int) < (a.length : Int) := by omega
              have g2 : (0 : Int) ≤ (i : Int) := by omega
              have g3 : c.length < 17592186044416 := by omega
              by_cases cb : (i : Int) < (b.length : Int)
              · simp only [laws_FnSeriesInto.l0, g1, g2, g3, cb, if_true, ev_Reduce ha.1, Option.bind_some, w_succ (n := i) (by omega)]
                exact ih (i + 1) _ (by omega) (by simp [hc]) (he.app (em_lt hp).1 (em_lt hp).2)
              · simp only [laws_FnSeriesInto.l0, g1, g3, cb, if_true, if_false, ev_Reduce ha.1, Option.bind_some, w_succ (n := i) (by omega)]
                exact ih (i + 1) _ (by omega) (by simp [hc]) (he.app (em_lt hp).1 (em_lt hp).2)
          exact key a.length 0 [] (by omega) rfl El.nil
        · have gx : 0 < (x.length : Int) := by have := hx.2.1; omega
          have e0 : (rd x 0 != 0) = true := by rw [bne_iff_ne]; exact h0
          simp only [e, if_true]
          refine Ev.bind (ev_SeriesOk ha) ?_
          simp only [if_true]
          refine Ev.bind (ev_SeriesOk hx) ?_
          simp only [if_true, gx, e0]
          exact out
      · simp only [e, if_true]
        refine Ev.bind (ev_SeriesOk ha) ?_
        simp only [if_true]
        refine Ev.bind (ev_SeriesOk_bad hx) ?_
        simp only [Bool.false_eq_true, if_false]; exact out
    · simp only [e, if_true]
      refine Ev.bind (ev_SeriesOk_bad ha) ?_
      simp only [Bool.false_eq_true, if_false]; exact out
  · simp only [e, if_false]; exact out

end Go.Proofs.Ytmhkloeenmnlhaa.Pure
