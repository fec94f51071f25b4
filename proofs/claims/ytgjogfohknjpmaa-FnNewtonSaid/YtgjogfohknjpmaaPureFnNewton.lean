/- FnNewton returns true for every input: for the coefficients of a product of linear factors the power sums are those of the roots. -/
import Derived.Test.YtgjogfohknjpmaaPFnNewtonx6
import Derived.Test.YtgjogfohknjpmaaGB
import Derived.Test.YtgjogfohknjpmaaGK
import Derived.Test.YtgjogfohknjpmaaGR
set_option linter.unusedVariables false
set_option linter.unusedSimpArgs false
namespace Go.Proofs.Ytgjogfohknjpmaa.Pure
open Go.RowKit Go.Proofs.Ytgjogfohknjpmaa.PFnNewton Go.Proofs.YtgjogfohknjpmaaW.PrintWords Go.Proofs.YtgjogfohknjpmaaW.PrintLast Go.Proofs.YtgjogfohknjpmaaW.PrintMore G7
theorem dr_New (L : List Int) (hL : L.length ≤ 140737488351232) : ∃ h, Ev (fun k => spec_l01New.f k L) (L, 0, h) := by
  have key : ∀ (d i : Nat) (x : Int), i + d = 4000 → ∃ h, Ev (fun k => spec_l01New.l0 k L x (i : Int)) (L, 0, h) := by
    intro d
    induction d with
    | zero =>
      intro i x hi
      refine ⟨x, ev_s ?_⟩
      have h2 : ¬ ((i : Int) < 4000) := by omega
      by_cases h1 : (i : Int) < (L.length : Int)
      · simp only [spec_l01New.l0, h1, h2, if_true, if_false]; exact Ev.now _
      · simp only [spec_l01New.l0, h1, if_false]; exact Ev.now _
    | succ d ih =>
      intro i x hi
      have h2 : (i : Int) < 4000 := by omega
      have h3 : (0 : Int) ≤ (i : Int) := by omega
      by_cases h1 : (i : Int) < (L.length : Int)
      · obtain ⟨h, hh⟩ := ih (i + 1) (Go.bits .and .i64 (wrap64 ((wrap64 ((wrap64 (x * 149)) + (wrap64 (rd L (i : Int))))) + 11)) 1073741823) (by omega)
        refine ⟨h, ev_s ?_⟩
        simp only [spec_l01New.l0, h1, h2, h3, if_true, w_succ (n := i) (by omega)]
        exact hh
      · refine ⟨x, ev_s ?_⟩
        simp only [spec_l01New.l0, h1, if_false]; exact Ev.now _
  unfold spec_l01New.f
  exact key 4000 0 _ (by omega)

theorem dr_Byte (L : List Int) (hL : L.length ≤ 140737488351232) (i h : Int) (hi : 0 ≤ i) : ∃ x i' h', spec_l01Byte.f L i h = some (x, i', h') ∧ 0 ≤ i' ∧ 0 ≤ x ∧ x ≤ 255 := by
  unfold spec_l01Byte.f
  simp only [i64_and255]
  by_cases c : i < (L.length : Int)
  · rw [if_pos c, if_pos hi]
    exact ⟨_, _, _, rfl, by rw [w64 (by omega) (by omega)]; omega, by omega, by omega⟩
  · rw [if_neg c]
    exact ⟨_, _, _, rfl, hi, by omega, by omega⟩

theorem dr_Below (L : List Int) (hL : L.length ≤ 140737488351232) (i h n : Int) (hi : 0 ≤ i) : ∃ x i' h', spec_l01Below.f L i h n = some (x, i', h') ∧ 0 ≤ i' ∧ 0 ≤ x ∧ (0 < n → x < n) := by
  unfold spec_l01Below.f
  by_cases c : n ≤ 0
  · rw [if_pos c]
    exact ⟨_, _, _, rfl, hi, by omega, by omega⟩
  · rw [if_neg c]
    by_cases c2 : n ≤ 256
    · rw [if_pos c2]
      obtain ⟨x, i1, h1, e1, hi1, hx0, hx1⟩ := dr_Byte L hL i h hi
      simp only [e1, Option.bind_some]
      rw [if_neg (by omega), tmod_nn hx0]
      exact ⟨_, _, _, rfl, hi1, (em_lt (by omega)).1, fun _ => (em_lt (by omega)).2⟩
    · rw [if_neg c2]
      obtain ⟨x, i1, h1, e1, hi1, hx0, hx1⟩ := dr_Byte L hL i h hi
      obtain ⟨y, i2, h2, e2, hi2, hy0, hy1⟩ := dr_Byte L hL i1 h1 hi1
      obtain ⟨z, i3, h3, e3, hi3, hz0, hz1⟩ := dr_Byte L hL i2 h2 hi2
      simp only [e1, e2, e3, Option.bind_some]
      rw [if_neg (by omega), w64 (x := x * 65536) (by omega) (by omega), w64 (x := y * 256) (by omega) (by omega), w64 (x := x * 65536 + y * 256) (by omega) (by omega), w64 (by omega) (by omega), tmod_nn (by omega)]
      exact ⟨_, _, _, rfl, hi3, (em_lt (by omega)).1, fun _ => (em_lt (by omega)).2⟩

theorem dr_Once (L : List Int) (hL : L.length ≤ 140737488351232) (i h n : Int) (hi : 0 ≤ i) : ∃ b i' h', spec_l01Once.f L i h n = some (b, i', h') ∧ 0 ≤ i' := by
  unfold spec_l01Once.f
  obtain ⟨x, i1, h1, e1, hi1, hx0, hx1⟩ := dr_Below L hL i h n hi
  simp only [e1, Option.bind_some]
  exact ⟨_, _, _, rfl, hi1⟩

theorem dr_Pick (L : List Int) (hL : L.length ≤ 140737488351232) (i h : Int) (l : List Int) (hl : 0 < l.length) (hi : 0 ≤ i) : ∃ x i' h', spec_l01PickInt.f L i h l = some (x, i', h') ∧ 0 ≤ i' ∧ x ∈ l := by
  unfold spec_l01PickInt.f
  obtain ⟨x, i1, h1, e1, hi1, hx0, hx1⟩ := dr_Below L hL i h (l.length : Int) hi
  have hx2 := hx1 (by omega)
  simp only [e1, Option.bind_some]
  rw [if_pos hx0, if_pos hx2]
  refine ⟨_, _, _, rfl, hi1, ?_⟩
  obtain ⟨n, rfl⟩ : ∃ n : Nat, x = n := ⟨x.toNat, by omega⟩
  rw [rd_at (by omega)]
  exact List.getElem_mem _

theorem dr_Field (L : List Int) (hL : L.length ≤ 140737488351232) (i h : Int) (hi : 0 ≤ i) : ∃ x i' h', spec_l01DrawField.f L i h = some (x, i', h') ∧ 0 ≤ i' ∧ -1 ≤ x ∧ x ≤ 100 := by
  unfold spec_l01DrawField.f
  obtain ⟨b, i1, h1, e1, hi1⟩ := dr_Once L hL i h 20 hi
  simp only [e1, Option.bind_some]
  cases b with
  | true =>
    obtain ⟨x, i2, h2, e2, hi2, hx⟩ := dr_Pick L hL i1 h1 ([-1, 9, 100] : List Int) (by decide) hi1
    simp only [e2, Option.bind_some, if_true]
    simp only [List.mem_cons, List.mem_nil_iff, or_false] at hx
    exact ⟨_, _, _, rfl, hi2, by omega, by omega⟩
  | false =>
    obtain ⟨x, i2, h2, e2, hi2, hx0, hx1⟩ := dr_Below L hL i1 h1 9 hi1
    have := hx1 (by omega)
    simp only [e2, Option.bind_some, Bool.false_eq_true, if_false]
    exact ⟨_, _, _, rfl, hi2, by omega, by omega⟩

theorem dr_Length (L l2 : List Int) (hL : L.length ≤ 140737488351232) (hl2 : l2.length ≤ 140737488351232) (i h f : Int) (hi : 0 ≤ i) : ∃ n i' h', Ev (fun k => spec_l06DrawLength.f k L i h f l2) (n, i', h') ∧ 0 ≤ n ∧ n ≤ 100 ∧ 0 ≤ i' := by
  have j1 : ∀ x i h : Int, 0 ≤ x → x ≤ 100 → 0 ≤ i → ∃ n i' h', Ev (fun k => spec_l06DrawLength.j1 k x L i h) (n, i', h') ∧ 0 ≤ n ∧ n ≤ 100 ∧ 0 ≤ i' := by
    intro x i h h0 h1 hi
    obtain ⟨b, i1, h1, e1, hi1⟩ := dr_Once L hL i h 20 hi
    cases b with
    | true =>
      obtain ⟨y, i2, h2, e2, hi2, hy⟩ := dr_Pick L hL i1 h1 ([0, 1, 17, 18, 64, 65] : List Int) (by decide) hi1
      simp only [List.mem_cons, List.mem_nil_iff, or_false] at hy
      refine ⟨y, i2, h2, ev_s ?_, by omega, by omega, hi2⟩
      simp only [spec_l06DrawLength.j1, e1, e2, Option.bind_some, if_true]; exact Ev.now _
    | false =>
      refine ⟨x, i1, h1, ev_s ?_, by omega, by omega, hi1⟩
      simp only [spec_l06DrawLength.j1, e1, Option.bind_some, Bool.false_eq_true, if_false]; exact Ev.now _
  have j0 : ∀ (x : Int) (b : Bool) (i h : Int), 0 ≤ x → x ≤ 100 → 0 ≤ i → ∃ n i' h', Ev (fun k => spec_l06DrawLength.j0 k x b L i h) (n, i', h') ∧ 0 ≤ n ∧ n ≤ 100 ∧ 0 ≤ i' := by
    intro x b i h h0 h1 hi
    cases b with
    | true =>
      obtain ⟨n, i', h', e, r⟩ := j1 17 i h (by omega) (by omega) hi
      refine ⟨n, i', h', ev_s ?_, r⟩
      simp only [spec_l06DrawLength.j0, if_true]; exact e
    | false =>
      obtain ⟨n, i', h', e, r⟩ := j1 x i h h0 h1 hi
      refine ⟨n, i', h', ev_s ?_, r⟩
      simp only [spec_l06DrawLength.j0, Bool.false_eq_true, if_false]; exact e
  have hs : ∃ s, spec_l01Size.f l2 40 = some s ∧ s ≤ 40 := by
    unfold spec_l01Size.f
    rw [w64 (x := (l2.length : Int) / 16) (by omega) (by omega), w64 (by omega) (by omega)]
    by_cases c : 2 + (l2.length : Int) / 16 > 40
    · rw [if_pos c]; exact ⟨_, rfl, by omega⟩
    · rw [if_neg c]; exact ⟨_, rfl, by omega⟩
  obtain ⟨s, es, hs⟩ := hs
  unfold spec_l06DrawLength.f
  obtain ⟨x, i1, h1, e1, hi1, hx0, hx1⟩ := dr_Below L hL i h s hi
  have hx2 : x ≤ 40 := by
    by_cases c : 0 < s
    · have := hx1 c; omega
    · have e0 : spec_l01Below.f L i h s = some (0, i, h) := by unfold spec_l01Below.f; rw [if_pos (by omega)]
      rw [e0] at e1
      injection e1 with e1
      injection e1 with e1 _
      omega
  simp only [es, e1, Option.bind_some, w64 (x := 1 + x) (by omega) (by omega)]
  by_cases c : f = 0
  · obtain ⟨b, i2, h2, e2, hi2⟩ := dr_Once L hL i1 h1 6 hi1
    simp only [c, e2, Option.bind_some, if_true]
    cases b with
    | true => simp only [if_true]; exact j0 _ _ _ _ (by omega) (by omega) hi2
    | false => simp only [Bool.false_eq_true, if_false]; exact j0 _ _ _ _ (by omega) (by omega) hi2
  · simp only [c, if_false]; exact j0 _ _ _ _ (by omega) (by omega) hi1

theorem ev_Modulus (f : Int) : spec_Modulus.f f = some (md f) := by
  unfold spec_Modulus.f md
  by_cases h0 : f = 0
  · rw [if_pos h0, if_pos h0]
  rw [if_neg h0, if_neg h0]
  by_cases h1 : f = 1
  · rw [if_pos h1, if_pos h1]
  rw [if_neg h1, if_neg h1]
  by_cases h2 : f = 2
  · rw [if_pos h2, if_pos h2]
  rw [if_neg h2, if_neg h2]
  by_cases h3 : f = 3
  · rw [if_pos h3, if_pos h3]
  rw [if_neg h3, if_neg h3]
  by_cases h4 : f = 4
  · rw [if_pos h4, if_pos h4]
  rw [if_neg h4, if_neg h4]
  by_cases h5 : f = 5
  · rw [if_pos h5, if_pos h5]
  rw [if_neg h5, if_neg h5]
  by_cases h6 : f = 6
  · rw [if_pos h6, if_pos h6]
  rw [if_neg h6, if_neg h6]
  by_cases h7 : f = 7
  · rw [if_pos h7, if_pos h7]
  rw [if_neg h7, if_neg h7]
  by_cases h8 : f = 8
  · rw [if_pos h8, if_pos h8]
  rw [if_neg h8, if_neg h8]

theorem dr_Element (L : List Int) (hL : L.length ≤ 140737488351232) (i h f : Int) (hi : 0 ≤ i) : ∃ x i' h', spec_l01DrawElement.f L i h f = some (x, i', h') ∧ 0 ≤ i' := by
  unfold spec_l01DrawElement.f
  simp only [ev_Modulus, Option.bind_some]
  by_cases c : md f = 0
  · obtain ⟨x, i1, h1, e1, hi1, _⟩ := dr_Below L hL i h 50 hi
    simp only [c, e1, Option.bind_some, if_true]
    exact ⟨_, _, _, rfl, hi1⟩
  · obtain ⟨x, i1, h1, e1, hi1, _⟩ := dr_Below L hL i h 6 hi
    simp only [c, e1, Option.bind_some, if_false]
    by_cases c0 : x = 0
    · obtain ⟨y, i2, h2, e2, hi2, _⟩ := dr_Below L hL i1 h1 3 hi1
      simp only [c0, e2, Option.bind_some, if_true]
      exact ⟨_, _, _, rfl, hi2⟩
    by_cases c1 : x = 1
    · obtain ⟨y, i2, h2, e2, hi2, _⟩ := dr_Below L hL i1 h1 3 hi1
      simp only [c0, c1, e2, Option.bind_some, if_true, if_false]
      exact ⟨_, _, _, rfl, hi2⟩
    by_cases c2 : x = 2
    · obtain ⟨y, i2, h2, e2, hi2, _⟩ := dr_Below L hL i1 h1 16777216 hi1
      obtain ⟨z, i3, h3, e3, hi3, _⟩ := dr_Below L hL i2 h2 256 hi2
      simp only [c0, c1, c2, e2, e3, Option.bind_some, if_true, if_false]
      exact ⟨_, _, _, rfl, hi3⟩
    · obtain ⟨y, i2, h2, e2, hi2, _⟩ := dr_Below L hL i1 h1 30 hi1
      simp only [c0, c1, c2, e2, Option.bind_some, if_false]
      exact ⟨_, _, _, rfl, hi2⟩

theorem dr_List (L : List Int) (hL : L.length ≤ 140737488351232) (i h f n : Int) (hi : 0 ≤ i) (hn : n ≤ 1048576) : ∃ out i' h', Ev (fun k => spec_l01DrawList.f k L i h f n) (out, i', h') ∧ out.length = n.toNat ∧ 0 ≤ i' := by
  have key : ∀ (d c : Nat) (out : List Int) (i h : Int), c + d = n.toNat → out.length = c → 0 ≤ i → ∃ out' i' h', Ev (fun k => spec_l01DrawList.l0 k f n out (c : Int) L i h) (out', i', h') ∧ out'.length = n.toNat ∧ 0 ≤ i' := by
    intro d
    induction d with
    | zero =>
      intro c out i h hc ho hi
      refine ⟨out, i, h, ev_s ?_, by omega, hi⟩
      have h1 : ¬ ((c : Int) < n) := by omega
      simp only [spec_l01DrawList.l0, h1, if_false]; exact Ev.now _
    | succ d ih =>
      intro c out i h hc ho hi
      obtain ⟨x, i1, h1, e1, hi1⟩ := dr_Element L hL i h f hi
      obtain ⟨o2, i2, h2, e2, hl2, hi2⟩ := ih (c + 1) (out ++ [x]) i1 h1 (by omega) (by simp [ho]) hi1
      refine ⟨o2, i2, h2, ev_s ?_, hl2, hi2⟩
      have g1 : (c : Int) < n := by omega
      have g2 : out.length < 17592186044416 := by omega
      simp only [spec_l01DrawList.l0, g1, g2, e1, Option.bind_some, if_true, w_succ (n := c) (by omega)]
      exact e2
  unfold spec_l01DrawList.f
  exact key n.toNat 0 [] i h (by omega) rfl hi

theorem dr_Series (L : List Int) (hL : L.length ≤ 140737488351232) (i h f n first : Int) (hi : 0 ≤ i) (hn : n ≤ 1048576) : ∃ out i' h', Ev (fun k => spec_l06DrawSeries.f k L i h f n first) (out, i', h') ∧ out.length = n.toNat ∧ 0 ≤ i' := by
  have j2 : ∀ (out : List Int) (b : Bool) (i h : Int), out.length = n.toNat → 0 ≤ i → (b = true → 0 < n) → ∃ out' i' h', Ev (fun k => spec_l06DrawSeries.j2 k f n out b L i h) (out', i', h') ∧ out'.length = n.toNat ∧ 0 ≤ i' := by
    intro out b i h ho hi hb
    cases b with
    | true =>
      have hn0 := hb rfl
      obtain ⟨x, i1, h1, e1, hi1, hx0, hx1⟩ := dr_Below L hL i h n hi
      have hx2 := hx1 hn0
      obtain ⟨y, i2, h2, e2, hi2, _⟩ := dr_Pick L hL i1 h1 ([(-1), md f, 0, 1] : List Int) (by simp) hi1
      refine ⟨out.set x.toNat y, i2, h2, ev_s ?_, by rw [List.length_set]; exact ho, hi2⟩
      have g1 : x < (out.length : Int) := by omega
      simp only [spec_l06DrawSeries.j2, ev_Modulus, e1, e2, hx0, g1, Option.bind_some, if_true]; exact Ev.now _
    | false =>
      refine ⟨out, i, h, ev_s ?_, ho, hi⟩
      simp only [spec_l06DrawSeries.j2, Bool.false_eq_true, if_false]; exact Ev.now _
  have j1 : ∀ (out : List Int) (i h : Int), out.length = n.toNat → 0 ≤ i → ∃ out' i' h', Ev (fun k => spec_l06DrawSeries.j1 k f n out L i h) (out', i', h') ∧ out'.length = n.toNat ∧ 0 ≤ i' := by
    intro out i h ho hi
    obtain ⟨b, i1, h1, e1, hi1⟩ := dr_Once L hL i h 20 hi
    cases b with
    | true =>
      obtain ⟨o, i', h', e, r⟩ := j2 out (decide (n > 0)) i1 h1 ho hi1 (fun c => by have := of_decide_eq_true c; omega)
      refine ⟨o, i', h', ev_s ?_, r⟩
      simp only [spec_l06DrawSeries.j1, e1, Option.bind_some, if_true]; exact e
    | false =>
      obtain ⟨o, i', h', e, r⟩ := j2 out false i1 h1 ho hi1 (fun c => by cases c)
      refine ⟨o, i', h', ev_s ?_, r⟩
      simp only [spec_l06DrawSeries.j1, e1, Option.bind_some, Bool.false_eq_true, if_false]; exact e
  have j0 : ∀ (out : List Int) (b : Bool) (i h : Int), out.length = n.toNat → 0 ≤ i → (b = true → 0 < n) → ∃ out' i' h', Ev (fun k => spec_l06DrawSeries.j0 k f n first out b L i h) (out', i', h') ∧ out'.length = n.toNat ∧ 0 ≤ i' := by
    intro out b i h ho hi hb
    cases b with
    | true =>
      have hn0 := hb rfl
      obtain ⟨o, i', h', e, r⟩ := j1 (out.set (0 : Int).toNat first) i h (by rw [List.length_set]; exact ho) hi
      refine ⟨o, i', h', ev_s ?_, r⟩
      have g1 : (0 : Int) < (out.length : Int) := by omega
      simp only [spec_l06DrawSeries.j0, g1, if_true]; exact e
    | false =>
      obtain ⟨o, i', h', e, r⟩ := j1 out i h ho hi
      refine ⟨o, i', h', ev_s ?_, r⟩
      simp only [spec_l06DrawSeries.j0, Bool.false_eq_true, if_false]; exact e
  obtain ⟨o, i1, h1, e1, hl1, hi1⟩ := dr_List L hL i h f n hi hn
  unfold spec_l06DrawSeries.f
  by_cases c : first ≥ 0
  · obtain ⟨o2, i', h', e, r⟩ := j0 o (decide (n > 0)) i1 h1 hl1 hi1 (fun c => by have := of_decide_eq_true c; omega)
    refine ⟨o2, i', h', Ev.bind e1 ?_, r⟩
    simp only [c, if_true]; exact e
  · obtain ⟨o2, i', h', e, r⟩ := j0 o false i1 h1 hl1 hi1 (fun c => by cases c)
    refine ⟨o2, i', h', Ev.bind e1 ?_, r⟩
    simp only [c, if_false]; exact e

theorem dr_l06One (L : List Int) (hL : L.length ≤ 140737488351232) (first : Int) : ∃ f a, Ev (fun k => spec_l06DrawOne.f k L first) (f, a) ∧ a.length ≤ 1048576 := by
  obtain ⟨h, hn⟩ := dr_New L hL
  obtain ⟨f, i2, h2, e2, hi2, _⟩ := dr_Field L hL 0 h (by omega)
  obtain ⟨n, i3, h3, e3, hn0, hn1, hi3⟩ := dr_Length L L hL hL i2 h2 f hi2
  obtain ⟨u, i5, h5, e5, hu, hi5⟩ := dr_Series L hL i3 h3 f n first hi3 (by omega)
  unfold spec_l06DrawOne.f
  refine ⟨f, u, Ev.bind hn ?_, by omega⟩
  refine Ev.bind (ev_c e2) ?_
  refine Ev.bind e3 ?_
  refine Ev.bind e5 ?_
  exact Ev.now _

theorem dr_DrawSeriesOk (L : List Int) (hL : L.length ≤ 140737488351232) : ∃ f a, Ev (fun k => spec_DrawSeriesOk.f k L) (f, a) ∧ a.length ≤ 1048576 := by
  obtain ⟨f, a, e, ha⟩ := dr_l06One L hL (-1)
  refine ⟨f, a, ?_, ha⟩
  unfold spec_DrawSeriesOk.f
  refine Ev.bind e ?_
  exact Ev.now _

/-- A series over a field. -/
def SerOk (f : Int) (a : List Int) : Prop := (0 ≤ f ∧ f < 9) ∧ 1 ≤ a.length ∧ a.length ≤ 64 ∧ El (md f) a
theorem SerOk.pm {f : Int} {a : List Int} (h : SerOk f a) : Pm (md f) := pm_of h.1
theorem SerOk.rd {f : Int} {a : List Int} (h : SerOk f a) (i : Int) : 0 ≤ rd a i ∧ rd a i < md f := h.2.2.2.rd (pm_of h.1).pos i

theorem ev_l01In (x a b : Int) : spec_l01In.f x a b = some (decide (a ≤ x) && decide (x ≤ b)) := by
  unfold spec_l01In.f
  by_cases h : a ≤ x
  · rw [if_pos h, decide_eq_true h, Bool.true_and]
  · rw [if_neg h, decide_eq_false h, Bool.false_and]

theorem ev_l03Elements {f : Int} (h : 0 ≤ f ∧ f < 9) (l : List Int) (hl : l.length ≤ 35184372088832) : Ev (fun k => spec_l03Elements.f k f l) (elB (md f) l) := by
  have hp := pm_of h
  unfold Pm at hp
  have key : ∀ (d i : Nat), i + d = l.length → Ev (fun k => spec_l03Elements.l0 k l (md f) (i : Int)) (elB (md f) (l.drop i)) := by
    intro d
    induction d with
    | zero =>
      intro i hi
      refine ev_s ?_
      have h1 : ¬ ((i : Int) < (l.length : Int)) := by omega
      simp only [spec_l03Elements.l0, h1, if_false]
      rw [List.drop_of_length_le (by omega)]
      exact Ev.now _
    | succ d ih =>
      intro i hi
      refine ev_s ?_
      have h1 : (i : Int) < (l.length : Int) := by omega
      have h2 : (0 : Int) ≤ (i : Int) := by omega
      simp only [spec_l03Elements.l0, h1, h2, if_true, w_succ (n := i) (by omega), w64 (x := md f - 1) (by omega) (by omega), ev_l01In, Option.bind_some]
      rw [elB_drop (by omega)]
      rw [show decide (rd l (i : Int) < md f) = decide (rd l (i : Int) ≤ md f - 1) from decide_eq_decide.2 (by omega)]
      by_cases c : (decide (0 ≤ rd l (i : Int)) && decide (rd l (i : Int) ≤ md f - 1)) = true
      · simp only [c, if_true, Bool.true_and]
        exact ih (i + 1) (by omega)
      · simp only [Bool.not_eq_true] at c
        simp only [c, Bool.false_and, Bool.false_eq_true, if_false]
        exact Ev.now _
  unfold spec_l03Elements.f
  simp only [ev_Modulus, Option.bind_some]
  have h0 : ¬ (md f = 0) := by omega
  simp only [h0, if_false]
  exact key l.length 0 (by omega)
theorem ev_l03Elements_bad {f : Int} (h : ¬ (0 ≤ f ∧ f < 9)) (l : List Int) : Ev (fun k => spec_l03Elements.f k f l) false := by
  unfold spec_l03Elements.f
  simp only [ev_Modulus, Option.bind_some, md_bad h, if_true]
  exact Ev.now _

theorem ev_SeriesOk {f : Int} {a : List Int} (h : SerOk f a) : Ev (fun k => spec_SeriesOk.f k f a) true := by
  obtain ⟨hf, h1, h2, he⟩ := h
  unfold spec_SeriesOk.f
  simp only [ev_l01In, Option.bind_some, show decide ((1 : Int) ≤ (a.length : Int)) = true from decide_eq_true (by omega), show decide ((a.length : Int) ≤ 64) = true from decide_eq_true (by omega), Bool.and_self, if_true]
  refine Ev.bind (ev_l03Elements hf a (by omega)) ?_
  rw [elB_iff.2 he]
  exact Ev.now _
theorem ev_SeriesOk_bad {f : Int} {a : List Int} (h : ¬ SerOk f a) : Ev (fun k => spec_SeriesOk.f k f a) false := by
  unfold spec_SeriesOk.f
  simp only [ev_l01In, Option.bind_some]
  by_cases c : (1 : Int) ≤ (a.length : Int) ∧ (a.length : Int) ≤ 64
  · simp only [decide_eq_true c.1, decide_eq_true c.2, Bool.and_self, if_true]
    by_cases hf : 0 ≤ f ∧ f < 9
    · refine Ev.bind (ev_l03Elements hf a (by omega)) ?_
      have he : elB (md f) a = false := by
        rw [← Bool.not_eq_true, elB_iff]
        intro he
        exact h ⟨hf, by omega, by omega, he⟩
      rw [he]
      exact Ev.now _
    · refine Ev.bind (ev_l03Elements_bad hf a) ?_
      exact Ev.now _
  · have e : (decide ((1 : Int) ≤ (a.length : Int)) && decide ((a.length : Int) ≤ 64)) = false := by
      rw [← Bool.not_eq_true, Bool.and_eq_true, decide_eq_true_eq, decide_eq_true_eq]; exact c
    simp only [e, Bool.false_eq_true, if_false]
    exact Ev.now _

theorem ev_cp (l : List Int) (hl : l.length ≤ 1048576) : Ev (fun k => laws_cp.f k l) l := by
  have key : ∀ (d i : Nat), i + d = l.length → Ev (fun k => laws_cp.l0 k l (l.take i) (i : Int)) l := by
    intro d
    induction d with
    | zero =>
      intro i hi
      refine ev_s ?_
      have g1 : ¬ ((i : Int) < (l.length : Int)) := by omega
      simp only [laws_cp.l0, g1, if_false]
      rw [List.take_of_length_le (by omega)]; exact Ev.now _
    | succ d ih =>
      intro i hi
      refine ev_s ?_
      have g1 : (i : Int) < (l.length : Int) := by omega
      have g2 : (0 : Int) ≤ (i : Int) := by omega
      have g3 : (l.take i).length < 17592186044416 := by rw [List.length_take]; omega
      simp only [laws_cp.l0, g1, g2, g3, if_true, w_succ (n := i) (by omega)]
      rw [rd_at (show i < l.length by omega), List.take_append_getElem (show i < l.length by omega)]
      exact ih (i + 1) (by omega)
  exact key l.length 0 (by omega)

theorem ev_Reduce {f : Int} (h : 0 ≤ f ∧ f < 9) (x : Int) : spec_Reduce.f f x = some (x % md f) := by
  have hp := pm_of h
  unfold Pm at hp
  unfold spec_Reduce.f
  rw [ev_Modulus]
  simp only [Option.bind_some]
  rw [if_neg (by omega)]
  have hb := tmod_bounds (a := x) (p := md f) (by omega)
  rw [w64 (by omega) (by omega), ← tmod_fix (a := x) (p := md f) (by omega)]
  by_cases c : Int.tmod x (md f) < 0
  · rw [if_pos c, if_pos c]
  · rw [if_neg c, if_neg c]
theorem ev_Reduce_bad {f : Int} (h : ¬ (0 ≤ f ∧ f < 9)) (x : Int) : spec_Reduce.f f x = some (-1) := by
  unfold spec_Reduce.f
  rw [ev_Modulus]
  simp only [Option.bind_some]
  rw [if_pos (md_bad h)]

theorem ev_Mul {f : Int} (h : 0 ≤ f ∧ f < 9) (x y : Int) : spec_Mul.f f x y = some ((x * y) % md f) := by
  have hp := pm_of h
  have hb := hp
  unfold Pm at hp
  have hx := em_lt (a := x) (p := md f) (by omega)
  have hy := em_lt (a := y) (p := md f) (by omega)
  have hxy := mul_lt_big hx.1 hx.2 hy.1 hy.2 hp.2
  unfold spec_Mul.f
  rw [ev_Modulus]
  simp only [Option.bind_some, ev_Reduce h]
  rw [if_neg (by omega), w64 (by omega) (by omega), emul_l, emul_r]

theorem ev_Add {f : Int} (h : 0 ≤ f ∧ f < 9) (x y : Int) : spec_Add.f f x y = some ((x + y) % md f) := by
  have hp := pm_of h
  unfold Pm at hp
  have hx := em_lt (a := x) (p := md f) (by omega)
  have hy := em_lt (a := y) (p := md f) (by omega)
  unfold spec_Add.f
  rw [ev_Modulus]
  simp only [Option.bind_some, ev_Reduce h]
  rw [if_neg (by omega), w64 (by omega) (by omega), eadd_l, eadd_r]

theorem ev_PowerL {p : Int} (hp : Pm p) : ∀ (e : Nat) {a : Int}, (0 ≤ a ∧ a < p) → e < 4611686018427387904 → Ev (fun k => spec_Power.j0 k p a (e : Int)) (a ^ e % p) := by
  have hpp := hp
  unfold Pm at hpp
  have key : ∀ (n e : Nat), e ≤ n → e < 4611686018427387904 → ∀ a out : Int, (0 ≤ a ∧ a < p) → (0 ≤ out ∧ out < p) → Ev (fun k => spec_Power.l0 k p a (e : Int) out) (out * a ^ e % p) := by
    intro n
    induction n with
    | zero =>
      intro e he _ a out ha ho
      obtain rfl : e = 0 := by omega
      refine ev_s ?_
      have h1 : ¬ (((0 : Nat) : Int) > 0) := by omega
      simp only [spec_Power.l0, h1, if_false]
      rw [Int.pow_zero, Int.mul_one, em_id ho.1 ho.2]
      exact Ev.now _
    | succ n ih =>
      intro e he hb a out ha ho
      by_cases h0 : e = 0
      · subst h0
        exact ih 0 (by omega) hb a out ha ho
      · refine ev_s ?_
        have h1 : (e : Int) > 0 := by omega
        have h2 : Int.tmod (e : Int) 2 = ((e % 2 : Nat) : Int) := by rw [tmod_nn (by omega)]; omega
        have h3 : wrap64 (Int.tdiv (e : Int) 2) = ((e / 2 : Nat) : Int) := by
          rw [Int.tdiv_eq_ediv_of_nonneg (by omega), w64 (by omega) (by omega)]; omega
        have haa := em_lt (a := a * a) hp.pos
        have hp0 : ¬ (p = 0) := by omega
        have b1 := mul_lt_big ha.1 ha.2 ha.1 ha.2 hpp.2
        have b2 := mul_lt_big ho.1 ho.2 ha.1 ha.2 hpp.2
        simp only [spec_Power.l0, h1, if_true, h2, h3, hp0, if_false, w64 (x := a * a) (by omega) (by omega), w64 (x := out * a) (by omega) (by omega), tmod_nn b1.1, tmod_nn b2.1]
        by_cases c : e % 2 = 1
        · have hoa := em_lt (a := out * a) hp.pos
          simp only [c, Int.natCast_one, if_true]
          refine ev_to (ih (e / 2) (by omega) (by omega) (a * a % p) (out * a % p) haa hoa) ?_
          have e1 : (out * a % p) * (a * a % p) ^ (e / 2) % p = (out * a) * (a * a) ^ (e / 2) % p := emul (Int.emod_emod _ _) (epow_l _)
          rw [e1, ipow2, Int.mul_assoc, ← Int.pow_succ']
          congr 3; omega
        · have c0 : e % 2 = 0 := by omega
          simp only [c0, show ¬ (((0 : Nat) : Int) = 1) from by omega, if_false]
          refine ev_to (ih (e / 2) (by omega) (by omega) (a * a % p) out haa ho) ?_
          have e1 : out * (a * a % p) ^ (e / 2) % p = out * (a * a) ^ (e / 2) % p := emul rfl (epow_l _)
          rw [e1, ipow2]
          congr 3; omega
  intro e a ha he
  refine ev_s ?_
  simp only [spec_Power.j0]
  refine ev_to (key e e (Nat.le_refl _) he a 1 ha (by omega)) ?_
  rw [Int.one_mul]
theorem ev_Power {f : Int} (h : 0 ≤ f ∧ f < 9) {x : Int} (hx : x % md f ≠ 0) (e : Int) : Ev (fun k => spec_Power.f k f x e) ((x % md f) ^ (e % (md f - 1)).toNat % md f) := by
  have hp := pm_of h
  have hpp := hp
  unfold Pm at hpp
  have hxe := em_lt (a := x) hp.pos
  have hb := tmod_bounds (a := e) (p := md f - 1) (by omega)
  have hm := em_lt (a := e) (p := md f - 1) (by omega)
  have hfix := tmod_fix (a := e) (p := md f - 1) (by omega)
  unfold spec_Power.f
  simp only [ev_Modulus, Option.bind_some, ev_Reduce h, hx, if_false, w64 (x := md f - 1) (by omega) (by omega), show ¬ (md f = 0) from by omega, show ¬ (md f - 1 = 0) from by omega]
  have hcast : e % (md f - 1) = (((e % (md f - 1)).toNat : Nat) : Int) := by omega
  by_cases c : Int.tmod e (md f - 1) < 0
  · rw [if_pos c] at hfix
    simp only [c, if_true, w64 (x := Int.tmod e (md f - 1) + md f) (by omega) (by omega), w64 (x := Int.tmod e (md f - 1) + md f - 1) (by omega) (by omega)]
    rw [show Int.tmod e (md f - 1) + md f - 1 = (((e % (md f - 1)).toNat : Nat) : Int) by omega]
    exact ev_PowerL hp _ hxe (by omega)
  · rw [if_neg c] at hfix
    simp only [c, if_false]
    rw [show Int.tmod e (md f - 1) = (((e % (md f - 1)).toNat : Nat) : Int) by omega]
    exact ev_PowerL hp _ hxe (by omega)
theorem ev_Power0 {f : Int} (h : 0 ≤ f ∧ f < 9) {x : Int} (hx : x % md f = 0) (e : Int) : Ev (fun k => spec_Power.f k f x e) (if e = 0 then 1 else if e < 0 then -1 else 0) := by
  have hp := pm_of h
  unfold Pm at hp
  unfold spec_Power.f
  simp only [ev_Modulus, Option.bind_some, ev_Reduce h, hx, if_true, show ¬ (md f = 0) from by omega, if_false]
  by_cases c : e = 0
  · simp only [c, if_true]; exact Ev.now _
  · by_cases c2 : e < 0
    · simp only [c, c2, if_true, if_false]; exact Ev.now _
    · simp only [c, c2, if_false]; exact Ev.now _

theorem ev_PowerN {f : Int} (h : 0 ≤ f ∧ f < 9) {x : Int} (hx : 0 ≤ x ∧ x < md f) (e : Nat) : Ev (fun k => spec_Power.f k f x (e : Int)) (x ^ e % md f) := by
  have hp := pm_of h
  unfold Pm at hp
  by_cases c : x % md f = 0
  · refine ev_to (ev_Power0 h c (e : Int)) ?_
    rw [em_id hx.1 hx.2] at c
    subst c
    by_cases he : e = 0
    · subst he; rw [if_pos (show ((0 : Nat) : Int) = 0 from rfl), Int.pow_zero, em_id (by omega) (by omega)]
    · rw [if_neg (by omega), if_neg (by omega)]
      obtain ⟨q, rfl⟩ : ∃ q, e = q + 1 := ⟨e - 1, by omega⟩
      rw [Int.pow_succ, Int.mul_zero, Int.zero_emod]
  · refine ev_to (ev_Power h c (e : Int)) ?_
    have e1 : ((e : Int) % (md f - 1)).toNat = e % (md f - 1).toNat := by
      have : (md f - 1) = (((md f - 1).toNat : Nat) : Int) := by omega
      rw [this, ← Int.natCast_emod, Int.toNat_natCast, Int.toNat_natCast]
    rw [e1, epow_l, pow_red h c]

theorem ev_fieldOf {f : Int} (h : 0 ≤ f ∧ f < 9) : impl_fieldOf.f f = some (md f, gn f, tp f, true) := by
  rcases fcases h.1 h.2 with e | e | e | e | e | e | e | e | e <;> subst e <;> rfl
theorem ev_fieldOf_bad {f : Int} (h : ¬ (0 ≤ f ∧ f < 9)) : impl_fieldOf.f f = some (0, 0, 0, false) := by
  unfold impl_fieldOf.f
  by_cases c : f < 0
  · rw [if_pos c]
  · rw [if_neg c, if_pos (by omega)]

theorem ev_areElements (p g t : Int) (l : List Int) (hl : l.length ≤ 35184372088832) : Ev (fun k => impl_field_areElements.f k p g t l) (elB p l) := by
  have key : ∀ (d i : Nat), i + d = l.length → Ev (fun k => impl_field_areElements.l0 k l (l.length : Int) (i : Int) p g t) (elB p (l.drop i)) := by
    intro d
    induction d with
    | zero =>
      intro i hi
      refine ev_s ?_
      have h1 : ¬ ((i : Int) < (l.length : Int)) := by omega
      simp only [impl_field_areElements.l0, h1, if_false]
      rw [List.drop_of_length_le (by omega)]
      exact Ev.now _
    | succ d ih =>
      intro i hi
      refine ev_s ?_
      have h1 : (i : Int) < (l.length : Int) := by omega
      have h2 : (0 : Int) ≤ (i : Int) := by omega
      simp only [impl_field_areElements.l0, h1, h2, if_true, w_succ (n := i) (by omega)]
      rw [elB_drop (by omega)]
      by_cases c1 : rd l (i : Int) < 0
      · simp only [c1, if_true, show decide (0 ≤ rd l (i : Int)) = false from decide_eq_false (by omega), Bool.false_and]
        exact Ev.now _
      · by_cases c2 : rd l (i : Int) ≥ p
        · simp only [c1, c2, if_true, if_false, show decide (rd l (i : Int) < p) = false from decide_eq_false (by omega), Bool.false_and, Bool.and_false]
          exact Ev.now _
        · simp only [c1, c2, if_false, show decide (0 ≤ rd l (i : Int)) = true from decide_eq_true (by omega), show decide (rd l (i : Int) < p) = true from decide_eq_true (by omega), Bool.true_and]
          exact ih (i + 1) (by omega)
  exact key l.length 0 (by omega)

theorem ev_seriesField1 {f : Int} {a : List Int} (h : SerOk f a) : Ev (fun k => impl_seriesField.f k f [a]) (md f, gn f, tp f, true) := by
  obtain ⟨hf, h1, h2, he⟩ := h
  unfold impl_seriesField.f
  have hl : (([a] : List (List Int)).length : Int) = 1 := rfl
  have hr : rd_L1 [a] 0 = a := rfl
  have n1 : ¬ ((a.length : Int) < 1) := by omega
  have n2 : ¬ ((a.length : Int) > 64) := by omega
  simp only [ev_fieldOf hf, Option.bind_some, if_true, hl]
  refine ev_s ?_
  simp only [impl_seriesField.l0, hl, hr, n1, n2, if_false, show (0 : Int) < 1 from by decide, show (0 : Int) ≤ 0 from by decide, if_true]
  refine Ev.bind (ev_areElements _ _ _ a (by omega)) ?_
  simp only [elB_iff.2 he, if_true, w64 (x := 0 + 1) (by decide) (by decide)]
  refine ev_s ?_
  simp only [impl_seriesField.l0, hl, show ¬ ((0 : Int) + 1 < 1) from by decide, if_false]
  exact Ev.now _
theorem ev_seriesField1_bad {f : Int} {a : List Int} (h : ¬ SerOk f a) : Ev (fun k => impl_seriesField.f k f [a]) (0, 0, 0, false) := by
  unfold impl_seriesField.f
  by_cases hf : 0 ≤ f ∧ f < 9
  · have hl : (([a] : List (List Int)).length : Int) = 1 := rfl
    have hr : rd_L1 [a] 0 = a := rfl
    simp only [ev_fieldOf hf, Option.bind_some, if_true, hl]
    refine ev_s ?_
    simp only [impl_seriesField.l0, hl, hr, show (0 : Int) < 1 from by decide, show (0 : Int) ≤ 0 from by decide, if_true]
    by_cases n1 : (a.length : Int) < 1
    · simp only [n1, if_true]; exact Ev.now _
    · by_cases n2 : (a.length : Int) > 64
      · simp only [n1, n2, if_true, if_false]; exact Ev.now _
      · simp only [n1, n2, if_false]
        refine Ev.bind (ev_areElements _ _ _ a (by omega)) ?_
        have he : elB (md f) a = false := by
          rw [← Bool.not_eq_true, elB_iff]
          intro he
          exact h ⟨hf, by omega, by omega, he⟩
        simp only [he, Bool.false_eq_true, if_false]
        exact Ev.now _
  · simp only [ev_fieldOf_bad hf, Option.bind_some, Bool.false_eq_true, if_false]
    exact Ev.now _

theorem ev_mul {p : Int} (hp : Pm p) (g t : Int) {a b : Int} (ha : 0 ≤ a ∧ a < p) (hb : 0 ≤ b ∧ b < p) : impl_field_mul.f p g t a b = some (a * b % p) := by
  unfold Pm at hp
  have h := mul_lt_big ha.1 ha.2 hb.1 hb.2 hp.2
  unfold impl_field_mul.f
  rw [if_neg (by omega), w64 (by omega) (by omega), tmod_nn (by omega)]

theorem ev_add {p : Int} (hp : Pm p) (g t : Int) {a b : Int} (ha : 0 ≤ a ∧ a < p) (hb : 0 ≤ b ∧ b < p) : impl_field_add.f p g t a b = some ((a + b) % p) := by
  unfold Pm at hp
  unfold impl_field_add.f
  rw [if_neg (by omega), w64 (by omega) (by omega), tmod_nn (by omega)]

theorem ev_sub {p : Int} (hp : Pm p) (g t : Int) {a b : Int} (ha : 0 ≤ a ∧ a < p) (hb : 0 ≤ b ∧ b < p) : impl_field_sub.f p g t a b = some ((a - b) % p) := by
  unfold Pm at hp
  unfold impl_field_sub.f
  rw [if_neg (by omega), w64 (x := a - b) (by omega) (by omega), w64 (by omega) (by omega), tmod_nn (by omega), Int.add_emod_right]

/-- The element m with the sign that the program gives to it. -/
def sE (e : List Int) (m : Nat) : Int := if (m + 1) % 2 = 0 then -(rd e (m : Int)) else rd e (m : Int)
def nwA (e out : List Int) (m : Nat) : Int := ((out.length + 1 : Nat) : Int) * sE e out.length + sm m (fun q => sE e q * rd out ((out.length - 1 - q : Nat) : Int))
def nwF (p : Int) (e out : List Int) : Int := nwA e out out.length % p
def nwS (p : Int) (e : List Int) : List Int := bld (nwF p e) e.length
theorem nwS_len (p : Int) (e : List Int) : (nwS p e).length = e.length := bld_len _ _
theorem nwA_succ (e out : List Int) (m : Nat) : nwA e out (m + 1) = nwA e out m + sE e m * rd out ((out.length - 1 - m : Nat) : Int) := by
  unfold nwA; rw [sm_succ, Int.add_assoc]
theorem nwA_zero (e out : List Int) : nwA e out 0 = ((out.length + 1 : Nat) : Int) * sE e out.length := by
  unfold nwA; rw [sm_zero, Int.add_zero]
theorem sE_even {e : List Int} {m : Nat} (h : (m + 1) % 2 = 0) : sE e m = -(rd e (m : Int)) := if_pos h
theorem sE_odd {e : List Int} {m : Nat} (h : ¬ ((m + 1) % 2 = 0)) : sE e m = rd e (m : Int) := if_neg h
theorem neg_step {p A x y : Int} : (A % p + (0 - x * y % p) % p) % p = (A + -x * y) % p := by
  rw [eadd_l, eadd_r]
  exact eadd rfl (by rw [esub_r, Int.zero_sub, Int.neg_mul])
theorem pos_step {p A x y : Int} : (A % p + x * y % p) % p = (A + x * y) % p := by rw [eadd_l, eadd_r]
theorem neg_step2 {p A x y : Int} : (A % p + (0 - x) % p * y % p) % p = (A + -x * y) % p := by
  rw [eadd_l, eadd_r]
  exact eadd rfl (by rw [emul_l, Int.zero_sub])
theorem par_t (m : Nat) : (Int.tmod ((m + 1 : Nat) : Int) 2 = 0) ↔ ((m + 1) % 2 = 0) := by
  rw [tmod_nn (Int.natCast_nonneg _)]
  omega

theorem ev_signed {p : Int} (hp : Pm p) (g t : Int) {e : List Int} (he : El p e) (hl : e.length ≤ 64) {m : Nat} (hm : m < e.length) : impl_NewtonSigned.f ((m + 1 : Nat) : Int) p g t e = some (sE e m % p) := by
  have g2 : (0 : Int) ≤ (m : Int) := Int.natCast_nonneg _
  have g3 : (m : Int) < (e.length : Int) := by omega
  have e1 : wrap64 (((m + 1 : Nat) : Int) - 1) = (m : Int) := by rw [w64 (by omega) (by omega)]; omega
  have hx := he.rd hp.pos (m : Int)
  unfold impl_NewtonSigned.f
  by_cases c : (m + 1) % 2 = 0
  · have c' := (par_t m).2 c
    simp only [c', e1, g2, g3, if_true, ev_sub hp g t (a := 0) ⟨Int.le_refl 0, hp.pos⟩ hx, Option.bind_some]
    rw [sE_even c, Int.zero_sub]
  · have c' : ¬ (Int.tmod ((m + 1 : Nat) : Int) 2 = 0) := fun h => c ((par_t m).1 h)
    simp only [c', e1, g2, g3, if_true, if_false]
    rw [sE_odd c, em_id hx.1 hx.2]
theorem ev_iNewton {f : Int} {e : List Int} (h : SerOk f e) : Ev (fun k => impl_Newton.f k f e) (nwS (md f) e, true) := by
  have hn := h.2.2.1
  have hp := h.pm
  have he := h.2.2.2
  have hF : ∀ out, 0 ≤ nwF (md f) e out ∧ nwF (md f) e out < md f := fun out => em_lt hp.pos
  have inner : ∀ (out : List Int) (r : List Int × Bool), out.length < e.length → El (md f) out → Ev (fun k => impl_Newton.l0 k e (out ++ [nwF (md f) e out]) ((out.length + 1 + 1 : Nat) : Int) (md f) (gn f) (tp f)) r →
      ∀ (d m : Nat), m + d = out.length → Ev (fun k => impl_Newton.l1 k e out ((out.length + 1 : Nat) : Int) (nwA e out m % md f) ((m + 1 : Nat) : Int) (md f) (gn f) (tp f)) r := by
    intro out r ho hel hr d
    induction d with
    | zero =>
      intro m hm
      refine ev_s ?_
      have g1 : ¬ (((m + 1 : Nat) : Int) < ((out.length + 1 : Nat) : Int)) := by omega
      have g2 : out.length < 17592186044416 := by omega
      simp only [impl_Newton.l1, g1, g2, if_true, if_false, w_succ (n := out.length + 1) (by omega)]
      rw [show m = out.length by omega]
      exact hr
    | succ d ih =>
      intro m hm
      have hs := ih (m + 1) (by omega)
      refine ev_s ?_
      have g1 : ((m + 1 : Nat) : Int) < ((out.length + 1 : Nat) : Int) := by omega
      have g3 : m < e.length := by omega
      have g4 : (0 : Int) ≤ ((out.length - 1 - m : Nat) : Int) := Int.natCast_nonneg _
      have g5 : ((out.length - 1 - m : Nat) : Int) < (out.length : Int) := by omega
      have e2 : wrap64 (wrap64 (((out.length + 1 : Nat) : Int) - ((m + 1 : Nat) : Int)) - 1) = ((out.length - 1 - m : Nat) : Int) := by
        rw [w64 (x := ((out.length + 1 : Nat) : Int) - ((m + 1 : Nat) : Int)) (by omega) (by omega), w64 (by omega) (by omega)]; omega
      have e3 : wrap64 (((m + 1 : Nat) : Int) + 1) = ((m + 1 + 1 : Nat) : Int) := w_succ (n := m + 1) (by omega)
      rw [nwA_succ] at hs
      have hy := hel.rd hp.pos ((out.length - 1 - m : Nat) : Int)
      simp only [impl_Newton.l1, g1, g4, g5, e2, e3, if_true, ev_signed hp _ _ he hn g3, ev_mul hp _ _ (em_lt hp.pos) hy, ev_add hp _ _ (em_lt hp.pos) (em_lt hp.pos), Option.bind_some, emul_l, eadd_l, eadd_r]
      exact hs
  have outer : ∀ (d n : Nat), n + d = e.length → Ev (fun k => impl_Newton.l0 k e (bld (nwF (md f) e) n) ((n + 1 : Nat) : Int) (md f) (gn f) (tp f)) (nwS (md f) e, true) := by
    intro d
    induction d with
    | zero =>
      intro n hd
      refine ev_s ?_
      have g1 : ¬ (((n + 1 : Nat) : Int) ≤ (e.length : Int)) := by omega
      simp only [impl_Newton.l0, g1, if_false]
      rw [show n = e.length by omega]; exact Ev.now _
    | succ d ih =>
      intro n hd
      have hl : (bld (nwF (md f) e) n).length = n := bld_len _ _
      have hnext := ih (n + 1) (by omega)
      have hi := inner (bld (nwF (md f) e) n) (nwS (md f) e, true) (by omega) (bld_el hF n) (by rw [hl]; exact hnext) n 0 (by omega)
      rw [nwA_zero, hl] at hi
      refine ev_s ?_
      have g1 : ((n + 1 : Nat) : Int) ≤ (e.length : Int) := by omega
      have g2 : ¬ (md f = 0) := fun c => by have := hp.pos; rw [c] at this; exact absurd this (by decide)
      have g3 : n < e.length := by omega
      have ei : Int.tmod ((n + 1 : Nat) : Int) (md f) = ((n + 1 : Nat) : Int) % md f := tmod_nn (Int.natCast_nonneg _)
      simp only [impl_Newton.l0, g1, g2, if_true, if_false, ei, ev_signed hp _ _ he hn g3, ev_mul hp _ _ (em_lt (a := ((n + 1 : Nat) : Int)) hp.pos) (em_lt hp.pos), Option.bind_some, emul_l, emul_r]
      exact hi
  unfold impl_Newton.f
  refine Ev.bind (ev_seriesField1 h) ?_
  simp only [if_true]
  exact outer e.length 0 (by omega)
theorem ev_iNewton_bad {f : Int} {e : List Int} (h : ¬ SerOk f e) : Ev (fun k => impl_Newton.f k f e) ([], false) := by
  unfold impl_Newton.f
  refine Ev.bind (ev_seriesField1_bad h) ?_
  simp only [Bool.false_eq_true, if_false]; exact Ev.now _

/-- The elementary sums of the first i elements. -/
def esS (p : Int) (x : List Int) : Nat → List Int
  | 0 => [1]
  | i + 1 => (List.range (i + 2)).map (fun (c : Nat) => (rd (esS p x i) (c : Int) + (if c = 0 then 0 else rd (esS p x i) ((c - 1 : Nat) : Int) * rd x (i : Int))) % p)
theorem esS_len (p : Int) (x : List Int) : ∀ i, (esS p x i).length = i + 1
  | 0 => rfl
  | i + 1 => by simp [esS]
theorem esS_el {p : Int} (hp : 1 < p) (x : List Int) : ∀ i, El p (esS p x i)
  | 0 => fun y hy => by
    have : y = 1 := List.mem_singleton.1 hy
    omega
  | i + 1 => El.map (fun c _ => em_lt (by omega))
theorem esS_rd (p : Int) (x : List Int) (i : Nat) {c : Nat} (h : c < i + 2) : rd (esS p x (i + 1)) (c : Int) = (rd (esS p x i) (c : Int) + (if c = 0 then 0 else rd (esS p x i) ((c - 1 : Nat) : Int) * rd x (i : Int))) % p := by
  show rd ((List.range (i + 2)).map _) (c : Int) = _
  rw [rd_map _ h]
theorem esS_EP (p : Int) (x : List Int) : ∀ (i c : Nat), rd (esS p x i) (c : Int) % p = EP (fun j => rd x (j : Int)) i c % p
  | 0, c => by
    show rd [1] (c : Int) % p = sOne c % p
    cases c with
    | zero => rfl
    | succ c =>
      have : rd [1] ((c + 1 : Nat) : Int) = 0 := rd_out (by simp)
      rw [this]
      unfold sOne
      rw [if_neg (by omega)]
  | i + 1, c => by
    show _ = cm (EP (fun j => rd x (j : Int)) i) (lin (rd x (i : Int))) c % p
    rw [cm_lin]
    have h1 := esS_EP p x i c
    have h2 : (if c = 0 then 0 else rd (esS p x i) ((c - 1 : Nat) : Int) * rd x (i : Int)) % p = (if c = 0 then 0 else EP (fun j => rd x (j : Int)) i (c - 1) * rd x (i : Int)) % p := by
      by_cases c0 : c = 0
      · rw [if_pos c0, if_pos c0]
      · rw [if_neg c0, if_neg c0]; exact emul (esS_EP p x i (c - 1)) rfl
    by_cases h : c < i + 2
    · rw [esS_rd p x i h, Int.emod_emod]; exact eadd h1 h2
    · have z1 : rd (esS p x (i + 1)) (c : Int) = 0 := rd_out (by rw [esS_len]; omega)
      have z2 : rd (esS p x i) (c : Int) = 0 := rd_out (by rw [esS_len]; omega)
      have z3 : rd (esS p x i) ((c - 1 : Nat) : Int) = 0 := rd_out (by rw [esS_len]; omega)
      rw [z1, ← eadd h1 h2, z2, z3, if_neg (by omega), Int.zero_mul]; rfl
/-- The power sums of the program are those of the roots. -/
theorem nw_pw {p : Int} {x e : List Int} {n : Nat} (hn : e.length = n) (he : ∀ m : Nat, m < n → rd e (m : Int) = rd (esS p x n) ((m + 1 : Nat) : Int)) : ∀ k : Nat, k < n → rd (nwS p e) (k : Int) % p = pwS (fun j => rd x (j : Int)) n k % p := by
  have hs : ∀ m : Nat, m < n → sE e m % p = eA (fun j => rd x (j : Int)) n m % p := fun m hm => by
    have h := esS_EP p x n (m + 1)
    rw [← he m hm] at h
    unfold eA
    rw [sgn_par]
    by_cases c : (m + 1) % 2 = 0
    · rw [sE_even c, if_neg (by omega), Int.neg_mul, Int.one_mul]; exact eneg h
    · rw [sE_odd c, if_pos (by omega), Int.one_mul]; exact h
  have key : ∀ K k : Nat, k < K → k < n → rd (nwS p e) (k : Int) % p = pwS (fun j => rd x (j : Int)) n k % p := by
    intro K
    induction K with
    | zero => intro k hk; omega
    | succ K ih =>
      intro k hk hkn
      have e1 : rd (nwS p e) (k : Int) = nwF p e (bld (nwF p e) k) := by
        unfold nwS
        exact bld_at (nwF p e) (by omega)
      rw [e1, newton_rec]
      show nwA e (bld (nwF p e) k) (bld (nwF p e) k).length % p % p = _
      rw [bld_len, Int.emod_emod]
      unfold nwA
      rw [bld_len]
      refine eadd (emul rfl (hs k hkn)) (sm_econgr (fun m hm => emul (hs m (by omega)) ?_))
      have e2 : rd (bld (nwF p e) k) ((k - 1 - m : Nat) : Int) = rd (nwS p e) ((k - 1 - m : Nat) : Int) := by
        unfold nwS
        exact (bld_keep (nwF p e) (by omega) e.length (by omega)).symm
      rw [e2]
      exact ih (k - 1 - m) (by omega) (by omega)
  exact fun k hk => key (k + 1) k (by omega) hk
theorem nwS_el {p : Int} (hp : 0 < p) (e : List Int) : El p (nwS p e) := bld_el (fun out => em_lt hp) _
/-- The law's comparison. -/
theorem nwt_cmp {f : Int} (hf : 0 ≤ f ∧ f < 9) {x y : List Int} (hx : El (md f) x) (hl : x.length ≤ 20) (hy : y.length = x.length) (h : ∀ k : Nat, k < x.length → rd y (k : Int) = pwS (fun j => rd x (j : Int)) x.length k % md f) : Ev (fun k => laws_FnNewton.l2 k f x y 0) true := by
  have hp := pm_of hf
  have inner : ∀ (k : Nat), k < x.length → Ev (fun q => laws_FnNewton.l2 q f x y ((k + 1 : Nat) : Int)) true → ∀ (d i : Nat), i + d = x.length → Ev (fun q => laws_FnNewton.l3 q f x y (k : Int) (sm i (fun j => rd x (j : Int) ^ (k + 1)) % md f) (i : Int)) true := by
    intro k hk hr d
    have ew : ∀ _ : Unit, wrap64 ((k : Int) + 1) = ((k + 1 : Nat) : Int) := fun _ => w_succ (n := k) (by omega)
    induction d with
    | zero =>
      intro i hi
      refine ev_s ?_
      have g1 : ¬ ((i : Int) < (x.length : Int)) := by omega
      have g2 : (0 : Int) ≤ (k : Int) := Int.natCast_nonneg _
      have g3 : (k : Int) < (y.length : Int) := by omega
      have hi2 : i = x.length := by omega
      have e1 : (rd y (k : Int) = sm i (fun j => rd x (j : Int) ^ (k + 1)) % md f) = True := eq_true (by rw [h k hk, hi2]; rfl)
      simp only [laws_FnNewton.l3, g1, g2, g3, if_true, if_false, e1, ew ()]
      exact hr
    | succ d ih =>
      intro i hi
      have hs := ih (i + 1) (by omega)
      rw [sm_succ] at hs
      refine ev_s ?_
      have g1 : (i : Int) < (x.length : Int) := by omega
      have g2 : (0 : Int) ≤ (i : Int) := Int.natCast_nonneg _
      have ei : wrap64 ((i : Int) + 1) = ((i + 1 : Nat) : Int) := w_succ (n := i) (by omega)
      simp only [laws_FnNewton.l3, g1, g2, if_true, ew ()]
      refine Ev.bind (ev_PowerN hf (hx.rd hp.pos (i : Int)) (k + 1)) ?_
      simp only [ev_Add hf, Option.bind_some, ei, eadd_l, eadd_r]
      exact hs
  have outer : ∀ (d k : Nat), k + d = x.length → Ev (fun q => laws_FnNewton.l2 q f x y (k : Int)) true := by
    intro d
    induction d with
    | zero =>
      intro k hk
      refine ev_s ?_
      have g1 : ¬ ((k : Int) < (y.length : Int)) := by omega
      simp only [laws_FnNewton.l2, g1, if_false]; exact Ev.now _
    | succ d ih =>
      intro k hk
      have hi := inner k (by omega) (ih (k + 1) (by omega)) x.length 0 (Nat.zero_add _)
      rw [sm_zero, Int.zero_emod] at hi
      refine ev_s ?_
      have g1 : (k : Int) < (y.length : Int) := by omega
      simp only [laws_FnNewton.l2, g1, if_true]
      exact hi
  exact outer x.length 0 (Nat.zero_add _)
theorem nwt_end {f : Int} {x : List Int} (h : SerOk f x) (hl : x.length ≤ 20) (n : Nat) (hn : n = x.length) : Ev (fun k => laws_FnNewton.l0 k f x (esS (md f) x n) (n : Int)) true := by
  have hp := h.pm
  have h1 := h.2.1
  have hlen := esS_len (md f) x n
  refine ev_s ?_
  have g1 : ¬ ((n : Int) < (x.length : Int)) := by omega
  have g2 : 1 ≤ ((esS (md f) x n).length : Int) := by rw [hlen]; omega
  simp only [laws_FnNewton.l0, g1, if_false, g2, if_true]
  have hdl : ((esS (md f) x n).drop 1).length = n := by rw [List.length_drop, hlen]; omega
  have hel : El (md f) ((esS (md f) x n).drop 1) := fun y hy => esS_el (Int.lt_of_lt_of_le (by decide : (1 : Int) < 17) hp.1) x n y (List.mem_of_mem_drop hy)
  have hrd : ∀ m : Nat, m < n → rd ((esS (md f) x n).drop 1) (m : Int) = rd (esS (md f) x n) ((m + 1 : Nat) : Int) := fun m hm => by
    simp only [rd, Int.toNat_natCast, List.getD_eq_getElem?_getD, List.getElem?_drop, Nat.add_comm 1 m]
  have hok : SerOk f ((esS (md f) x n).drop 1) := ⟨h.1, by rw [hdl, hn]; exact h1, by rw [hdl, hn]; omega, hel⟩
  generalize (esS (md f) x n).drop 1 = e at *
  refine Ev.bind (ev_cp e (by omega)) ?_
  refine Ev.bind (ev_iNewton hok) ?_
  have g3 : (((nwS (md f) e).length : Int) != (x.length : Int)) = false := by rw [nwS_len, hdl, hn, bne_self_eq_false]
  simp only [if_true, g3]
  refine ev_s ?_
  simp only [laws_FnNewton.j3, Bool.false_eq_true, if_false]
  refine nwt_cmp h.1 h.2.2.2 hl (by rw [nwS_len, hdl, hn]) (fun k hk => ?_)
  have hb := (nwS_el hp.pos e).rd hp.pos (k : Int)
  have := nw_pw (p := md f) (x := x) hdl hrd k (by omega)
  rw [em_id hb.1 hb.2, hn] at this
  exact this
theorem FnNewton : laws_FnNewton.Pure := by
  intro L hm h8 hw
  refine Ev.rounds ?_
  unfold laws_FnNewton.f laws_big.f
  simp only [Option.bind_some]
  by_cases hbig : (L.length : Int) > 1048576
  · simp only [decide_eq_true hbig, if_true]; exact Ev.now _
  simp only [decide_eq_false hbig, Bool.false_eq_true, if_false]
  obtain ⟨f, x, hd, hxl⟩ := dr_DrawSeriesOk L (by omega)
  have out : Ev (fun k => laws_FnNewton.j0 k f x true) true := by
    refine ev_s ?_
    simp only [laws_FnNewton.j0, if_true]; exact Ev.now _
  refine Ev.bind hd ?_
  by_cases h : SerOk f x
  · refine Ev.bind (ev_SeriesOk h) ?_
    simp only [if_true]
    by_cases c : (x.length : Int) > 20
    · simp only [decide_eq_true c]; exact out
    simp only [decide_eq_false c]
    refine ev_s ?_
    simp only [laws_FnNewton.j0, Bool.false_eq_true, if_false]
    have hl : x.length ≤ 20 := by omega
    have hf := h.1
    have inner : ∀ (i : Nat), i < x.length → Ev (fun k => laws_FnNewton.l0 k f x (esS (md f) x (i + 1)) ((i + 1 : Nat) : Int)) true → ∀ (d j : Nat) (o : List Int), j + d = i + 1 → o.length = i + 2 →
        (∀ c : Nat, c < j + 1 → c < i + 2 → rd o (c : Int) = rd (esS (md f) x (i + 1)) (c : Int)) → (∀ c : Nat, j + 1 ≤ c → c < i + 2 → rd o (c : Int) = rd (esS (md f) x i) (c : Int)) →
        Ev (fun k => laws_FnNewton.l1 k f x (esS (md f) x i) (i : Int) o (j : Int)) true := by
      intro i hi hr d
      have hel := esS_len (md f) x i
      induction d with
      | zero =>
        intro j o hj ho h1 h2
        refine ev_s ?_
        have g1 : ¬ ((j : Int) < ((esS (md f) x i).length : Int)) := by rw [hel]; omega
        have ei : wrap64 ((i : Int) + 1) = ((i + 1 : Nat) : Int) := w_succ (n := i) (by omega)
        simp only [laws_FnNewton.l1, g1, if_false, ei]
        have e : o = esS (md f) x (i + 1) := ext_rd (by rw [ho, esS_len]) (fun c hc => h1 c (by omega) (by omega))
        rw [e]; exact hr
      | succ d ih =>
        intro j o hj ho h1 h2
        refine ev_s ?_
        have g1 : (j : Int) < ((esS (md f) x i).length : Int) := by rw [hel]; omega
        have g2 : (0 : Int) ≤ ((j + 1 : Nat) : Int) := Int.natCast_nonneg _
        have g3 : ((j + 1 : Nat) : Int) < (o.length : Int) := by omega
        have g4 : (0 : Int) ≤ (j : Int) := Int.natCast_nonneg _
        have g5 : (0 : Int) ≤ (i : Int) := Int.natCast_nonneg _
        have g6 : (i : Int) < (x.length : Int) := by omega
        have ej : wrap64 ((j : Int) + 1) = ((j + 1 : Nat) : Int) := w_succ (n := j) (by omega)
        simp only [laws_FnNewton.l1, g1, ej, g2, g3, g4, g5, g6, if_true, ev_Mul hf, ev_Add hf, Option.bind_some, Int.toNat_natCast, eadd_r]
        refine ih (j + 1) _ (by omega) (by rw [List.length_set]; exact ho) (fun c hc hc2 => ?_) (fun c hc hc2 => ?_)
        · by_cases q : j + 1 = c
          · subst q
            rw [rd_set_eq (by omega), h2 (j + 1) (Nat.le_refl _) hc2, esS_rd _ _ _ hc2, if_neg (by omega), Nat.add_sub_cancel]
          · rw [rd_set_ne q]; exact h1 c (by omega) hc2
        · rw [rd_set_ne (by omega)]; exact h2 c (by omega) hc2
    have outer : ∀ (d i : Nat), i + d = x.length → Ev (fun k => laws_FnNewton.l0 k f x (esS (md f) x i) (i : Int)) true := by
      intro d
      induction d with
      | zero => intro i hi; exact nwt_end h hl i (by omega)
      | succ d ih =>
        intro i hi
        have hel := esS_len (md f) x i
        have hp := h.pm
        have hE := esS_el (Int.lt_of_lt_of_le (by decide : (1 : Int) < 17) hp.1) x i
        refine ev_s ?_
        have g1 : (i : Int) < (x.length : Int) := by omega
        have g2 : (esS (md f) x i).length < 17592186044416 := by rw [hel]; omega
        simp only [laws_FnNewton.l0, g1, if_true]
        refine Ev.bind (ev_cp _ (by rw [hel]; omega)) ?_
        simp only [g2, if_true]
        refine inner i (by omega) (ih (i + 1) (by omega)) (i + 1) 0 _ (by omega) (by rw [List.length_append, hel]; rfl) (fun c hc hc2 => ?_) (fun c hc hc2 => ?_)
        · obtain rfl : c = 0 := by omega
          have hb := hE.rd hp.pos ((0 : Nat) : Int)
          rw [rd_app_l (by rw [hel]; omega), esS_rd _ _ _ hc2, if_pos rfl, Int.add_zero, em_id hb.1 hb.2]
        · by_cases q : c < i + 1
          · rw [rd_app_l (by rw [hel]; exact q)]
          · have q2 : c = i + 1 := by omega
            rw [rd_app_r (by rw [hel]; exact q2), rd_out (by rw [hel]; omega)]
    exact outer x.length 0 (Nat.zero_add _)
  · refine Ev.bind (ev_SeriesOk_bad h) ?_
    simp only [Bool.false_eq_true, if_false]; exact out

end Go.Proofs.Ytgjogfohknjpmaa.Pure
