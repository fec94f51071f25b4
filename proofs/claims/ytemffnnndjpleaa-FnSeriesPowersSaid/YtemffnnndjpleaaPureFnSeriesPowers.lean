/- FnSeriesPowers returns true for every input: the powers by d and e have the power by d + e for their product, and the root of a square is what was squared. -/
import Derived.Test.YtemffnnndjpleaaPFnSeriesPowersx8
import Derived.Test.YtemffnnndjpleaaGB
import Derived.Test.YtemffnnndjpleaaGK
import Derived.Test.YtemffnnndjpleaaGQ
set_option linter.unusedVariables false
set_option linter.unusedSimpArgs false
namespace Go.Proofs.Ytemffnnndjpleaa.Pure
open Go.RowKit Go.Proofs.Ytemffnnndjpleaa.PFnSeriesPowers Go.Proofs.YtemffnnndjpleaaW.PrintWords Go.Proofs.YtemffnnndjpleaaW.PrintLast Go.Proofs.YtemffnnndjpleaaW.PrintMore G7
theorem dr_New (L : List Int) (hL : L.length ≤ 140737488351232) : ∃ h, Ev (fun k => spec_l01New.f k L) (L, 0, h) := by
  have key : ∀ (d i : Nat) (x : Int), i + d = 4000 → ∃ h, Ev (fun k => spec_l01New.l0 k L x (i : Int)) (L, 0, h) := by
    intro d
    induction d with
    | zero =>
      intro i x hi
      refine ⟨x, ev_s ?_⟩
      have h2 : ¬ ((i : Int) < 4000) := by omega
      by_cases h1 : (i : Int) < (L.length : Int)
      · simp only [spec_l01New.l0, h1, h2, if_true, if_false]; exact Ev.now _
      · simp only [spec_l01New.l0, h1, if_false]; exact Ev.now _
    | succ d ih =>
      intro i x hi
      have h2 : (i : Int) < 4000 := by omega
      have h3 : (0 : Int) ≤ (i : Int) := by omega
      by_cases h1 : (i : Int) < (L.length : Int)
      · obtain ⟨h, hh⟩ := ih (i + 1) (Go.bits .and .i64 (wrap64 ((wrap64 ((wrap64 (x * 149)) + (wrap64 (rd L (i : Int))))) + 11)) 1073741823) (by omega)
        refine ⟨h, ev_s ?_⟩
        simp only [spec_l01New.l0, h1, h2, h3, if_true, w_succ (n := i) (by omega)]
        exact hh
      · refine ⟨x, ev_s ?_⟩
        simp only [spec_l01New.l0, h1, if_false]; exact Ev.now _
  unfold spec_l01New.f
  exact key 4000 0 _ (by omega)

theorem dr_Byte (L : List Int) (hL : L.length ≤ 140737488351232) (i h : Int) (hi : 0 ≤ i) : ∃ x i' h', spec_l01Byte.f L i h = some (x, i', h') ∧ 0 ≤ i' ∧ 0 ≤ x ∧ x ≤ 255 := by
  unfold spec_l01Byte.f
  simp only [i64_and255]
  by_cases c : i < (L.length : Int)
  · rw [if_pos c, if_pos hi]
    exact ⟨_, _, _, rfl, by rw [w64 (by omega) (by omega)]; omega, by omega, by omega⟩
  · rw [if_neg c]
    exact ⟨_, _, _, rfl, hi, by omega, by omega⟩

theorem dr_Below (L : List Int) (hL : L.length ≤ 140737488351232) (i h n : Int) (hi : 0 ≤ i) : ∃ x i' h', spec_l01Below.f L i h n = some (x, i', h') ∧ 0 ≤ i' ∧ 0 ≤ x ∧ (0 < n → x < n) := by
  unfold spec_l01Below.f
  by_cases c : n ≤ 0
  · rw [if_pos c]
    exact ⟨_, _, _, rfl, hi, by omega, by omega⟩
  · rw [if_neg c]
    by_cases c2 : n ≤ 256
    · rw [if_pos c2]
      obtain ⟨x, i1, h1, e1, hi1, hx0, hx1⟩ := dr_Byte L hL i h hi
      simp only [e1, Option.bind_some]
      rw [if_neg (by omega), tmod_nn hx0]
      exact ⟨_, _, _, rfl, hi1, (em_lt (by omega)).1, fun _ => (em_lt (by omega)).2⟩
    · rw [if_neg c2]
      obtain ⟨x, i1, h1, e1, hi1, hx0, hx1⟩ := dr_Byte L hL i h hi
      obtain ⟨y, i2, h2, e2, hi2, hy0, hy1⟩ := dr_Byte L hL i1 h1 hi1
      obtain ⟨z, i3, h3, e3, hi3, hz0, hz1⟩ := dr_Byte L hL i2 h2 hi2
      simp only [e1, e2, e3, Option.bind_some]
      rw [if_neg (by omega), w64 (x := x * 65536) (by omega) (by omega), w64 (x := y * 256) (by omega) (by omega), w64 (x := x * 65536 + y * 256) (by omega) (by omega), w64 (by omega) (by omega), tmod_nn (by omega)]
      exact ⟨_, _, _, rfl, hi3, (em_lt (by omega)).1, fun _ => (em_lt (by omega)).2⟩

theorem dr_Once (L : List Int) (hL : L.length ≤ 140737488351232) (i h n : Int) (hi : 0 ≤ i) : ∃ b i' h', spec_l01Once.f L i h n = some (b, i', h') ∧ 0 ≤ i' := by
  unfold spec_l01Once.f
  obtain ⟨x, i1, h1, e1, hi1, hx0, hx1⟩ := dr_Below L hL i h n hi
  simp only [e1, Option.bind_some]
  exact ⟨_, _, _, rfl, hi1⟩

theorem dr_Pick (L : List Int) (hL : L.length ≤ 140737488351232) (i h : Int) (l : List Int) (hl : 0 < l.length) (hi : 0 ≤ i) : ∃ x i' h', spec_l01PickInt.f L i h l = some (x, i', h') ∧ 0 ≤ i' ∧ x ∈ l := by
  unfold spec_l01PickInt.f
  obtain ⟨x, i1, h1, e1, hi1, hx0, hx1⟩ := dr_Below L hL i h (l.length : Int) hi
  have hx2 := hx1 (by omega)
  simp only [e1, Option.bind_some]
  rw [if_pos hx0, if_pos hx2]
  refine ⟨_, _, _, rfl, hi1, ?_⟩
  obtain ⟨n, rfl⟩ : ∃ n : Nat, x = n := ⟨x.toNat, by omega⟩
  rw [rd_at (by omega)]
  exact List.getElem_mem _

theorem dr_Field (L : List Int) (hL : L.length ≤ 140737488351232) (i h : Int) (hi : 0 ≤ i) : ∃ x i' h', spec_l01DrawField.f L i h = some (x, i', h') ∧ 0 ≤ i' ∧ -1 ≤ x ∧ x ≤ 100 := by
  unfold spec_l01DrawField.f
  obtain ⟨b, i1, h1, e1, hi1⟩ := dr_Once L hL i h 20 hi
  simp only [e1, Option.bind_some]
  cases b with
  | true =>
    obtain ⟨x, i2, h2, e2, hi2, hx⟩ := dr_Pick L hL i1 h1 ([-1, 9, 100] : List Int) (by decide) hi1
    simp only [e2, Option.bind_some, if_true]
    simp only [List.mem_cons, List.mem_nil_iff, or_false] at hx
    exact ⟨_, _, _, rfl, hi2, by omega, by omega⟩
  | false =>
    obtain ⟨x, i2, h2, e2, hi2, hx0, hx1⟩ := dr_Below L hL i1 h1 9 hi1
    have := hx1 (by omega)
    simp only [e2, Option.bind_some, Bool.false_eq_true, if_false]
    exact ⟨_, _, _, rfl, hi2, by omega, by omega⟩

theorem dr_Length (L l2 : List Int) (hL : L.length ≤ 140737488351232) (hl2 : l2.length ≤ 140737488351232) (i h f : Int) (hi : 0 ≤ i) : ∃ n i' h', Ev (fun k => spec_l06DrawLength.f k L i h f l2) (n, i', h') ∧ 0 ≤ n ∧ n ≤ 100 ∧ 0 ≤ i' := by
  have j1 : ∀ x i h : Int, 0 ≤ x → x ≤ 100 → 0 ≤ i → ∃ n i' h', Ev (fun k => spec_l06DrawLength.j1 k x L i h) (n, i', h') ∧ 0 ≤ n ∧ n ≤ 100 ∧ 0 ≤ i' := by
    intro x i h h0 h1 hi
    obtain ⟨b, i1, h1, e1, hi1⟩ := dr_Once L hL i h 20 hi
    cases b with
    | true =>
      obtain ⟨y, i2, h2, e2, hi2, hy⟩ := dr_Pick L hL i1 h1 ([0, 1, 17, 18, 64, 65] : List Int) (by decide) hi1
      simp only [List.mem_cons, List.mem_nil_iff, or_false] at hy
      refine ⟨y, i2, h2, ev_s ?_, by omega, by omega, hi2⟩
      simp only [spec_l06DrawLength.j1, e1, e2, Option.bind_some, if_true]; exact Ev.now _
    | false =>
      refine ⟨x, i1, h1, ev_s ?_, by omega, by omega, hi1⟩
      simp only [spec_l06DrawLength.j1, e1, Option.bind_some, Bool.false_eq_true, if_false]; exact Ev.now _
  have j0 : ∀ (x : Int) (b : Bool) (i h : Int), 0 ≤ x → x ≤ 100 → 0 ≤ i → ∃ n i' h', Ev (fun k => spec_l06DrawLength.j0 k x b L i h) (n, i', h') ∧ 0 ≤ n ∧ n ≤ 100 ∧ 0 ≤ i' := by
    intro x b i h h0 h1 hi
    cases b with
    | true =>
      obtain ⟨n, i', h', e, r⟩ := j1 17 i h (by omega) (by omega) hi
      refine ⟨n, i', h', ev_s ?_, r⟩
      simp only [spec_l06DrawLength.j0, if_true]; exact e
    | false =>
      obtain ⟨n, i', h', e, r⟩ := j1 x i h h0 h1 hi
      refine ⟨n, i', h', ev_s ?_, r⟩
      simp only [spec_l06DrawLength.j0, Bool.false_eq_true, if_false]; exact e
  have hs : ∃ s, spec_l01Size.f l2 40 = some s ∧ s ≤ 40 := by
    unfold spec_l01Size.f
    rw [w64 (x := (l2.length : Int) / 16) (by omega) (by omega), w64 (by omega) (by omega)]
    by_cases c : 2 + (l2.length : Int) / 16 > 40
    · rw [if_pos c]; exact ⟨_, rfl, by omega⟩
    · rw [if_neg c]; exact ⟨_, rfl, by omega⟩
  obtain ⟨s, es, hs⟩ := hs
  unfold spec_l06DrawLength.f
  obtain ⟨x, i1, h1, e1, hi1, hx0, hx1⟩ := dr_Below L hL i h s hi
  have hx2 : x ≤ 40 := by
    by_cases c : 0 < s
    · have := hx1 c; omega
    · have e0 : spec_l01Below.f L i h s = some (0, i, h) := by unfold spec_l01Below.f; rw [if_pos (by omega)]
      rw [e0] at e1
      injection e1 with e1
      injection e1 with e1 _
      omega
  simp only [es, e1, Option.bind_some, w64 (x := 1 + x) (by omega) (by omega)]
  by_cases c : f = 0
  · obtain ⟨b, i2, h2, e2, hi2⟩ := dr_Once L hL i1 h1 6 hi1
    simp only [c, e2, Option.bind_some, if_true]
    cases b with
    | true => simp only [if_true]; exact j0 _ _ _ _ (by omega) (by omega) hi2
    | false => simp only [Bool.false_eq_true, if_false]; exact j0 _ _ _ _ (by omega) (by omega) hi2
  · simp only [c, if_false]; exact j0 _ _ _ _ (by omega) (by omega) hi1

theorem ev_Modulus (f : Int) : spec_Modulus.f f = some (md f) := by
  unfold spec_Modulus.f md
  by_cases h0 : f = 0
  · rw [if_pos h0, if_pos h0]
  rw [if_neg h0, if_neg h0]
  by_cases h1 : f = 1
  · rw [if_pos h1, if_pos h1]
  rw [if_neg h1, if_neg h1]
  by_cases h2 : f = 2
  · rw [if_pos h2, if_pos h2]
  rw [if_neg h2, if_neg h2]
  by_cases h3 : f = 3
  · rw [if_pos h3, if_pos h3]
  rw [if_neg h3, if_neg h3]
  by_cases h4 : f = 4
  · rw [if_pos h4, if_pos h4]
  rw [if_neg h4, if_neg h4]
  by_cases h5 : f = 5
  · rw [if_pos h5, if_pos h5]
  rw [if_neg h5, if_neg h5]
  by_cases h6 : f = 6
  · rw [if_pos h6, if_pos h6]
  rw [if_neg h6, if_neg h6]
  by_cases h7 : f = 7
  · rw [if_pos h7, if_pos h7]
  rw [if_neg h7, if_neg h7]
  by_cases h8 : f = 8
  · rw [if_pos h8, if_pos h8]
  rw [if_neg h8, if_neg h8]

theorem dr_Element (L : List Int) (hL : L.length ≤ 140737488351232) (i h f : Int) (hi : 0 ≤ i) : ∃ x i' h', spec_l01DrawElement.f L i h f = some (x, i', h') ∧ 0 ≤ i' := by
  unfold spec_l01DrawElement.f
  simp only [ev_Modulus, Option.bind_some]
  by_cases c : md f = 0
  · obtain ⟨x, i1, h1, e1, hi1, _⟩ := dr_Below L hL i h 50 hi
    simp only [c, e1, Option.bind_some, if_true]
    exact ⟨_, _, _, rfl, hi1⟩
  · obtain ⟨x, i1, h1, e1, hi1, _⟩ := dr_Below L hL i h 6 hi
    simp only [c, e1, Option.bind_some, if_false]
    by_cases c0 : x = 0
    · obtain ⟨y, i2, h2, e2, hi2, _⟩ := dr_Below L hL i1 h1 3 hi1
      simp only [c0, e2, Option.bind_some, if_true]
      exact ⟨_, _, _, rfl, hi2⟩
    by_cases c1 : x = 1
    · obtain ⟨y, i2, h2, e2, hi2, _⟩ := dr_Below L hL i1 h1 3 hi1
      simp only [c0, c1, e2, Option.bind_some, if_true, if_false]
      exact ⟨_, _, _, rfl, hi2⟩
    by_cases c2 : x = 2
    · obtain ⟨y, i2, h2, e2, hi2, _⟩ := dr_Below L hL i1 h1 16777216 hi1
      obtain ⟨z, i3, h3, e3, hi3, _⟩ := dr_Below L hL i2 h2 256 hi2
      simp only [c0, c1, c2, e2, e3, Option.bind_some, if_true, if_false]
      exact ⟨_, _, _, rfl, hi3⟩
    · obtain ⟨y, i2, h2, e2, hi2, _⟩ := dr_Below L hL i1 h1 30 hi1
      simp only [c0, c1, c2, e2, Option.bind_some, if_false]
      exact ⟨_, _, _, rfl, hi2⟩

theorem dr_List (L : List Int) (hL : L.length ≤ 140737488351232) (i h f n : Int) (hi : 0 ≤ i) (hn : n ≤ 1048576) : ∃ out i' h', Ev (fun k => spec_l01DrawList.f k L i h f n) (out, i', h') ∧ out.length = n.toNat ∧ 0 ≤ i' := by
  have key : ∀ (d c : Nat) (out : List Int) (i h : Int), c + d = n.toNat → out.length = c → 0 ≤ i → ∃ out' i' h', Ev (fun k => spec_l01DrawList.l0 k f n out (c : Int) L i h) (out', i', h') ∧ out'.length = n.toNat ∧ 0 ≤ i' := by
    intro d
    induction d with
    | zero =>
      intro c out i h hc ho hi
      refine ⟨out, i, h, ev_s ?_, by omega, hi⟩
      have h1 : ¬ ((c : Int) < n) := by omega
      simp only [spec_l01DrawList.l0, h1, if_false]; exact Ev.now _
    | succ d ih =>
      intro c out i h hc ho hi
      obtain ⟨x, i1, h1, e1, hi1⟩ := dr_Element L hL i h f hi
      obtain ⟨o2, i2, h2, e2, hl2, hi2⟩ := ih (c + 1) (out ++ [x]) i1 h1 (by omega) (by simp [ho]) hi1
      refine ⟨o2, i2, h2, ev_s ?_, hl2, hi2⟩
      have g1 : (c : Int) < n := by omega
      have g2 : out.length < 17592186044416 := by omega
      simp only [spec_l01DrawList.l0, g1, g2, e1, Option.bind_some, if_true, w_succ (n := c) (by omega)]
      exact e2
  unfold spec_l01DrawList.f
  exact key n.toNat 0 [] i h (by omega) rfl hi

theorem dr_Series (L : List Int) (hL : L.length ≤ 140737488351232) (i h f n first : Int) (hi : 0 ≤ i) (hn : n ≤ 1048576) : ∃ out i' h', Ev (fun k => spec_l06DrawSeries.f k L i h f n first) (out, i', h') ∧ out.length = n.toNat ∧ 0 ≤ i' := by
  have j2 : ∀ (out : List Int) (b : Bool) (i h : Int), out.length = n.toNat → 0 ≤ i → (b = true → 0 < n) → ∃ out' i' h', Ev (fun k => spec_l06DrawSeries.j2 k f n out b L i h) (out', i', h') ∧ out'.length = n.toNat ∧ 0 ≤ i' := by
    intro out b i h ho hi hb
    cases b with
    | true =>
      have hn0 := hb rfl
      obtain ⟨x, i1, h1, e1, hi1, hx0, hx1⟩ := dr_Below L hL i h n hi
      have hx2 := hx1 hn0
      obtain ⟨y, i2, h2, e2, hi2, _⟩ := dr_Pick L hL i1 h1 ([(-1), md f, 0, 1] : List Int) (by simp) hi1
      refine ⟨out.set x.toNat y, i2, h2, ev_s ?_, by rw [List.length_set]; exact ho, hi2⟩
      have g1 : x < (out.length : Int) := by omega
      simp only [spec_l06DrawSeries.j2, ev_Modulus, e1, e2, hx0, g1, Option.bind_some, if_true]; exact Ev.now _
    | false =>
      refine ⟨out, i, h, ev_s ?_, ho, hi⟩
      simp only [spec_l06DrawSeries.j2, Bool.false_eq_true, if_false]; exact Ev.now _
  have j1 : ∀ (out : List Int) (i h : Int), out.length = n.toNat → 0 ≤ i → ∃ out' i' h', Ev (fun k => spec_l06DrawSeries.j1 k f n out L i h) (out', i', h') ∧ out'.length = n.toNat ∧ 0 ≤ i' := by
    intro out i h ho hi
    obtain ⟨b, i1, h1, e1, hi1⟩ := dr_Once L hL i h 20 hi
    cases b with
    | true =>
      obtain ⟨o, i', h', e, r⟩ := j2 out (decide (n > 0)) i1 h1 ho hi1 (fun c => by have := of_decide_eq_true c; omega)
      refine ⟨o, i', h', ev_s ?_, r⟩
      simp only [spec_l06DrawSeries.j1, e1, Option.bind_some, if_true]; exact e
    | false =>
      obtain ⟨o, i', h', e, r⟩ := j2 out false i1 h1 ho hi1 (fun c => by cases c)
      refine ⟨o, i', h', ev_s ?_, r⟩
      simp only [spec_l06DrawSeries.j1, e1, Option.bind_some, Bool.false_eq_true, if_false]; exact e
  have j0 : ∀ (out : List Int) (b : Bool) (i h : Int), out.length = n.toNat → 0 ≤ i → (b = true → 0 < n) → ∃ out' i' h', Ev (fun k => spec_l06DrawSeries.j0 k f n first out b L i h) (out', i', h') ∧ out'.length = n.toNat ∧ 0 ≤ i' := by
    intro out b i h ho hi hb
    cases b with
    | true =>
      have hn0 := hb rfl
      obtain ⟨o, i', h', e, r⟩ := j1 (out.set (0 : Int).toNat first) i h (by rw [List.length_set]; exact ho) hi
      refine ⟨o, i', h', ev_s ?_, r⟩
      have g1 : (0 : Int) < (out.length : Int) := by omega
      simp only [spec_l06DrawSeries.j0, g1, if_true]; exact e
    | false =>
      obtain ⟨o, i', h', e, r⟩ := j1 out i h ho hi
      refine ⟨o, i', h', ev_s ?_, r⟩
      simp only [spec_l06DrawSeries.j0, Bool.false_eq_true, if_false]; exact e
  obtain ⟨o, i1, h1, e1, hl1, hi1⟩ := dr_List L hL i h f n hi hn
  unfold spec_l06DrawSeries.f
  by_cases c : first ≥ 0
  · obtain ⟨o2, i', h', e, r⟩ := j0 o (decide (n > 0)) i1 h1 hl1 hi1 (fun c => by have := of_decide_eq_true c; omega)
    refine ⟨o2, i', h', Ev.bind e1 ?_, r⟩
    simp only [c, if_true]; exact e
  · obtain ⟨o2, i', h', e, r⟩ := j0 o false i1 h1 hl1 hi1 (fun c => by cases c)
    refine ⟨o2, i', h', Ev.bind e1 ?_, r⟩
    simp only [c, if_false]; exact e

theorem dr_l06One (L : List Int) (hL : L.length ≤ 140737488351232) (first : Int) : ∃ f a, Ev (fun k => spec_l06DrawOne.f k L first) (f, a) ∧ a.length ≤ 1048576 := by
  obtain ⟨h, hn⟩ := dr_New L hL
  obtain ⟨f, i2, h2, e2, hi2, _⟩ := dr_Field L hL 0 h (by omega)
  obtain ⟨n, i3, h3, e3, hn0, hn1, hi3⟩ := dr_Length L L hL hL i2 h2 f hi2
  obtain ⟨u, i5, h5, e5, hu, hi5⟩ := dr_Series L hL i3 h3 f n first hi3 (by omega)
  unfold spec_l06DrawOne.f
  refine ⟨f, u, Ev.bind hn ?_, by omega⟩
  refine Ev.bind (ev_c e2) ?_
  refine Ev.bind e3 ?_
  refine Ev.bind e5 ?_
  exact Ev.now _

theorem dr_DrawSeriesInv (L : List Int) (hL : L.length ≤ 140737488351232) : ∃ f a, Ev (fun k => spec_DrawSeriesInv.f k L) (f, a) ∧ a.length ≤ 1048576 := by
  obtain ⟨f, a, e, ha⟩ := dr_l06One L hL (-1)
  by_cases c1 : (a.length : Int) > 0
  · have c2 : 0 < (a.length : Int) := c1
    by_cases c3 : rd a 0 = 0
    · by_cases c4 : ((L.length : Int) % 5) > 0
      · refine ⟨f, a.set (0 : Int).toNat 3, ?_, by rw [List.length_set]; exact ha⟩
        unfold spec_DrawSeriesInv.f
        refine Ev.bind e ?_
        simp only [c1, c2, c3, c4, if_true]; exact Ev.now _
      · refine ⟨f, a, ?_, ha⟩
        unfold spec_DrawSeriesInv.f
        refine Ev.bind e ?_
        simp only [c1, c2, c3, c4, if_true, if_false]; exact Ev.now _
    · refine ⟨f, a, ?_, ha⟩
      unfold spec_DrawSeriesInv.f
      refine Ev.bind e ?_
      simp only [c1, c2, c3, if_true, if_false]; exact Ev.now _
  · refine ⟨f, a, ?_, ha⟩
    unfold spec_DrawSeriesInv.f
    refine Ev.bind e ?_
    simp only [c1, if_false]; exact Ev.now _

/-- A series over a field. -/
def SerOk (f : Int) (a : List Int) : Prop := (0 ≤ f ∧ f < 9) ∧ 1 ≤ a.length ∧ a.length ≤ 64 ∧ El (md f) a
theorem SerOk.pm {f : Int} {a : List Int} (h : SerOk f a) : Pm (md f) := pm_of h.1
theorem SerOk.rd {f : Int} {a : List Int} (h : SerOk f a) (i : Int) : 0 ≤ rd a i ∧ rd a i < md f := h.2.2.2.rd (pm_of h.1).pos i

theorem ev_l01In (x a b : Int) : spec_l01In.f x a b = some (decide (a ≤ x) && decide (x ≤ b)) := by
  unfold spec_l01In.f
  by_cases h : a ≤ x
  · rw [if_pos h, decide_eq_true h, Bool.true_and]
  · rw [if_neg h, decide_eq_false h, Bool.false_and]

theorem ev_l03Elements {f : Int} (h : 0 ≤ f ∧ f < 9) (l : List Int) (hl : l.length ≤ 35184372088832) : Ev (fun k => spec_l03Elements.f k f l) (elB (md f) l) := by
  have hp := pm_of h
  unfold Pm at hp
  have key : ∀ (d i : Nat), i + d = l.length → Ev (fun k => spec_l03Elements.l0 k l (md f) (i : Int)) (elB (md f) (l.drop i)) := by
    intro d
    induction d with
    | zero =>
      intro i hi
      refine ev_s ?_
      have h1 : ¬ ((i : Int) < (l.length : Int)) := by omega
      simp only [spec_l03Elements.l0, h1, if_false]
      rw [List.drop_of_length_le (by omega)]
      exact Ev.now _
    | succ d ih =>
      intro i hi
      refine ev_s ?_
      have h1 : (i : Int) < (l.length : Int) := by omega
      have h2 : (0 : Int) ≤ (i : Int) := by omega
      simp only [spec_l03Elements.l0, h1, h2, if_true, w_succ (n := i) (by omega), w64 (x := md f - 1) (by omega) (by omega), ev_l01In, Option.bind_some]
      rw [elB_drop (by omega)]
      rw [show decide (rd l (i : Int) < md f) = decide (rd l (i : Int) ≤ md f - 1) from decide_eq_decide.2 (by omega)]
      by_cases c : (decide (0 ≤ rd l (i : Int)) && decide (rd l (i : Int) ≤ md f - 1)) = true
      · simp only [c, if_true, Bool.true_and]
        exact ih (i + 1) (by omega)
      · simp only [Bool.not_eq_true] at c
        simp only [c, Bool.false_and, Bool.false_eq_true, if_false]
        exact Ev.now _
  unfold spec_l03Elements.f
  simp only [ev_Modulus, Option.bind_some]
  have h0 : ¬ (md f = 0) := by omega
  simp only [h0, if_false]
  exact key l.length 0 (by omega)
theorem ev_l03Elements_bad {f : Int} (h : ¬ (0 ≤ f ∧ f < 9)) (l : List Int) : Ev (fun k => spec_l03Elements.f k f l) false := by
  unfold spec_l03Elements.f
  simp only [ev_Modulus, Option.bind_some, md_bad h, if_true]
  exact Ev.now _

theorem ev_SeriesOk {f : Int} {a : List Int} (h : SerOk f a) : Ev (fun k => spec_SeriesOk.f k f a) true := by
  obtain ⟨hf, h1, h2, he⟩ := h
  unfold spec_SeriesOk.f
  simp only [ev_l01In, Option.bind_some, show decide ((1 : Int) ≤ (a.length : Int)) = true from decide_eq_true (by omega), show decide ((a.length : Int) ≤ 64) = true from decide_eq_true (by omega), Bool.and_self, if_true]
  refine Ev.bind (ev_l03Elements hf a (by omega)) ?_
  rw [elB_iff.2 he]
  exact Ev.now _
theorem ev_SeriesOk_bad {f : Int} {a : List Int} (h : ¬ SerOk f a) : Ev (fun k => spec_SeriesOk.f k f a) false := by
  unfold spec_SeriesOk.f
  simp only [ev_l01In, Option.bind_some]
  by_cases c : (1 : Int) ≤ (a.length : Int) ∧ (a.length : Int) ≤ 64
  · simp only [decide_eq_true c.1, decide_eq_true c.2, Bool.and_self, if_true]
    by_cases hf : 0 ≤ f ∧ f < 9
    · refine Ev.bind (ev_l03Elements hf a (by omega)) ?_
      have he : elB (md f) a = false := by
        rw [← Bool.not_eq_true, elB_iff]
        intro he
        exact h ⟨hf, by omega, by omega, he⟩
      rw [he]
      exact Ev.now _
    · refine Ev.bind (ev_l03Elements_bad hf a) ?_
      exact Ev.now _
  · have e : (decide ((1 : Int) ≤ (a.length : Int)) && decide ((a.length : Int) ≤ 64)) = false := by
      rw [← Bool.not_eq_true, Bool.and_eq_true, decide_eq_true_eq, decide_eq_true_eq]; exact c
    simp only [e, Bool.false_eq_true, if_false]
    exact Ev.now _

theorem ev_cp (l : List Int) (hl : l.length ≤ 1048576) : Ev (fun k => laws_cp.f k l) l := by
  have key : ∀ (d i : Nat), i + d = l.length → Ev (fun k => laws_cp.l0 k l (l.take i) (i : Int)) l := by
    intro d
    induction d with
    | zero =>
      intro i hi
      refine ev_s ?_
      have g1 : ¬ ((i : Int) < (l.length : Int)) := by omega
      simp only [laws_cp.l0, g1, if_false]
      rw [List.take_of_length_le (by omega)]; exact Ev.now _
    | succ d ih =>
      intro i hi
      refine ev_s ?_
      have g1 : (i : Int) < (l.length : Int) := by omega
      have g2 : (0 : Int) ≤ (i : Int) := by omega
      have g3 : (l.take i).length < 17592186044416 := by rw [List.length_take]; omega
      simp only [laws_cp.l0, g1, g2, g3, if_true, w_succ (n := i) (by omega)]
      rw [rd_at (show i < l.length by omega), List.take_append_getElem (show i < l.length by omega)]
      exact ih (i + 1) (by omega)
  exact key l.length 0 (by omega)

theorem ev_same (l : List Int) (hl : l.length ≤ 1048576) : Ev (fun k => laws_same.f k l l) true := by
  have key : ∀ (d i : Nat), i + d = l.length → Ev (fun k => laws_same.l0 k l l (i : Int)) true := by
    intro d
    induction d with
    | zero =>
      intro i hi
      refine ev_s ?_
      have h1 : ¬ ((i : Int) < (l.length : Int)) := by omega
      simp only [laws_same.l0, h1, if_false]
      exact Ev.now _
    | succ d ih =>
      intro i hi
      refine ev_s ?_
      have h1 : (i : Int) < (l.length : Int) := by omega
      have h2 : (0 : Int) ≤ (i : Int) := by omega
      simp only [laws_same.l0, h1, h2, if_true, w_succ (n := i) (by omega)]
      exact ih (i + 1) (by omega)
  unfold laws_same.f
  simp only [if_true]
  exact key l.length 0 (by omega)

theorem at_lt (L : List Int) (hL : L.length ≤ 140737488351232) (hw : ∀ x ∈ L, (Go.Lit.int .u8 x).wf = true) (i : Nat) (hi : i ≤ 10) : ∃ x, laws_at.f L (i : Int) = some x ∧ 0 ≤ x ∧ x ≤ 255 := by
  unfold laws_at.f
  by_cases c : (i : Int) < (L.length : Int)
  · rw [if_pos c, if_pos (by omega)]
    have hil : i < L.length := by omega
    have h := hw _ (List.getElem_mem hil)
    rw [← rd_at hil] at h
    have hb : 0 ≤ rd L (i : Int) ∧ rd L (i : Int) ≤ 255 := by
      simp only [Go.Lit.wf, Go.IntKind.min, Go.IntKind.max, Go.IntKind.signed, Go.IntKind.bits, Bool.and_eq_true, decide_eq_true_eq, Bool.false_eq_true, if_false] at h
      omega
    exact ⟨_, rfl, by rw [w64 (by omega) (by omega)]; exact hb.1, by rw [w64 (by omega) (by omega)]; exact hb.2⟩
  · rw [if_neg c]
    refine ⟨_, rfl, ?_⟩
    rw [w64 (x := (i : Int) * 13) (by omega) (by omega), w64 (x := (L.length : Int) * 5) (by omega) (by omega), w64 (by omega) (by omega), tmod_nn (by omega)]
    omega

/-- The inverse of an element that is not 0. -/
theorem inv_mul {f : Int} (hf : 0 ≤ f ∧ f < 9) {x : Int} (hx : x % md f ≠ 0) : x * inv (md f) x % md f = 1 % md f := by
  have hb := (isF hf.1 hf.2).bounds
  have h := ferm hf hx
  unfold inv
  rw [emul_r, Int.mul_comm, ← Int.pow_succ, show (md f - 2).toNat.succ = (md f - 1).toNat by omega, h, em_id (by omega) (by omega)]
theorem nat_inv {f : Int} (hf : 0 ≤ f ∧ f < 9) (i : Nat) (h1 : 1 ≤ i) (h2 : (i : Int) < md f) : (i : Int) * inv (md f) ((i : Int) % md f) % md f = 1 % md f := by
  have e : (i : Int) % md f = i := em_id (by omega) h2
  rw [e]
  exact inv_mul hf (by rw [e]; omega)

/-- The exponents of SeriesPow. -/
def PowOk (f : Int) (a : List Int) (e : Int) : Prop := SerOk f a ∧ (-1000000 ≤ e ∧ e ≤ 1000000) ∧ (e < 0 → rd a 0 ≠ 0)
def powS (f : Int) (a : List Int) (e : Int) : List Int := powR (mulS (md f)) 20 e.natAbs (if e < 0 then invS (md f) a else a) (oneS a.length)
theorem inv_ok {f : Int} {a : List Int} (h : SerOk f a) : SerOk f (invS (md f) a) := ⟨h.1, by unfold invS; rw [bld_len]; exact h.2.1, by unfold invS; rw [bld_len]; exact h.2.2.1, bld_el (fun out => invF_lt h.pm.pos a out) _⟩
theorem mul_ok {f : Int} {a : List Int} (h : SerOk f a) (b : List Int) : SerOk f (mulS (md f) a b) := ⟨h.1, by rw [mulS_len]; exact h.2.1, by rw [mulS_len]; exact h.2.2.1, mulS_el h.pm.pos a b⟩
theorem one_ok {f : Int} {a : List Int} (h : SerOk f a) : SerOk f (oneS a.length) := by
  have hp := h.pm
  unfold Pm at hp
  exact ⟨h.1, by rw [oneS_len h.2.1]; exact h.2.1, by rw [oneS_len h.2.1]; exact h.2.2.1, oneS_el (by omega) _⟩
theorem powR_len {p : Int} : ∀ (n e : Nat) (x out : List Int), (powR (mulS p) n e x out).length = out.length := by
  intro n
  induction n with
  | zero => intro e x out; rfl
  | succ n ih =>
    intro e x out
    unfold powR
    by_cases c : e = 0
    · rw [if_pos c]
    · rw [if_neg c, ih]
      by_cases q : e % 2 = 1
      · rw [if_pos q, mulS_len]
      · rw [if_neg q]
theorem powS_len {f : Int} {a : List Int} {e : Int} (h : SerOk f a) : (powS f a e).length = a.length := by unfold powS; rw [powR_len, oneS_len h.2.1]

theorem ev_fieldOf {f : Int} (h : 0 ≤ f ∧ f < 9) : impl_fieldOf.f f = some (md f, gn f, tp f, true) := by
  rcases fcases h.1 h.2 with e | e | e | e | e | e | e | e | e <;> subst e <;> rfl
theorem ev_fieldOf_bad {f : Int} (h : ¬ (0 ≤ f ∧ f < 9)) : impl_fieldOf.f f = some (0, 0, 0, false) := by
  unfold impl_fieldOf.f
  by_cases c : f < 0
  · rw [if_pos c]
  · rw [if_neg c, if_pos (by omega)]

theorem ev_areElements (p g t : Int) (l : List Int) (hl : l.length ≤ 35184372088832) : Ev (fun k => impl_field_areElements.f k p g t l) (elB p l) := by
  have key : ∀ (d i : Nat), i + d = l.length → Ev (fun k => impl_field_areElements.l0 k l (l.length : Int) (i : Int) p g t) (elB p (l.drop i)) := by
    intro d
    induction d with
    | zero =>
      intro i hi
      refine ev_s ?_
      have h1 : ¬ ((i : Int) < (l.length : Int)) := by omega
      simp only [impl_field_areElements.l0, h1, if_false]
      rw [List.drop_of_length_le (by omega)]
      exact Ev.now _
    | succ d ih =>
      intro i hi
      refine ev_s ?_
      have h1 : (i : Int) < (l.length : Int) := by omega
      have h2 : (0 : Int) ≤ (i : Int) := by omega
      simp only [impl_field_areElements.l0, h1, h2, if_true, w_succ (n := i) (by omega)]
      rw [elB_drop (by omega)]
      by_cases c1 : rd l (i : Int) < 0
      · simp only [c1, if_true, show decide (0 ≤ rd l (i : Int)) = false from decide_eq_false (by omega), Bool.false_and]
        exact Ev.now _
      · by_cases c2 : rd l (i : Int) ≥ p
        · simp only [c1, c2, if_true, if_false, show decide (rd l (i : Int) < p) = false from decide_eq_false (by omega), Bool.false_and, Bool.and_false]
          exact Ev.now _
        · simp only [c1, c2, if_false, show decide (0 ≤ rd l (i : Int)) = true from decide_eq_true (by omega), show decide (rd l (i : Int) < p) = true from decide_eq_true (by omega), Bool.true_and]
          exact ih (i + 1) (by omega)
  exact key l.length 0 (by omega)

theorem ev_seriesField1 {f : Int} {a : List Int} (h : SerOk f a) : Ev (fun k => impl_seriesField.f k f [a]) (md f, gn f, tp f, true) := by
  obtain ⟨hf, h1, h2, he⟩ := h
  unfold impl_seriesField.f
  have hl : (([a] : List (List Int)).length : Int) = 1 := rfl
  have hr : rd_L1 [a] 0 = a := rfl
  have n1 : ¬ ((a.length : Int) < 1) := by omega
  have n2 : ¬ ((a.length : Int) > 64) := by omega
  simp only [ev_fieldOf hf, Option.bind_some, if_true, hl]
  refine ev_s ?_
  simp only [impl_seriesField.l0, hl, hr, n1, n2, if_false, show (0 : Int) < 1 from by decide, show (0 : Int) ≤ 0 from by decide, if_true]
  refine Ev.bind (ev_areElements _ _ _ a (by omega)) ?_
  simp only [elB_iff.2 he, if_true, w64 (x := 0 + 1) (by decide) (by decide)]
  refine ev_s ?_
  simp only [impl_seriesField.l0, hl, show ¬ ((0 : Int) + 1 < 1) from by decide, if_false]
  exact Ev.now _
theorem ev_seriesField1_bad {f : Int} {a : List Int} (h : ¬ SerOk f a) : Ev (fun k => impl_seriesField.f k f [a]) (0, 0, 0, false) := by
  unfold impl_seriesField.f
  by_cases hf : 0 ≤ f ∧ f < 9
  · have hl : (([a] : List (List Int)).length : Int) = 1 := rfl
    have hr : rd_L1 [a] 0 = a := rfl
    simp only [ev_fieldOf hf, Option.bind_some, if_true, hl]
    refine ev_s ?_
    simp only [impl_seriesField.l0, hl, hr, show (0 : Int) < 1 from by decide, show (0 : Int) ≤ 0 from by decide, if_true]
    by_cases n1 : (a.length : Int) < 1
    · simp only [n1, if_true]; exact Ev.now _
    · by_cases n2 : (a.length : Int) > 64
      · simp only [n1, n2, if_true, if_false]; exact Ev.now _
      · simp only [n1, n2, if_false]
        refine Ev.bind (ev_areElements _ _ _ a (by omega)) ?_
        have he : elB (md f) a = false := by
          rw [← Bool.not_eq_true, elB_iff]
          intro he
          exact h ⟨hf, by omega, by omega, he⟩
        simp only [he, Bool.false_eq_true, if_false]
        exact Ev.now _
  · simp only [ev_fieldOf_bad hf, Option.bind_some, Bool.false_eq_true, if_false]
    exact Ev.now _

theorem ev_mul {p : Int} (hp : Pm p) (g t : Int) {a b : Int} (ha : 0 ≤ a ∧ a < p) (hb : 0 ≤ b ∧ b < p) : impl_field_mul.f p g t a b = some (a * b % p) := by
  unfold Pm at hp
  have h := mul_lt_big ha.1 ha.2 hb.1 hb.2 hp.2
  unfold impl_field_mul.f
  rw [if_neg (by omega), w64 (by omega) (by omega), tmod_nn (by omega)]

theorem ev_add {p : Int} (hp : Pm p) (g t : Int) {a b : Int} (ha : 0 ≤ a ∧ a < p) (hb : 0 ≤ b ∧ b < p) : impl_field_add.f p g t a b = some ((a + b) % p) := by
  unfold Pm at hp
  unfold impl_field_add.f
  rw [if_neg (by omega), w64 (by omega) (by omega), tmod_nn (by omega)]

theorem ev_sub {p : Int} (hp : Pm p) (g t : Int) {a b : Int} (ha : 0 ≤ a ∧ a < p) (hb : 0 ≤ b ∧ b < p) : impl_field_sub.f p g t a b = some ((a - b) % p) := by
  unfold Pm at hp
  unfold impl_field_sub.f
  rw [if_neg (by omega), w64 (x := a - b) (by omega) (by omega), w64 (by omega) (by omega), tmod_nn (by omega), Int.add_emod_right]

theorem ev_power {p : Int} (hp : Pm p) (g t : Int) : ∀ (e : Nat) {a : Int}, (0 ≤ a ∧ a < p) → e < 4611686018427387904 → Ev (fun k => impl_field_power.f k p g t a (e : Int)) (a ^ e % p) := by
  have hpp := hp
  unfold Pm at hpp
  have key : ∀ (n e : Nat), e ≤ n → e < 4611686018427387904 → ∀ a out : Int, (0 ≤ a ∧ a < p) → (0 ≤ out ∧ out < p) → Ev (fun k => impl_field_power.l0 k a (e : Int) out p g t) (out * a ^ e % p) := by
    intro n
    induction n with
    | zero =>
      intro e he _ a out ha ho
      obtain rfl : e = 0 := by omega
      refine ev_s ?_
      have h1 : ¬ (((0 : Nat) : Int) > 0) := by omega
      simp only [impl_field_power.l0, h1, if_false]
      rw [Int.pow_zero, Int.mul_one, em_id ho.1 ho.2]
      exact Ev.now _
    | succ n ih =>
      intro e he hb a out ha ho
      by_cases h0 : e = 0
      · subst h0
        exact ih 0 (by omega) hb a out ha ho
      · refine ev_s ?_
        have h1 : (e : Int) > 0 := by omega
        have h2 : Int.tmod (e : Int) 2 = ((e % 2 : Nat) : Int) := by rw [tmod_nn (by omega)]; omega
        have h3 : wrap64 (Int.tdiv (e : Int) 2) = ((e / 2 : Nat) : Int) := by
          rw [Int.tdiv_eq_ediv_of_nonneg (by omega), w64 (by omega) (by omega)]; omega
        have haa := em_lt (a := a * a) hp.pos
        simp only [impl_field_power.l0, h1, if_true, h2, h3, ev_mul hp g t ha ha, ev_mul hp g t ho ha, Option.bind_some]
        by_cases c : e % 2 = 1
        · have hoa := em_lt (a := out * a) hp.pos
          simp only [c, Int.natCast_one, if_true]
          refine ev_to (ih (e / 2) (by omega) (by omega) (a * a % p) (out * a % p) haa hoa) ?_
          have e1 : (out * a % p) * (a * a % p) ^ (e / 2) % p = (out * a) * (a * a) ^ (e / 2) % p := emul (Int.emod_emod _ _) (epow_l _)
          rw [e1, ipow2, Int.mul_assoc, ← Int.pow_succ']
          congr 3; omega
        · have c0 : e % 2 = 0 := by omega
          simp only [c0, show ¬ (((0 : Nat) : Int) = 1) from by omega, if_false]
          refine ev_to (ih (e / 2) (by omega) (by omega) (a * a % p) out haa ho) ?_
          have e1 : out * (a * a % p) ^ (e / 2) % p = out * (a * a) ^ (e / 2) % p := emul rfl (epow_l _)
          rw [e1, ipow2]
          congr 3; omega
  intro e a ha he
  unfold impl_field_power.f
  refine ev_to (key e e (Nat.le_refl _) he a 1 ha (by omega)) ?_
  rw [Int.one_mul]

theorem ev_inverse {p : Int} (hp : Pm p) (g t : Int) {a : Int} (ha : 0 ≤ a ∧ a < p) : Ev (fun k => impl_field_inverse.f k p g t a) (inv p a) := by
  have hpp := hp
  unfold Pm at hpp
  unfold impl_field_inverse.f
  rw [w64 (x := p - 2) (by omega) (by omega)]
  have h : p - 2 = (((p - 2).toNat : Nat) : Int) := by omega
  have := ev_power hp g t (p - 2).toNat ha (by omega)
  rw [← h] at this
  refine Ev.bind this ?_
  exact Ev.now _

theorem ev_seriesInv {p : Int} (hp : Pm p) (g t : Int) {a : List Int} (h1 : 1 ≤ a.length) (h2 : a.length ≤ 64) (he : El p a) : Ev (fun k => impl_field_seriesInv.f k p g t a) (invS p a) := by
  have hpp := hp
  unfold Pm at hpp
  have hbl := inv_lt hp.pos (rd a 0)
  have inner : ∀ (d j i : Nat) (out : List Int) (r : List Int), j + d = i → i = out.length → i < a.length → 1 ≤ i → El p out →
      Ev (fun k => impl_field_seriesInv.l0 k a (inv p (rd a 0)) (out ++ [invF p a out]) ((i + 1 : Nat) : Int) p g t) r →
      Ev (fun k => impl_field_seriesInv.l1 k a (inv p (rd a 0)) out (i : Int) (sm j (invT a out) % p) ((j + 1 : Nat) : Int) p g t) r := by
    intro d
    induction d with
    | zero =>
      intro j i out r hj hi hia h1i heo hr
      refine ev_s ?_
      have g1 : ¬ (((j + 1 : Nat) : Int) ≤ (i : Int)) := by omega
      have g2 : out.length < 17592186044416 := by omega
      simp only [impl_field_seriesInv.l1, g1, g2, if_false, if_true, ev_sub hp g t (a := 0) (b := sm j (invT a out) % p) (by omega) (em_lt hp.pos), Option.bind_some, ev_mul hp g t (em_lt hp.pos) hbl, w_succ (n := i) (by omega), emul_l]
      have e : (0 - sm j (invT a out) % p) * inv p (rd a 0) % p = invF p a out := by
        unfold invF
        rw [if_neg (by omega), show j = out.length by omega, ← Int.zero_sub]
        exact emul esub_r rfl
      rw [e]; exact hr
    | succ d ih =>
      intro j i out r hj hi hia h1i heo hr
      refine ev_s ?_
      have g1 : ((j + 1 : Nat) : Int) ≤ (i : Int) := by omega
      have g2 : (0 : Int) ≤ ((j + 1 : Nat) : Int) := by omega
      have g3 : ((j + 1 : Nat) : Int) < (a.length : Int) := by omega
      have ew : wrap64 ((i : Int) - ((j + 1 : Nat) : Int)) = ((out.length - 1 - j : Nat) : Int) := by rw [w64 (by omega) (by omega)]; omega
      have g4 : (0 : Int) ≤ ((out.length - 1 - j : Nat) : Int) := by omega
      have g5 : ((out.length - 1 - j : Nat) : Int) < (out.length : Int) := by omega
      simp only [impl_field_seriesInv.l1, g1, g2, g3, ew, g4, g5, if_true, ev_mul hp g t (he.rd hp.pos _) (heo.rd hp.pos _), Option.bind_some, ev_add hp g t (em_lt hp.pos) (em_lt hp.pos), w_succ (n := j + 1) (by omega), eadd_l, eadd_r]
      have hs := ih (j + 1) i out r (by omega) hi hia h1i heo hr
      rw [sm_succ] at hs
      exact hs
  have outer : ∀ (d i : Nat), i + d = a.length → 1 ≤ i → Ev (fun k => impl_field_seriesInv.l0 k a (inv p (rd a 0)) (bld (invF p a) i) (i : Int) p g t) (invS p a) := by
    intro d
    induction d with
    | zero =>
      intro i hi h1i
      refine ev_s ?_
      have g1 : ¬ ((i : Int) < (a.length : Int)) := by omega
      simp only [impl_field_seriesInv.l0, g1, if_false]
      rw [show i = a.length by omega]; exact Ev.now _
    | succ d ih =>
      intro i hi h1i
      refine ev_s ?_
      have g1 : (i : Int) < (a.length : Int) := by omega
      simp only [impl_field_seriesInv.l0, g1, if_true]
      have hi2 := inner i 0 i (bld (invF p a) i) _ (by omega) (by rw [bld_len]) (by omega) h1i (bld_el (fun out => invF_lt hp.pos a out) i) (ih (i + 1) (by omega) (by omega))
      rw [sm_zero, Int.zero_emod] at hi2
      exact hi2
  unfold impl_field_seriesInv.f
  have g0 : (0 : Int) < (a.length : Int) := by omega
  simp only [g0, if_true]
  refine Ev.bind (ev_inverse hp g t (he.rd hp.pos 0)) ?_
  exact outer (a.length - 1) 1 (by omega) (by omega)

theorem ev_seriesMul {p : Int} (hp : Pm p) (g t : Int) {a b : List Int} (h2 : a.length ≤ 64) (e : a.length = b.length) (ha : El p a) (hb : El p b) : Ev (fun k => impl_field_seriesMul.f k p g t a b) (mulS p a b) := by
  have hpp := hp
  unfold Pm at hpp
  have inner : ∀ (d j i : Nat) (out : List Int) (r : List Int), i + j + d = a.length → i < a.length → out.length = a.length → (∀ c : Nat, c < a.length → rd out (c : Int) = scat a b i j c % p) →
      (∀ out' : List Int, out'.length = a.length → (∀ c : Nat, c < a.length → rd out' (c : Int) = sm (i + 1) (tm a b c) % p) → Ev (fun k => impl_field_seriesMul.l0 k a b out' a (a.length : Int) ((i + 1 : Nat) : Int) p g t) r) →
      Ev (fun k => impl_field_seriesMul.l1 k a b out (i : Int) (rd a (i : Int)) (j : Int) a (a.length : Int) (i : Int) p g t) r := by
    intro d
    induction d with
    | zero =>
      intro j i out r hj hi ho hx hr
      refine ev_s ?_
      have ei : wrap64 ((i : Int) + (j : Int)) = ((i + j : Nat) : Int) := by rw [w64 (by omega) (by omega)]; omega
      have g1 : ¬ (((i + j : Nat) : Int) < (a.length : Int)) := by omega
      simp only [impl_field_seriesMul.l1, ei, g1, if_false, w_succ (n := i) (by omega)]
      exact hr out ho (fun c hc => by rw [hx c hc, scat_row (Or.inr (by omega))])
    | succ d ih =>
      intro j i out r hj hi ho hx hr
      refine ev_s ?_
      have ei : wrap64 ((i : Int) + (j : Int)) = ((i + j : Nat) : Int) := by rw [w64 (by omega) (by omega)]; omega
      have g1 : ((i + j : Nat) : Int) < (a.length : Int) := by omega
      have g2 : (0 : Int) ≤ ((i + j : Nat) : Int) := by omega
      have g3 : ((i + j : Nat) : Int) < (out.length : Int) := by omega
      have g4 : (0 : Int) ≤ (j : Int) := by omega
      have g5 : (j : Int) < (b.length : Int) := by omega
      have g6 : ¬ (p = 0) := by omega
      have hai := ha.rd hp.pos (i : Int)
      have hbj := hb.rd hp.pos (j : Int)
      have hm := mul_lt_big hai.1 hai.2 hbj.1 hbj.2 hpp.2
      have ho1 := hx (i + j) (by omega)
      have ho2 := em_lt (a := scat a b i j (i + j)) hp.pos
      have ev : Int.tmod (wrap64 (rd out ((i + j : Nat) : Int) + wrap64 (rd a (i : Int) * rd b (j : Int)))) p = scat a b i (j + 1) (i + j) % p := by
        rw [w64 (x := rd a (i : Int) * rd b (j : Int)) (by omega) (by omega), ho1, w64 (by omega) (by omega), tmod_nn (by omega), eadd_l, scat_hit]
      simp only [impl_field_seriesMul.l1, ei, g1, g2, g3, g4, g5, g6, if_true, if_false, ev, w_succ (n := j) (by omega), Int.toNat_natCast]
      refine ih (j + 1) i _ r (by omega) hi (by rw [List.length_set]; exact ho) (fun c hc => ?_) hr
      by_cases e : i + j = c
      · subst e; rw [rd_set_eq (by omega)]
      · rw [rd_set_ne e, hx c hc, scat_miss (by omega)]
  have outer : ∀ (d i : Nat) (out : List Int), i + d = a.length → out.length = a.length → (∀ c : Nat, c < a.length → rd out (c : Int) = sm i (tm a b c) % p) → Ev (fun k => impl_field_seriesMul.l0 k a b out a (a.length : Int) (i : Int) p g t) (mulS p a b) := by
    intro d
    induction d with
    | zero =>
      intro i out hi ho hx
      refine ev_s ?_
      have g1 : ¬ ((i : Int) < (a.length : Int)) := by omega
      simp only [impl_field_seriesMul.l0, g1, if_false]
      have e : out = mulS p a b := set_map_rd ho (fun c hc => by rw [hx c hc, show i = a.length by omega, pc_of_len])
      rw [e]; exact Ev.now _
    | succ d ih =>
      intro i out hi ho hx
      refine ev_s ?_
      have g1 : (i : Int) < (a.length : Int) := by omega
      have g2 : (0 : Int) ≤ (i : Int) := by omega
      simp only [impl_field_seriesMul.l0, g1, g2, if_true]
      exact inner (a.length - i) 0 i out _ (by omega) (by omega) ho (fun c hc => by rw [hx c hc, scat_start]) (fun out' ho' hx' => ih (i + 1) out' (by omega) ho' hx')
  unfold impl_field_seriesMul.f
  have g1 : (0 : Int) ≤ (a.length : Int) := by omega
  simp only [g1, if_true, Int.toNat_natCast, show a.length ≤ 35184372088832 from by omega]
  exact outer a.length 0 _ (by omega) (by simp) (fun c _ => by rw [rd_rep, sm_zero, Int.zero_emod])

theorem ev_iSeriesPow_run {f : Int} (g t : Int) : ∀ (n e : Nat) (out x : List Int), e < 2 ^ n → e ≤ 1000000 → SerOk f out → SerOk f x → out.length = x.length → Ev (fun k => impl_SeriesPow.l0 k (e : Int) x out (md f) g t) (powR (mulS (md f)) n e x out, true) := by
  intro n
  induction n with
  | zero =>
    intro e out x he hb ho hx hl
    refine ev_s ?_
    have g1 : ¬ ((e : Int) > 0) := by simp at he; omega
    simp only [impl_SeriesPow.l0, g1, if_false]; exact Ev.now _
  | succ n ih =>
    intro e out x he hb ho hx hl
    have h2 : e / 2 < 2 ^ n := by rw [Nat.pow_succ] at he; omega
    clear he
    have hxx : Ev (fun k => impl_field_seriesMul.f k (md f) g t x x) (mulS (md f) x x) := ev_seriesMul hx.pm g t hx.2.2.1 rfl hx.2.2.2 hx.2.2.2
    refine ev_s ?_
    by_cases c : e = 0
    · have g1 : ¬ ((e : Int) > 0) := by omega
      simp only [impl_SeriesPow.l0, g1, if_false]
      rw [c, powR_zero]; exact Ev.now _
    · have g1 : (e : Int) > 0 := by omega
      have ed : wrap64 (Int.tdiv (e : Int) 2) = ((e / 2 : Nat) : Int) := by rw [Int.tdiv_eq_ediv_of_nonneg (by omega), w64 (by omega) (by omega)]; omega
      have em : Int.tmod (e : Int) 2 = ((e % 2 : Nat) : Int) := by rw [tmod_nn (by omega)]; omega
      simp only [impl_SeriesPow.l0, g1, if_true, ed, em]
      unfold powR
      rw [if_neg c]
      by_cases q : e % 2 = 1
      · have q1 : ((e % 2 : Nat) : Int) = 1 := by omega
        simp only [q1, if_true]
        rw [if_pos q]
        refine Ev.bind (ev_seriesMul ho.pm g t ho.2.2.1 hl ho.2.2.2 hx.2.2.2) ?_
        refine Ev.bind hxx ?_
        exact ih (e / 2) _ _ h2 (by omega) (mul_ok ho _) (mul_ok hx _) (by rw [mulS_len, mulS_len, hl])
      · have q1 : ¬ (((e % 2 : Nat) : Int) = 1) := by omega
        simp only [q1, if_false]
        rw [if_neg q]
        refine Ev.bind hxx ?_
        exact ih (e / 2) _ _ h2 (by omega) ho (mul_ok hx _) (by rw [mulS_len, hl])
theorem ev_iSeriesPow_j1 {f : Int} (g t : Int) {a x : List Int} (h : SerOk f a) (hx : SerOk f x) (hl : a.length = x.length) {e : Nat} (he : e ≤ 1000000) : Ev (fun k => impl_SeriesPow.j1 k a (e : Int) x (md f) g t) (powR (mulS (md f)) 20 e x (oneS a.length), true) := by
  have hn := h.2.1
  have hn2 := h.2.2.1
  have he2 : e < 2 ^ 20 := by have : (2 : Nat) ^ 20 = 1048576 := rfl; omega
  refine ev_s ?_
  have g2 : (0 : Int) ≤ (a.length : Int) := by omega
  have g4 : (0 : Int) < ((List.replicate a.length (0 : Int)).length : Int) := by simp; omega
  simp only [impl_SeriesPow.j1, g2, Int.toNat_natCast, show a.length ≤ 35184372088832 from by omega, if_true, Option.bind_some, g4, oneS_set hn]
  exact ev_iSeriesPow_run g t 20 e _ _ he2 he (one_ok h) hx (by rw [oneS_len hn, hl])
theorem ev_iSeriesPow {f : Int} {a : List Int} {e : Int} (h : PowOk f a e) : Ev (fun k => impl_SeriesPow.f k f a e) (powS f a e, true) := by
  obtain ⟨hs, hb, h0⟩ := h
  have hn := hs.2.1
  have hn2 := hs.2.2.1
  unfold impl_SeriesPow.f powS
  refine Ev.bind (ev_seriesField1 hs) ?_
  have b1 : ¬ (e < -1000000) := by omega
  have b2 : ¬ (e > 1000000) := by omega
  simp only [if_true, b1, b2, if_false]
  by_cases c : e < 0
  · have g1 : 0 < (a.length : Int) := by omega
    have g2 : (rd a 0 == 0) = false := by rw [← Bool.not_eq_true, beq_iff_eq]; exact h0 c
    simp only [c, g1, g2, if_true]
    refine ev_s ?_
    simp only [impl_SeriesPow.j0, Bool.false_eq_true, if_false, c, if_true]
    refine Ev.bind (ev_seriesInv hs.pm _ _ hs.2.1 hs.2.2.1 hs.2.2.2) ?_
    rw [show wrap64 (-e) = ((e.natAbs : Nat) : Int) by rw [w64 (by omega) (by omega)]; omega]
    exact ev_iSeriesPow_j1 _ _ hs (inv_ok hs) (by unfold invS; rw [bld_len]) (by omega)
  · simp only [c, if_false]
    refine ev_s ?_
    simp only [impl_SeriesPow.j0, Bool.false_eq_true, if_false, c]
    have := ev_iSeriesPow_j1 (gn f) (tp f) hs hs rfl (e := e.natAbs) (by omega)
    rw [show ((e.natAbs : Nat) : Int) = e by omega] at this
    exact this
theorem ev_iSeriesPow_bad {f : Int} {a : List Int} {e : Int} (h : ¬ PowOk f a e) : Ev (fun k => impl_SeriesPow.f k f a e) ([], false) := by
  have bad : ∀ p g t : Int, Ev (fun k => impl_SeriesPow.j0 k a e true p g t) ([], false) := fun p g t => by
    refine ev_s ?_
    simp only [impl_SeriesPow.j0, if_true]; exact Ev.now _
  unfold impl_SeriesPow.f
  by_cases hs : SerOk f a
  · have hn := hs.2.1
    refine Ev.bind (ev_seriesField1 hs) ?_
    by_cases b1 : e < -1000000
    · simp only [if_true, b1]; exact bad _ _ _
    by_cases b2 : e > 1000000
    · simp only [if_true, b1, b2, if_false]; exact bad _ _ _
    simp only [if_true, b1, b2, if_false]
    by_cases c : e < 0
    · have g1 : 0 < (a.length : Int) := by omega
      have g2 : (rd a 0 == 0) = true := by
        rw [beq_iff_eq]
        by_cases q : rd a 0 = 0
        · exact q
        · exact absurd ⟨hs, ⟨by omega, by omega⟩, fun _ => q⟩ h
      simp only [c, g1, g2, if_true]; exact bad _ _ _
    · exact absurd ⟨hs, ⟨by omega, by omega⟩, fun q => absurd q c⟩ h
  · refine Ev.bind (ev_seriesField1_bad hs) ?_
    simp only [Bool.false_eq_true, if_false]; exact bad _ _ _

theorem ev_seriesField2 {f : Int} {a b : List Int} (h : SerOk f a) (k : SerOk f b) (e : a.length = b.length) : Ev (fun k => impl_seriesField.f k f [a, b]) (md f, gn f, tp f, true) := by
  obtain ⟨hf, h1, h2, he⟩ := h
  obtain ⟨_, k1, k2, ke⟩ := k
  unfold impl_seriesField.f
  have hl : (([a, b] : List (List Int)).length : Int) = 2 := rfl
  have hr : rd_L1 [a, b] 0 = a := rfl
  have hr1 : rd_L1 [a, b] (0 + 1) = b := rfl
  have n1 : ¬ ((a.length : Int) < 1) := by omega
  have n2 : ¬ ((a.length : Int) > 64) := by omega
  have m1 : ¬ ((b.length : Int) < 1) := by omega
  have m2 : ¬ ((b.length : Int) > 64) := by omega
  have me : ((b.length : Int) = (a.length : Int)) := by omega
  simp only [ev_fieldOf hf, Option.bind_some, if_true, hl]
  refine ev_s ?_
  simp only [impl_seriesField.l0, hl, hr, n1, n2, if_false, show (0 : Int) < 2 from by decide, show (0 : Int) ≤ 0 from by decide, if_true]
  refine Ev.bind (ev_areElements _ _ _ a (by omega)) ?_
  simp only [elB_iff.2 he, if_true, w64 (x := 0 + 1) (by decide) (by decide)]
  refine ev_s ?_
  simp only [impl_seriesField.l0, hl, hr, hr1, m1, m2, if_false, show (0 : Int) + 1 < 2 from by decide, show (0 : Int) ≤ 0 + 1 from by decide, show (0 : Int) < 2 from by decide, if_true]
  refine Ev.bind (ev_areElements _ _ _ b (by omega)) ?_
  simp only [elB_iff.2 ke, if_true, me, w64 (x := 0 + 1 + 1) (by decide) (by decide)]
  refine ev_s ?_
  simp only [impl_seriesField.l0, hl, show ¬ ((0 : Int) + 1 + 1 < 2) from by decide, if_false]
  exact Ev.now _
theorem ev_seriesField2_bad {f : Int} {a b : List Int} (h : ¬ (SerOk f a ∧ SerOk f b ∧ a.length = b.length)) : Ev (fun k => impl_seriesField.f k f [a, b]) (0, 0, 0, false) := by
  unfold impl_seriesField.f
  by_cases hf : 0 ≤ f ∧ f < 9
  · have hl : (([a, b] : List (List Int)).length : Int) = 2 := rfl
    have hr : rd_L1 [a, b] 0 = a := rfl
    have hr1 : rd_L1 [a, b] (0 + 1) = b := rfl
    simp only [ev_fieldOf hf, Option.bind_some, if_true, hl]
    refine ev_s ?_
    simp only [impl_seriesField.l0, hl, hr, show (0 : Int) < 2 from by decide, show (0 : Int) ≤ 0 from by decide, if_true]
    by_cases n1 : (a.length : Int) < 1
    · simp only [n1, if_true]; exact Ev.now _
    by_cases n2 : (a.length : Int) > 64
    · simp only [n1, n2, if_true, if_false]; exact Ev.now _
    simp only [n1, n2, if_false]
    refine Ev.bind (ev_areElements _ _ _ a (by omega)) ?_
    by_cases he : El (md f) a
    · simp only [elB_iff.2 he, if_true, w64 (x := 0 + 1) (by decide) (by decide)]
      refine ev_s ?_
      simp only [impl_seriesField.l0, hl, hr, hr1, show (0 : Int) + 1 < 2 from by decide, show (0 : Int) ≤ 0 + 1 from by decide, show (0 : Int) < 2 from by decide, if_true]
      by_cases m1 : (b.length : Int) < 1
      · simp only [m1, if_true]; exact Ev.now _
      by_cases m2 : (b.length : Int) > 64
      · simp only [m1, m2, if_true, if_false]; exact Ev.now _
      simp only [m1, m2, if_false]
      refine Ev.bind (ev_areElements _ _ _ b (by omega)) ?_
      by_cases ke : El (md f) b
      · have me : ¬ ((b.length : Int) = (a.length : Int)) := fun c => h ⟨⟨hf, by omega, by omega, he⟩, ⟨hf, by omega, by omega, ke⟩, by omega⟩
        simp only [elB_iff.2 ke, if_true, me, if_false]
        exact Ev.now _
      · simp only [Bool.eq_false_iff.2 (fun c => ke (elB_iff.1 c)), Bool.false_eq_true, if_false]
        exact Ev.now _
    · simp only [Bool.eq_false_iff.2 (fun c => he (elB_iff.1 c)), Bool.false_eq_true, if_false]
      exact Ev.now _
  · simp only [ev_fieldOf_bad hf, Option.bind_some, Bool.false_eq_true, if_false]
    exact Ev.now _

theorem ev_iSeriesMul {f : Int} {a b : List Int} (h : SerOk f a) (k : SerOk f b) (e : a.length = b.length) : Ev (fun k => impl_SeriesMul.f k f a b) (mulS (md f) a b) := by
  unfold impl_SeriesMul.f
  refine Ev.bind (ev_seriesField2 h k e) ?_
  simp only [if_true]
  refine Ev.bind (ev_seriesMul h.pm _ _ h.2.2.1 e h.2.2.2 k.2.2.2) ?_
  exact Ev.now _
theorem ev_iSeriesMul_bad {f : Int} {a b : List Int} (h : ¬ (SerOk f a ∧ SerOk f b ∧ a.length = b.length)) : Ev (fun k => impl_SeriesMul.f k f a b) [] := by
  unfold impl_SeriesMul.f
  refine Ev.bind (ev_seriesField2_bad h) ?_
  simp only [Bool.false_eq_true, if_false]; exact Ev.now _

theorem ev_iSeriesSqrt {f : Int} {a : List Int} (hs : SerOk f a) (h1a : rd a 0 = 1) : Ev (fun k => impl_SeriesSqrt.f k f a) (sqrS (md f) a, true) := by
  have h1 := hs.2.1
  have h2 := hs.2.2.1
  have he := hs.2.2.2
  have hp := hs.pm
  have hpp := hp
  unfold Pm at hpp
  have hF := fun out => sqrF_lt (p := md f) (by omega) a out
  have hi2 := inv_lt hp.pos 2
  have inner : ∀ (d j i : Nat) (out : List Int) (r : List Int × Bool), j + d = i - 1 → i = out.length → i < a.length → 1 ≤ i → El (md f) out →
      Ev (fun k => impl_SeriesSqrt.l0 k a (out ++ [sqrF (md f) a out]) (inv (md f) 2) ((i + 1 : Nat) : Int) (md f) (gn f) (tp f)) r →
      Ev (fun k => impl_SeriesSqrt.l1 k a out (inv (md f) 2) (i : Int) ((rd a (i : Int) - sm j (sqrT out)) % md f) ((j + 1 : Nat) : Int) (md f) (gn f) (tp f)) r := by
    intro d
    induction d with
    | zero =>
      intro j i out r hj hi hia h1i heo hr
      refine ev_s ?_
      have g1 : ¬ (((j + 1 : Nat) : Int) < (i : Int)) := by omega
      have g2 : out.length < 17592186044416 := by omega
      simp only [impl_SeriesSqrt.l1, g1, if_false, ev_mul hp _ _ (em_lt hp.pos) hi2, Option.bind_some, g2, if_true, w_succ (n := i) (by omega), emul_l]
      have e : (rd a (i : Int) - sm j (sqrT out)) * inv (md f) 2 % md f = sqrF (md f) a out := by
        unfold sqrF
        rw [if_neg (by omega), show j = out.length - 1 by omega, hi]
      rw [e]; exact hr
    | succ d ih =>
      intro j i out r hj hi hia h1i heo hr
      refine ev_s ?_
      have g1 : ((j + 1 : Nat) : Int) < (i : Int) := by omega
      have g2 : (0 : Int) ≤ ((j + 1 : Nat) : Int) := by omega
      have g3 : ((j + 1 : Nat) : Int) < (out.length : Int) := by omega
      have ew : wrap64 ((i : Int) - ((j + 1 : Nat) : Int)) = ((out.length - 1 - j : Nat) : Int) := by rw [w64 (by omega) (by omega)]; omega
      have g4 : (0 : Int) ≤ ((out.length - 1 - j : Nat) : Int) := by omega
      have g5 : ((out.length - 1 - j : Nat) : Int) < (out.length : Int) := by omega
      simp only [impl_SeriesSqrt.l1, g1, g2, g3, ew, g4, g5, if_true, ev_mul hp _ _ (heo.rd hp.pos _) (heo.rd hp.pos _), ev_sub hp _ _ (em_lt hp.pos) (em_lt hp.pos), Option.bind_some, w_succ (n := j + 1) (by omega), esub_l, esub_r]
      have hs := ih (j + 1) i out r (by omega) hi hia h1i heo hr
      rw [sm_succ, show rd a (i : Int) - (sm j (sqrT out) + sqrT out j) = rd a (i : Int) - sm j (sqrT out) - sqrT out j by omega] at hs
      exact hs
  have outer : ∀ (d i : Nat), i + d = a.length → 1 ≤ i → Ev (fun k => impl_SeriesSqrt.l0 k a (bld (sqrF (md f) a) i) (inv (md f) 2) (i : Int) (md f) (gn f) (tp f)) (sqrS (md f) a, true) := by
    intro d
    induction d with
    | zero =>
      intro i hi h1i
      refine ev_s ?_
      have g1 : ¬ ((i : Int) < (a.length : Int)) := by omega
      simp only [impl_SeriesSqrt.l0, g1, if_false]
      rw [show i = a.length by omega]; exact Ev.now _
    | succ d ih =>
      intro i hi h1i
      refine ev_s ?_
      have g1 : (i : Int) < (a.length : Int) := by omega
      have g2 : (0 : Int) ≤ (i : Int) := by omega
      simp only [impl_SeriesSqrt.l0, g1, g2, if_true]
      have hi2 := inner (i - 1) 0 i (bld (sqrF (md f) a) i) _ (by omega) (by rw [bld_len]) (by omega) h1i (bld_el hF i) (ih (i + 1) (by omega) (by omega))
      have hai := hs.rd (i : Int)
      rw [sm_zero, Int.sub_zero, em_id hai.1 hai.2] at hi2
      exact hi2
  have g0 : (0 : Int) < (a.length : Int) := by omega
  unfold impl_SeriesSqrt.f
  refine Ev.bind (ev_seriesField1 hs) ?_
  simp only [if_true, g0, h1a, bne_self_eq_false]
  refine ev_s ?_
  simp only [impl_SeriesSqrt.j0, Bool.false_eq_true, if_false]
  refine Ev.bind (ev_inverse hp _ _ (a := 2) (by omega)) ?_
  exact outer (a.length - 1) 1 (by omega) (by omega)
theorem ev_iSeriesSqrt_bad {f : Int} {a : List Int} (h : ¬ (SerOk f a ∧ rd a 0 = 1)) : Ev (fun k => impl_SeriesSqrt.f k f a) ([], false) := by
  have bad : ∀ p g t : Int, Ev (fun k => impl_SeriesSqrt.j0 k a true p g t) ([], false) := fun p g t => by
    refine ev_s ?_
    simp only [impl_SeriesSqrt.j0, if_true]; exact Ev.now _
  unfold impl_SeriesSqrt.f
  by_cases hs : SerOk f a
  · refine Ev.bind (ev_seriesField1 hs) ?_
    have g0 : (0 : Int) < (a.length : Int) := by have := hs.2.1; omega
    have g1 : (rd a 0 != 1) = true := by
      rw [bne_iff_ne]
      intro c
      exact h ⟨hs, c⟩
    simp only [if_true, g0, g1]; exact bad _ _ _
  · refine Ev.bind (ev_seriesField1_bad hs) ?_
    simp only [Bool.false_eq_true, if_false]; exact bad _ _ _

theorem ser_powS {f : Int} {a : List Int} {e : Int} (h : SerOk f a) (he : e.natAbs < 2 ^ 20) : sq (md f) a.length (ser (powS f a e)) (zp (ser a) (ser (invS (md f) a)) e) := by
  unfold powS zp
  have ho : (oneS a.length).length = a.length := oneS_len h.2.1
  have hi : (invS (md f) a).length = a.length := bld_len _ _
  have key : ∀ x : List Int, x.length = a.length → sq (md f) a.length (ser (powR (mulS (md f)) 20 e.natAbs x (oneS a.length))) (cpw (ser x) e.natAbs) := fun x hx =>
    sq_trans (ser_powR 20 e.natAbs x (oneS a.length) he hx ho) (sq_trans (sq_mul (ser_oneS _ _) (sq_refl _ _ _)) (sq_of_eq (cm_one _)))
  by_cases c : e < 0
  · rw [if_pos c, if_pos c]; exact key _ hi
  · rw [if_neg c, if_neg c]; exact key _ rfl
theorem powS_el {f : Int} {a : List Int} {e : Int} (h : SerOk f a) : SerOk f (powS f a e) := by
  refine ⟨h.1, by rw [powS_len h]; exact h.2.1, by rw [powS_len h]; exact h.2.2.1, ?_⟩
  have hp := (isF h.1.1 h.1.2).bounds
  have key : ∀ (n e : Nat) (x out : List Int), El (md f) out → El (md f) (powR (mulS (md f)) n e x out) := by
    intro n
    induction n with
    | zero => intro e x out ho; exact ho
    | succ n ih =>
      intro e x out ho
      unfold powR
      split
      · exact ho
      · refine ih _ _ _ ?_
        split
        · exact mulS_el (by omega) _ _
        · exact ho
  unfold powS
  exact key _ _ _ _ (oneS_el (by omega) _)
theorem pow_prod {f : Int} {a : List Int} (h : SerOk f a) (h0 : rd a 0 ≠ 0) {d e : Int} (hd : d.natAbs < 2 ^ 19) (he : e.natAbs < 2 ^ 19) : mulS (md f) (powS f a d) (powS f a e) = powS f a (d + e) := by
  have hp := (isF h.1.1 h.1.2).bounds
  have hx := h.rd 0
  have hI := ser_invS (p := md f) (a := a) (inv_mul h.1 (by rw [em_id hx.1 hx.2]; exact h0))
  have hl := powS_len (e := d) h
  refine ser_eq (p := md f) (by omega) (mulS_el (by omega) _ _) (powS_el h).2.2.2 (by rw [mulS_len, hl, powS_len h]) ?_
  rw [mulS_len, hl]
  have h1 := ser_mulS (md f) (powS f a d) (powS f a e)
  rw [hl] at h1
  refine sq_trans h1 (sq_trans (sq_mul (ser_powS h (by omega)) (ser_powS h (by omega))) (sq_trans (zp_add hI d e) (sq_symm (ser_powS h (by omega)))))
theorem FnSeriesPowers : laws_FnSeriesPowers.Pure := by
  intro L hm h8 hw
  refine Ev.rounds ?_
  unfold laws_FnSeriesPowers.f laws_big.f
  simp only [Option.bind_some]
  by_cases hbig : (L.length : Int) > 1048576
  · simp only [decide_eq_true hbig, if_true]; exact Ev.now _
  simp only [decide_eq_false hbig, Bool.false_eq_true, if_false]
  obtain ⟨f, a, hdr, hal⟩ := dr_DrawSeriesInv L (by omega)
  obtain ⟨x0, ex0, x00, x01⟩ := at_lt L (by omega) hw 0 (by omega)
  obtain ⟨x1, ex1, x10, x11⟩ := at_lt L (by omega) hw 1 (by omega)
  have ex0' : laws_at.f L 0 = some x0 := ex0
  have ex1' : laws_at.f L 1 = some x1 := ex1
  have out : Ev (fun k => laws_FnSeriesPowers.j0 k L f a true) true := by
    refine ev_s ?_
    simp only [laws_FnSeriesPowers.j0, if_true]; exact Ev.now _
  have out1 : ∀ d e : Int, Ev (fun k => laws_FnSeriesPowers.j1 k f a d e true) true := fun d e => by
    refine ev_s ?_
    simp only [laws_FnSeriesPowers.j1, if_true]; exact Ev.now _
  refine Ev.bind hdr ?_
  by_cases h : SerOk f a
  · refine Ev.bind (ev_SeriesOk h) ?_
    have hlen := h.2.1
    have g0 : 0 < (a.length : Int) := by omega
    simp only [g0, if_true]
    by_cases h0 : rd a 0 = 0
    · have : (rd a 0 == 0) = true := by rw [h0]; rfl
      rw [this]; exact out
    have hb0 : (rd a 0 == 0) = false := by rw [beq_eq_false_iff_ne]; exact h0
    rw [hb0]
    refine ev_s ?_
    have ed : wrap64 (wrap64 (x0 * 8) - 1000) = x0 * 8 - 1000 := by rw [w64 (x := x0 * 8) (by omega) (by omega), w64 (by omega) (by omega)]
    have ee : wrap64 (wrap64 (x1 * 8) - 1000) = x1 * 8 - 1000 := by rw [w64 (x := x1 * 8) (by omega) (by omega), w64 (by omega) (by omega)]
    simp only [laws_FnSeriesPowers.j0, Bool.false_eq_true, if_false, ex0', ex1', Option.bind_some, ed, ee]
    have bd : -1000 ≤ x0 * 8 - 1000 ∧ x0 * 8 - 1000 ≤ 1040 := by omega
    have be : -1000 ≤ x1 * 8 - 1000 ∧ x1 * 8 - 1000 ≤ 1040 := by omega
    clear ed ee ex0 ex1 ex0' ex1'
    generalize x0 * 8 - 1000 = d at *
    generalize x1 * 8 - 1000 = e at *
    by_cases c1 : d > 1000
    · simp only [c1, if_true]; exact out1 d e
    by_cases c2 : e > 1000
    · simp only [c1, if_false, decide_eq_true c2]; exact out1 d e
    simp only [c1, if_false, decide_eq_false c2]
    refine ev_s ?_
    simp only [laws_FnSeriesPowers.j1, Bool.false_eq_true, if_false]
    refine Ev.bind (ev_cp a hal) ?_
    refine Ev.bind (ev_iSeriesPow ⟨h, by omega, fun _ => h0⟩) ?_
    refine Ev.bind (ev_cp a hal) ?_
    refine Ev.bind (ev_iSeriesPow ⟨h, by omega, fun _ => h0⟩) ?_
    refine Ev.bind (ev_cp a hal) ?_
    have ew : wrap64 (d + e) = d + e := w64 (by omega) (by omega)
    rw [ew]
    clear ew
    refine Ev.bind (ev_iSeriesPow ⟨h, by omega, fun _ => h0⟩) ?_
    have gl : ((powS f a (d + e)).length : Int) = (a.length : Int) := by rw [powS_len h]
    simp only [gl, if_true]
    refine Ev.bind (ev_iSeriesMul (powS_el h) (powS_el h) (by rw [powS_len h, powS_len h])) ?_
    rw [pow_prod h h0 (by omega) (by omega)]
    refine Ev.bind (ev_same _ (by rw [powS_len h]; omega)) ?_
    refine ev_s ?_
    simp only [laws_FnSeriesPowers.j2, Bool.not_true, Bool.false_eq_true, if_false]
    refine Ev.bind (ev_cp a hal) ?_
    simp only [g0, if_true, Option.bind_some]
    have hp := (isF h.1.1 h.1.2).bounds
    have hbl : (a.set (0 : Int).toNat 1).length = a.length := List.length_set
    have hb : SerOk f (a.set (0 : Int).toNat 1) := ⟨h.1, by rw [hbl]; exact h.2.1, by rw [hbl]; exact h.2.2.1, h.2.2.2.set (by omega) (by omega)⟩
    have hb1 : rd (a.set (0 : Int).toNat 1) 0 = 1 := rd_set_eq (i := 0) (by omega)
    generalize a.set (0 : Int).toNat 1 = b at *
    refine Ev.bind (ev_cp b (by omega)) ?_
    refine Ev.bind (ev_cp b (by omega)) ?_
    refine Ev.bind (ev_iSeriesMul hb hb rfl) ?_
    have hs1 : rd (mulS (md f) b b) 0 = 1 := by
      have := mulS_rd (p := md f) (a := b) (b := b) (c := 0) (by omega)
      rw [pc_ser, sm_succ, sm_zero] at this
      have z : ((0 : Nat) : Int) = 0 := rfl
      rw [Nat.sub_zero, z, hb1] at this
      rw [this]
      exact em_id (by omega) (by omega)
    refine Ev.bind (ev_iSeriesSqrt (mul_ok hb b) hs1) ?_
    simp only [if_true]
    rw [sqrS_sq (p := md f) (by omega) hb.2.2.2 hb1 hb.2.1 (inv_mul h.1 (by rw [em_id (by omega) (by omega)]; omega))]
    refine Ev.bind (ev_same b (by omega)) ?_
    exact Ev.now _
  · refine Ev.bind (ev_SeriesOk_bad h) ?_
    simp only [Bool.false_eq_true, if_false]
    exact out

end Go.Proofs.Ytemffnnndjpleaa.Pure
