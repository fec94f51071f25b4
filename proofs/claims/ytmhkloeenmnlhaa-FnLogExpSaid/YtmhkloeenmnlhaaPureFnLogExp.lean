/- FnLogExp returns true for every input: exponential and logarithm are inverse to each other where they are defined. -/
import Derived.Test.YtmhkloeenmnlhaaPFnLogExpx12
import Derived.Test.YtmhkloeenmnlhaaGB
import Derived.Test.YtmhkloeenmnlhaaGK
import Derived.Test.YtmhkloeenmnlhaaGQ
set_option linter.unusedVariables false
set_option linter.unusedSimpArgs false
namespace Go.Proofs.Ytmhkloeenmnlhaa.Pure
open Go.RowKit Go.Proofs.Ytmhkloeenmnlhaa.PFnLogExp Go.Proofs.YtmhkloeenmnlhaaW.PrintWords Go.Proofs.YtmhkloeenmnlhaaW.PrintLast Go.Proofs.YtmhkloeenmnlhaaW.PrintMore G7
theorem dr_New (L : List Int) (hL : L.length ≤ 140737488351232) : ∃ h, Ev (fun k => spec_l01New.f k L) (L, 0, h) := by
  have key : ∀ (d i : Nat) (x : Int), i + d = 4000 → ∃ h, Ev (fun k => spec_l01New.l0 k L x (i : Int)) (L, 0, h) := by
    intro d
    induction d with
    | zero =>
      intro i x hi
      refine ⟨x, ev_s ?_⟩
      have h2 : ¬ ((i : Int) < 4000) := by omega
      by_cases h1 : (i : Int) < (L.length : Int)
      · simp only [spec_l01New.l0, h1, h2, if_true, if_false]; exact Ev.now _
      · simp only [spec_l01New.l0, h1, if_false]; exact Ev.now _
    | succ d ih =>
      intro i x hi
      have h2 : (i : Int) < 4000 := by omega
      have h3 : (0 : Int) ≤ (i : Int) := by omega
      by_cases h1 : (i : Int) < (L.length : Int)
      · obtain ⟨h, hh⟩ := ih (i + 1) (Go.bits .and .i64 (wrap64 ((wrap64 ((wrap64 (x * 149)) + (wrap64 (rd L (i : Int))))) + 11)) 1073741823) (by omega)
        refine ⟨h, ev_s ?_⟩
        simp only [spec_l01New.l0, h1, h2, h3, if_true, w_succ (n := i) (by omega)]
        exact hh
      · refine ⟨x, ev_s ?_⟩
        simp only [spec_l01New.l0, h1, if_false]; exact Ev.now _
  unfold spec_l01New.f
  exact key 4000 0 _ (by omega)

theorem dr_Byte (L : List Int) (hL : L.length ≤ 140737488351232) (i h : Int) (hi : 0 ≤ i) : ∃ x i' h', spec_l01Byte.f L i h = some (x, i', h') ∧ 0 ≤ i' ∧ 0 ≤ x ∧ x ≤ 255 := by
  unfold spec_l01Byte.f
  simp only [i64_and255]
  by_cases c : i < (L.length : Int)
  · rw [if_pos c, if_pos hi]
    exact ⟨_, _, _, rfl, by rw [w64 (by omega) (by omega)]; omega, by omega, by omega⟩
  · rw [if_neg c]
    exact ⟨_, _, _, rfl, hi, by omega, by omega⟩

theorem dr_Below (L : List Int) (hL : L.length ≤ 140737488351232) (i h n : Int) (hi : 0 ≤ i) : ∃ x i' h', spec_l01Below.f L i h n = some (x, i', h') ∧ 0 ≤ i' ∧ 0 ≤ x ∧ (0 < n → x < n) := by
  unfold spec_l01Below.f
  by_cases c : n ≤ 0
  · rw [if_pos c]
    exact ⟨_, _, _, rfl, hi, by omega, by omega⟩
  · rw [if_neg c]
    by_cases c2 : n ≤ 256
    · rw [if_pos c2]
      obtain ⟨x, i1, h1, e1, hi1, hx0, hx1⟩ := dr_Byte L hL i h hi
      simp only [e1, Option.bind_some]
      rw [if_neg (by omega), tmod_nn hx0]
      exact ⟨_, _, _, rfl, hi1, (em_lt (by omega)).1, fun _ => (em_lt (by omega)).2⟩
    · rw [if_neg c2]
      obtain ⟨x, i1, h1, e1, hi1, hx0, hx1⟩ := dr_Byte L hL i h hi
      obtain ⟨y, i2, h2, e2, hi2, hy0, hy1⟩ := dr_Byte L hL i1 h1 hi1
      obtain ⟨z, i3, h3, e3, hi3, hz0, hz1⟩ := dr_Byte L hL i2 h2 hi2
      simp only [e1, e2, e3, Option.bind_some]
      rw [if_neg (by omega), w64 (x := x * 65536) (by omega) (by omega), w64 (x := y * 256) (by omega) (by omega), w64 (x := x * 65536 + y * 256) (by omega) (by omega), w64 (by omega) (by omega), tmod_nn (by omega)]
      exact ⟨_, _, _, rfl, hi3, (em_lt (by omega)).1, fun _ => (em_lt (by omega)).2⟩

theorem dr_Once (L : List Int) (hL : L.length ≤ 140737488351232) (i h n : Int) (hi : 0 ≤ i) : ∃ b i' h', spec_l01Once.f L i h n = some (b, i', h') ∧ 0 ≤ i' := by
  unfold spec_l01Once.f
  obtain ⟨x, i1, h1, e1, hi1, hx0, hx1⟩ := dr_Below L hL i h n hi
  simp only [e1, Option.bind_some]
  exact ⟨_, _, _, rfl, hi1⟩

theorem dr_Pick (L : List Int) (hL : L.length ≤ 140737488351232) (i h : Int) (l : List Int) (hl : 0 < l.length) (hi : 0 ≤ i) : ∃ x i' h', spec_l01PickInt.f L i h l = some (x, i', h') ∧ 0 ≤ i' ∧ x ∈ l := by
  unfold spec_l01PickInt.f
  obtain ⟨x, i1, h1, e1, hi1, hx0, hx1⟩ := dr_Below L hL i h (l.length : Int) hi
  have hx2 := hx1 (by omega)
  simp only [e1, Option.bind_some]
  rw [if_pos hx0, if_pos hx2]
  refine ⟨_, _, _, rfl, hi1, ?_⟩
  obtain ⟨n, rfl⟩ : ∃ n : Nat, x = n := ⟨x.toNat, by omega⟩
  rw [rd_at (by omega)]
  exact List.getElem_mem _

theorem dr_Field (L : List Int) (hL : L.length ≤ 140737488351232) (i h : Int) (hi : 0 ≤ i) : ∃ x i' h', spec_l01DrawField.f L i h = some (x, i', h') ∧ 0 ≤ i' ∧ -1 ≤ x ∧ x ≤ 100 := by
  unfold spec_l01DrawField.f
  obtain ⟨b, i1, h1, e1, hi1⟩ := dr_Once L hL i h 20 hi
  simp only [e1, Option.bind_some]
  cases b with
  | true =>
    obtain ⟨x, i2, h2, e2, hi2, hx⟩ := dr_Pick L hL i1 h1 ([-1, 9, 100] : List Int) (by decide) hi1
    simp only [e2, Option.bind_some, if_true]
    simp only [List.mem_cons, List.mem_nil_iff, or_false] at hx
    exact ⟨_, _, _, rfl, hi2, by omega, by omega⟩
  | false =>
    obtain ⟨x, i2, h2, e2, hi2, hx0, hx1⟩ := dr_Below L hL i1 h1 9 hi1
    have := hx1 (by omega)
    simp only [e2, Option.bind_some, Bool.false_eq_true, if_false]
    exact ⟨_, _, _, rfl, hi2, by omega, by omega⟩

theorem dr_Length (L l2 : List Int) (hL : L.length ≤ 140737488351232) (hl2 : l2.length ≤ 140737488351232) (i h f : Int) (hi : 0 ≤ i) : ∃ n i' h', Ev (fun k => spec_l06DrawLength.f k L i h f l2) (n, i', h') ∧ 0 ≤ n ∧ n ≤ 100 ∧ 0 ≤ i' := by
  have j1 : ∀ x i h : Int, 0 ≤ x → x ≤ 100 → 0 ≤ i → ∃ n i' h', Ev (fun k => spec_l06DrawLength.j1 k x L i h) (n, i', h') ∧ 0 ≤ n ∧ n ≤ 100 ∧ 0 ≤ i' := by
    intro x i h h0 h1 hi
    obtain ⟨b, i1, h1, e1, hi1⟩ := dr_Once L hL i h 20 hi
    cases b with
    | true =>
      obtain ⟨y, i2, h2, e2, hi2, hy⟩ := dr_Pick L hL i1 h1 ([0, 1, 17, 18, 64, 65] : List Int) (by decide) hi1
      simp only [List.mem_cons, List.mem_nil_iff, or_false] at hy
      refine ⟨y, i2, h2, ev_s ?_, by omega, by omega, hi2⟩
      simp only [spec_l06DrawLength.j1, e1, e2, Option.bind_some, if_true]; exact Ev.now _
    | false =>
      refine ⟨x, i1, h1, ev_s ?_, by omega, by omega, hi1⟩
      simp only [spec_l06DrawLength.j1, e1, Option.bind_some, Bool.false_eq_true, if_false]; exact Ev.now _
  have j0 : ∀ (x : Int) (b : Bool) (i h : Int), 0 ≤ x → x ≤ 100 → 0 ≤ i → ∃ n i' h', Ev (fun k => spec_l06DrawLength.j0 k x b L i h) (n, i', h') ∧ 0 ≤ n ∧ n ≤ 100 ∧ 0 ≤ i' := by
    intro x b i h h0 h1 hi
    cases b with
    | true =>
      obtain ⟨n, i', h', e, r⟩ := j1 17 i h (by omega) (by omega) hi
      refine ⟨n, i', h', ev_s ?_, r⟩
      simp only [spec_l06DrawLength.j0, if_true]; exact e
    | false =>
      obtain ⟨n, i', h', e, r⟩ := j1 x i h h0 h1 hi
      refine ⟨n, i', h', ev_s ?_, r⟩
      simp only [spec_l06DrawLength.j0, Bool.false_eq_true, if_false]; exact e
  have hs : ∃ s, spec_l01Size.f l2 40 = some s ∧ s ≤ 40 := by
    unfold spec_l01Size.f
    rw [w64 (x := (l2.length : Int) / 16) (by omega) (by omega), w64 (by omega) (by omega)]
    by_cases c : 2 + (l2.length : Int) / 16 > 40
    · rw [if_pos c]; exact ⟨_, rfl, by omega⟩
    · rw [if_neg c]; exact ⟨_, rfl, by omega⟩
  obtain ⟨s, es, hs⟩ := hs
  unfold spec_l06DrawLength.f
  obtain ⟨x, i1, h1, e1, hi1, hx0, hx1⟩ := dr_Below L hL i h s hi
  have hx2 : x ≤ 40 := by
    by_cases c : 0 < s
    · have := hx1 c; omega
    · have e0 : spec_l01Below.f L i h s = some (0, i, h) := by unfold spec_l01Below.f; rw [if_pos (by omega)]
      rw [e0] at e1
      injection e1 with e1
      injection e1 with e1 _
      omega
  simp only [es, e1, Option.bind_some, w64 (x := 1 + x) (by omega) (by omega)]
  by_cases c : f = 0
  · obtain ⟨b, i2, h2, e2, hi2⟩ := dr_Once L hL i1 h1 6 hi1
    simp only [c, e2, Option.bind_some, if_true]
    cases b with
    | true => simp only [if_true]; exact j0 _ _ _ _ (by omega) (by omega) hi2
    | false => simp only [Bool.false_eq_true, if_false]; exact j0 _ _ _ _ (by omega) (by omega) hi2
  · simp only [c, if_false]; exact j0 _ _ _ _ (by omega) (by omega) hi1

theorem ev_Modulus (f : Int) : spec_Modulus.f f = some (md f) := by
  unfold spec_Modulus.f md
  by_cases h0 : f = 0
  · rw [if_pos h0, if_pos h0]
  rw [if_neg h0, if_neg h0]
  by_cases h1 : f = 1
  · rw [if_pos h1, if_pos h1]
  rw [if_neg h1, if_neg h1]
  by_cases h2 : f = 2
  · rw [if_pos h2, if_pos h2]
  rw [if_neg h2, if_neg h2]
  by_cases h3 : f = 3
  · rw [if_pos h3, if_pos h3]
  rw [if_neg h3, if_neg h3]
  by_cases h4 : f = 4
  · rw [if_pos h4, if_pos h4]
  rw [if_neg h4, if_neg h4]
  by_cases h5 : f = 5
  · rw [if_pos h5, if_pos h5]
  rw [if_neg h5, if_neg h5]
  by_cases h6 : f = 6
  · rw [if_pos h6, if_pos h6]
  rw [if_neg h6, if_neg h6]
  by_cases h7 : f = 7
  · rw [if_pos h7, if_pos h7]
  rw [if_neg h7, if_neg h7]
  by_cases h8 : f = 8
  · rw [if_pos h8, if_pos h8]
  rw [if_neg h8, if_neg h8]

theorem dr_Element (L : List Int) (hL : L.length ≤ 140737488351232) (i h f : Int) (hi : 0 ≤ i) : ∃ x i' h', spec_l01DrawElement.f L i h f = some (x, i', h') ∧ 0 ≤ i' := by
  unfold spec_l01DrawElement.f
  simp only [ev_Modulus, Option.bind_some]
  by_cases c : md f = 0
  · obtain ⟨x, i1, h1, e1, hi1, _⟩ := dr_Below L hL i h 50 hi
    simp only [c, e1, Option.bind_some, if_true]
    exact ⟨_, _, _, rfl, hi1⟩
  · obtain ⟨x, i1, h1, e1, hi1, _⟩ := dr_Below L hL i h 6 hi
    simp only [c, e1, Option.bind_some, if_false]
    by_cases c0 : x = 0
    · obtain ⟨y, i2, h2, e2, hi2, _⟩ := dr_Below L hL i1 h1 3 hi1
      simp only [c0, e2, Option.bind_some, if_true]
      exact ⟨_, _, _, rfl, hi2⟩
    by_cases c1 : x = 1
    · obtain ⟨y, i2, h2, e2, hi2, _⟩ := dr_Below L hL i1 h1 3 hi1
      simp only [c0, c1, e2, Option.bind_some, if_true, if_false]
      exact ⟨_, _, _, rfl, hi2⟩
    by_cases c2 : x = 2
    · obtain ⟨y, i2, h2, e2, hi2, _⟩ := dr_Below L hL i1 h1 16777216 hi1
      obtain ⟨z, i3, h3, e3, hi3, _⟩ := dr_Below L hL i2 h2 256 hi2
      simp only [c0, c1, c2, e2, e3, Option.bind_some, if_true, if_false]
      exact ⟨_, _, _, rfl, hi3⟩
    · obtain ⟨y, i2, h2, e2, hi2, _⟩ := dr_Below L hL i1 h1 30 hi1
      simp only [c0, c1, c2, e2, Option.bind_some, if_false]
      exact ⟨_, _, _, rfl, hi2⟩

theorem dr_List (L : List Int) (hL : L.length ≤ 140737488351232) (i h f n : Int) (hi : 0 ≤ i) (hn : n ≤ 1048576) : ∃ out i' h', Ev (fun k => spec_l01DrawList.f k L i h f n) (out, i', h') ∧ out.length = n.toNat ∧ 0 ≤ i' := by
  have key : ∀ (d c : Nat) (out : List Int) (i h : Int), c + d = n.toNat → out.length = c → 0 ≤ i → ∃ out' i' h', Ev (fun k => spec_l01DrawList.l0 k f n out (c : Int) L i h) (out', i', h') ∧ out'.length = n.toNat ∧ 0 ≤ i' := by
    intro d
    induction d with
    | zero =>
      intro c out i h hc ho hi
      refine ⟨out, i, h, ev_s ?_, by omega, hi⟩
      have h1 : ¬ ((c : Int) < n) := by omega
      simp only [spec_l01DrawList.l0, h1, if_false]; exact Ev.now _
    | succ d ih =>
      intro c out i h hc ho hi
      obtain ⟨x, i1, h1, e1, hi1⟩ := dr_Element L hL i h f hi
      obtain ⟨o2, i2, h2, e2, hl2, hi2⟩ := ih (c + 1) (out ++ [x]) i1 h1 (by omega) (by simp [ho]) hi1
      refine ⟨o2, i2, h2, ev_s ?_, hl2, hi2⟩
      have g1 : (c : Int) < n := by omega
      have g2 : out.length < 17592186044416 := by omega
      simp only [spec_l01DrawList.l0, g1, g2, e1, Option.bind_some, if_true, w_succ (n := c) (by omega)]
      exact e2
  unfold spec_l01DrawList.f
  exact key n.toNat 0 [] i h (by omega) rfl hi

theorem dr_Series (L : List Int) (hL : L.length ≤ 140737488351232) (i h f n first : Int) (hi : 0 ≤ i) (hn : n ≤ 1048576) : ∃ out i' h', Ev (fun k => spec_l06DrawSeries.f k L i h f n first) (out, i', h') ∧ out.length = n.toNat ∧ 0 ≤ i' := by
  have j2 : ∀ (out : List Int) (b : Bool) (i h : Int), out.length = n.toNat → 0 ≤ i → (b = true → 0 < n) → ∃ out' i' h', Ev (fun k => spec_l06DrawSeries.j2 k f n out b L i h) (out', i', h') ∧ out'.length = n.toNat ∧ 0 ≤ i' := by
    intro out b i h ho hi hb
    cases b with
    | true =>
      have hn0 := hb rfl
      obtain ⟨x, i1, h1, e1, hi1, hx0, hx1⟩ := dr_Below L hL i h n hi
      have hx2 := hx1 hn0
      obtain ⟨y, i2, h2, e2, hi2, _⟩ := dr_Pick L hL i1 h1 ([(-1), md f, 0, 1] : List Int) (by simp) hi1
      refine ⟨out.set x.toNat y, i2, h2, ev_s ?_, by rw [List.length_set]; exact ho, hi2⟩
      have g1 : x < (out.length : Int) := by omega
      simp only [spec_l06DrawSeries.j2, ev_Modulus, e1, e2, hx0, g1, Option.bind_some, if_true]; exact Ev.now _
    | false =>
      refine ⟨out, i, h, ev_s ?_, ho, hi⟩
      simp only [spec_l06DrawSeries.j2, Bool.false_eq_true, if_false]; exact Ev.now _
  have j1 : ∀ (out : List Int) (i h : Int), out.length = n.toNat → 0 ≤ i → ∃ out' i' h', Ev (fun k => spec_l06DrawSeries.j1 k f n out L i h) (out', i', h') ∧ out'.length = n.toNat ∧ 0 ≤ i' := by
    intro out i h ho hi
    obtain ⟨b, i1, h1, e1, hi1⟩ := dr_Once L hL i h 20 hi
    cases b with
    | true =>
      obtain ⟨o, i', h', e, r⟩ := j2 out (decide (n > 0)) i1 h1 ho hi1 (fun c => by have := of_decide_eq_true c; omega)
      refine ⟨o, i', h', ev_s ?_, r⟩
      simp only [spec_l06DrawSeries.j1, e1, Option.bind_some, if_true]; exact e
    | false =>
      obtain ⟨o, i', h', e, r⟩ := j2 out false i1 h1 ho hi1 (fun c => by cases c)
      refine ⟨o, i', h', ev_s ?_, r⟩
      simp only [spec_l06DrawSeries.j1, e1, Option.bind_some, Bool.false_eq_true, if_false]; exact e
  have j0 : ∀ (out : List Int) (b : Bool) (i h : Int), out.length = n.toNat → 0 ≤ i → (b = true → 0 < n) → ∃ out' i' h', Ev (fun k => spec_l06DrawSeries.j0 k f n first out b L i h) (out', i', h') ∧ out'.length = n.toNat ∧ 0 ≤ i' := by
    intro out b i h ho hi hb
    cases b with
    | true =>
      have hn0 := hb rfl
      obtain ⟨o, i', h', e, r⟩ := j1 (out.set (0 : Int).toNat first) i h (by rw [List.length_set]; exact ho) hi
      refine ⟨o, i', h', ev_s ?_, r⟩
      have g1 : (0 : Int) < (out.length : Int) := by omega
      simp only [spec_l06DrawSeries.j0, g1, if_true]; exact e
    | false =>
      obtain ⟨o, i', h', e, r⟩ := j1 out i h ho hi
      refine ⟨o, i', h', ev_s ?_, r⟩
      simp only [spec_l06DrawSeries.j0, Bool.false_eq_true, if_false]; exact e
  obtain ⟨o, i1, h1, e1, hl1, hi1⟩ := dr_List L hL i h f n hi hn
  unfold spec_l06DrawSeries.f
  by_cases c : first ≥ 0
  · obtain ⟨o2, i', h', e, r⟩ := j0 o (decide (n > 0)) i1 h1 hl1 hi1 (fun c => by have := of_decide_eq_true c; omega)
    refine ⟨o2, i', h', Ev.bind e1 ?_, r⟩
    simp only [c, if_true]; exact e
  · obtain ⟨o2, i', h', e, r⟩ := j0 o false i1 h1 hl1 hi1 (fun c => by cases c)
    refine ⟨o2, i', h', Ev.bind e1 ?_, r⟩
    simp only [c, if_false]; exact e

theorem dr_l06One (L : List Int) (hL : L.length ≤ 140737488351232) (first : Int) : ∃ f a, Ev (fun k => spec_l06DrawOne.f k L first) (f, a) ∧ a.length ≤ 1048576 := by
  obtain ⟨h, hn⟩ := dr_New L hL
  obtain ⟨f, i2, h2, e2, hi2, _⟩ := dr_Field L hL 0 h (by omega)
  obtain ⟨n, i3, h3, e3, hn0, hn1, hi3⟩ := dr_Length L L hL hL i2 h2 f hi2
  obtain ⟨u, i5, h5, e5, hu, hi5⟩ := dr_Series L hL i3 h3 f n first hi3 (by omega)
  unfold spec_l06DrawOne.f
  refine ⟨f, u, Ev.bind hn ?_, by omega⟩
  refine Ev.bind (ev_c e2) ?_
  refine Ev.bind e3 ?_
  refine Ev.bind e5 ?_
  exact Ev.now _

theorem dr_DrawSeriesLog (L : List Int) (hL : L.length ≤ 140737488351232) : ∃ f a, Ev (fun k => spec_DrawSeriesLog.f k L) (f, a) ∧ a.length ≤ 1048576 := by
  obtain ⟨f, a, e, ha⟩ := dr_l06One L hL 1
  refine ⟨f, a, ?_, ha⟩
  unfold spec_DrawSeriesLog.f
  refine Ev.bind e ?_
  exact Ev.now _

theorem dr_DrawSeriesExp (L : List Int) (hL : L.length ≤ 140737488351232) : ∃ f a, Ev (fun k => spec_DrawSeriesExp.f k L) (f, a) ∧ a.length ≤ 1048576 := by
  obtain ⟨f, a, e, ha⟩ := dr_l06One L hL 0
  refine ⟨f, a, ?_, ha⟩
  unfold spec_DrawSeriesExp.f
  refine Ev.bind e ?_
  exact Ev.now _

theorem ev_alt (L : List Int) (hL : L.length ≤ 1048576) (c : Int) : ∃ t, Ev (fun k => laws_alt.f k L c) t ∧ t.length ≤ 1048577 := by
  have key : ∀ (d i : Nat) (out : List Int), i + d = L.length → out.length = i + 1 → ∃ t, Ev (fun k => laws_alt.l0 k L out (i : Int)) t ∧ t.length ≤ 1048577 := by
    intro d
    induction d with
    | zero =>
      intro i out hi ho
      refine ⟨out, ev_s ?_, by omega⟩
      have g1 : ¬ ((i : Int) < (L.length : Int)) := by omega
      simp only [laws_alt.l0, g1, if_false]; exact Ev.now _
    | succ d ih =>
      intro i out hi ho
      have g1 : (i : Int) < (L.length : Int) := by omega
      have g2 : (0 : Int) ≤ (i : Int) := by omega
      have g3 : out.length < 140737488355328 := by omega
      by_cases c : (i : Int) < 3000
      · obtain ⟨t, ht, hl⟩ := ih (i + 1) (out ++ [rd L (i : Int)]) (by omega) (by simp [ho])
        refine ⟨t, ev_s ?_, hl⟩
        simp only [laws_alt.l0, g1, g2, g3, c, if_true, w_succ (n := i) (by omega)]
        exact ht
      · refine ⟨out, ev_s ?_, by omega⟩
        simp only [laws_alt.l0, g1, c, if_true, if_false]; exact Ev.now _
  unfold laws_alt.f
  exact key L.length 0 _ (by omega) rfl

theorem ev_cp (l : List Int) (hl : l.length ≤ 1048576) : Ev (fun k => laws_cp.f k l) l := by
  have key : ∀ (d i : Nat), i + d = l.length → Ev (fun k => laws_cp.l0 k l (l.take i) (i : Int)) l := by
    intro d
    induction d with
    | zero =>
      intro i hi
      refine ev_s ?_
      have g1 : ¬ ((i : Int) < (l.length : Int)) := by omega
      simp only [laws_cp.l0, g1, if_false]
      rw [List.take_of_length_le (by omega)]; exact Ev.now _
    | succ d ih =>
      intro i hi
      refine ev_s ?_
      have g1 : (i : Int) < (l.length : Int) := by omega
      have g2 : (0 : Int) ≤ (i : Int) := by omega
      have g3 : (l.take i).length < 17592186044416 := by rw [List.length_take]; omega
      simp only [laws_cp.l0, g1, g2, g3, if_true, w_succ (n := i) (by omega)]
      rw [rd_at (show i < l.length by omega), List.take_append_getElem (show i < l.length by omega)]
      exact ih (i + 1) (by omega)
  exact key l.length 0 (by omega)

theorem ev_same (l : List Int) (hl : l.length ≤ 1048576) : Ev (fun k => laws_same.f k l l) true := by
  have key : ∀ (d i : Nat), i + d = l.length → Ev (fun k => laws_same.l0 k l l (i : Int)) true := by
    intro d
    induction d with
    | zero =>
      intro i hi
      refine ev_s ?_
      have h1 : ¬ ((i : Int) < (l.length : Int)) := by omega
      simp only [laws_same.l0, h1, if_false]
      exact Ev.now _
    | succ d ih =>
      intro i hi
      refine ev_s ?_
      have h1 : (i : Int) < (l.length : Int) := by omega
      have h2 : (0 : Int) ≤ (i : Int) := by omega
      simp only [laws_same.l0, h1, h2, if_true, w_succ (n := i) (by omega)]
      exact ih (i + 1) (by omega)
  unfold laws_same.f
  simp only [if_true]
  exact key l.length 0 (by omega)

/-- A series over a field. -/
def SerOk (f : Int) (a : List Int) : Prop := (0 ≤ f ∧ f < 9) ∧ 1 ≤ a.length ∧ a.length ≤ 64 ∧ El (md f) a
theorem SerOk.pm {f : Int} {a : List Int} (h : SerOk f a) : Pm (md f) := pm_of h.1
theorem SerOk.rd {f : Int} {a : List Int} (h : SerOk f a) (i : Int) : 0 ≤ rd a i ∧ rd a i < md f := h.2.2.2.rd (pm_of h.1).pos i

theorem ev_l01In (x a b : Int) : spec_l01In.f x a b = some (decide (a ≤ x) && decide (x ≤ b)) := by
  unfold spec_l01In.f
  by_cases h : a ≤ x
  · rw [if_pos h, decide_eq_true h, Bool.true_and]
  · rw [if_neg h, decide_eq_false h, Bool.false_and]

theorem ev_l03Elements {f : Int} (h : 0 ≤ f ∧ f < 9) (l : List Int) (hl : l.length ≤ 35184372088832) : Ev (fun k => spec_l03Elements.f k f l) (elB (md f) l) := by
  have hp := pm_of h
  unfold Pm at hp
  have key : ∀ (d i : Nat), i + d = l.length → Ev (fun k => spec_l03Elements.l0 k l (md f) (i : Int)) (elB (md f) (l.drop i)) := by
    intro d
    induction d with
    | zero =>
      intro i hi
      refine ev_s ?_
      have h1 : ¬ ((i : Int) < (l.length : Int)) := by omega
      simp only [spec_l03Elements.l0, h1, if_false]
      rw [List.drop_of_length_le (by omega)]
      exact Ev.now _
    | succ d ih =>
      intro i hi
      refine ev_s ?_
      have h1 : (i : Int) < (l.length : Int) := by omega
      have h2 : (0 : Int) ≤ (i : Int) := by omega
      simp only [spec_l03Elements.l0, h1, h2, if_true, w_succ (n := i) (by omega), w64 (x := md f - 1) (by omega) (by omega), ev_l01In, Option.bind_some]
      rw [elB_drop (by omega)]
      rw [show decide (rd l (i : Int) < md f) = decide (rd l (i : Int) ≤ md f - 1) from decide_eq_decide.2 (by omega)]
      by_cases c : (decide (0 ≤ rd l (i : Int)) && decide (rd l (i : Int) ≤ md f - 1)) = true
      · simp only [c, if_true, Bool.true_and]
        exact ih (i + 1) (by omega)
      · simp only [Bool.not_eq_true] at c
        simp only [c, Bool.false_and, Bool.false_eq_true, if_false]
        exact Ev.now _
  unfold spec_l03Elements.f
  simp only [ev_Modulus, Option.bind_some]
  have h0 : ¬ (md f = 0) := by omega
  simp only [h0, if_false]
  exact key l.length 0 (by omega)
theorem ev_l03Elements_bad {f : Int} (h : ¬ (0 ≤ f ∧ f < 9)) (l : List Int) : Ev (fun k => spec_l03Elements.f k f l) false := by
  unfold spec_l03Elements.f
  simp only [ev_Modulus, Option.bind_some, md_bad h, if_true]
  exact Ev.now _

theorem ev_SeriesOk {f : Int} {a : List Int} (h : SerOk f a) : Ev (fun k => spec_SeriesOk.f k f a) true := by
  obtain ⟨hf, h1, h2, he⟩ := h
  unfold spec_SeriesOk.f
  simp only [ev_l01In, Option.bind_some, show decide ((1 : Int) ≤ (a.length : Int)) = true from decide_eq_true (by omega), show decide ((a.length : Int) ≤ 64) = true from decide_eq_true (by omega), Bool.and_self, if_true]
  refine Ev.bind (ev_l03Elements hf a (by omega)) ?_
  rw [elB_iff.2 he]
  exact Ev.now _
theorem ev_SeriesOk_bad {f : Int} {a : List Int} (h : ¬ SerOk f a) : Ev (fun k => spec_SeriesOk.f k f a) false := by
  unfold spec_SeriesOk.f
  simp only [ev_l01In, Option.bind_some]
  by_cases c : (1 : Int) ≤ (a.length : Int) ∧ (a.length : Int) ≤ 64
  · simp only [decide_eq_true c.1, decide_eq_true c.2, Bool.and_self, if_true]
    by_cases hf : 0 ≤ f ∧ f < 9
    · refine Ev.bind (ev_l03Elements hf a (by omega)) ?_
      have he : elB (md f) a = false := by
        rw [← Bool.not_eq_true, elB_iff]
        intro he
        exact h ⟨hf, by omega, by omega, he⟩
      rw [he]
      exact Ev.now _
    · refine Ev.bind (ev_l03Elements_bad hf a) ?_
      exact Ev.now _
  · have e : (decide ((1 : Int) ≤ (a.length : Int)) && decide ((a.length : Int) ≤ 64)) = false := by
      rw [← Bool.not_eq_true, Bool.and_eq_true, decide_eq_true_eq, decide_eq_true_eq]; exact c
    simp only [e, Bool.false_eq_true, if_false]
    exact Ev.now _

theorem ev_Reduce {f : Int} (h : 0 ≤ f ∧ f < 9) (x : Int) : spec_Reduce.f f x = some (x % md f) := by
  have hp := pm_of h
  unfold Pm at hp
  unfold spec_Reduce.f
  rw [ev_Modulus]
  simp only [Option.bind_some]
  rw [if_neg (by omega)]
  have hb := tmod_bounds (a := x) (p := md f) (by omega)
  rw [w64 (by omega) (by omega), ← tmod_fix (a := x) (p := md f) (by omega)]
  by_cases c : Int.tmod x (md f) < 0
  · rw [if_pos c, if_pos c]
  · rw [if_neg c, if_neg c]
theorem ev_Reduce_bad {f : Int} (h : ¬ (0 ≤ f ∧ f < 9)) (x : Int) : spec_Reduce.f f x = some (-1) := by
  unfold spec_Reduce.f
  rw [ev_Modulus]
  simp only [Option.bind_some]
  rw [if_pos (md_bad h)]

theorem ev_Mul {f : Int} (h : 0 ≤ f ∧ f < 9) (x y : Int) : spec_Mul.f f x y = some ((x * y) % md f) := by
  have hp := pm_of h
  have hb := hp
  unfold Pm at hp
  have hx := em_lt (a := x) (p := md f) (by omega)
  have hy := em_lt (a := y) (p := md f) (by omega)
  have hxy := mul_lt_big hx.1 hx.2 hy.1 hy.2 hp.2
  unfold spec_Mul.f
  rw [ev_Modulus]
  simp only [Option.bind_some, ev_Reduce h]
  rw [if_neg (by omega), w64 (by omega) (by omega), emul_l, emul_r]

theorem ev_Sub {f : Int} (h : 0 ≤ f ∧ f < 9) (x y : Int) : spec_Sub.f f x y = some ((x - y) % md f) := by
  have hp := pm_of h
  unfold Pm at hp
  have hx := em_lt (a := x) (p := md f) (by omega)
  have hy := em_lt (a := y) (p := md f) (by omega)
  unfold spec_Sub.f
  rw [ev_Modulus]
  simp only [Option.bind_some, ev_Reduce h]
  rw [if_neg (by omega), w64 (by omega) (by omega), esub_l, esub_r]

theorem ev_PowerL {p : Int} (hp : Pm p) : ∀ (e : Nat) {a : Int}, (0 ≤ a ∧ a < p) → e < 4611686018427387904 → Ev (fun k => spec_Power.j0 k p a (e : Int)) (a ^ e % p) := by
  have hpp := hp
  unfold Pm at hpp
  have key : ∀ (n e : Nat), e ≤ n → e < 4611686018427387904 → ∀ a out : Int, (0 ≤ a ∧ a < p) → (0 ≤ out ∧ out < p) → Ev (fun k => spec_Power.l0 k p a (e : Int) out) (out * a ^ e % p) := by
    intro n
    induction n with
    | zero =>
      intro e he _ a out ha ho
      obtain rfl : e = 0 := by omega
      refine ev_s ?_
      have h1 : ¬ (((0 : Nat) : Int) > 0) := by omega
      simp only [spec_Power.l0, h1, if_false]
      rw [Int.pow_zero, Int.mul_one, em_id ho.1 ho.2]
      exact Ev.now _
    | succ n ih =>
      intro e he hb a out ha ho
      by_cases h0 : e = 0
      · subst h0
        exact ih 0 (by omega) hb a out ha ho
      · refine ev_s ?_
        have h1 : (e : Int) > 0 := by omega
        have h2 : Int.tmod (e : Int) 2 = ((e % 2 : Nat) : Int) := by rw [tmod_nn (by omega)]; omega
        have h3 : wrap64 (Int.tdiv (e : Int) 2) = ((e / 2 : Nat) : Int) := by
          rw [Int.tdiv_eq_ediv_of_nonneg (by omega), w64 (by omega) (by omega)]; omega
        have haa := em_lt (a := a * a) hp.pos
        have hp0 : ¬ (p = 0) := by omega
        have b1 := mul_lt_big ha.1 ha.2 ha.1 ha.2 hpp.2
        have b2 := mul_lt_big ho.1 ho.2 ha.1 ha.2 hpp.2
        simp only [spec_Power.l0, h1, if_true, h2, h3, hp0, if_false, w64 (x := a * a) (by omega) (by omega), w64 (x := out * a) (by omega) (by omega), tmod_nn b1.1, tmod_nn b2.1]
        by_cases c : e % 2 = 1
        · have hoa := em_lt (a := out * a) hp.pos
          simp only [c, Int.natCast_one, if_true]
          refine ev_to (ih (e / 2) (by omega) (by omega) (a * a % p) (out * a % p) haa hoa) ?_
          have e1 : (out * a % p) * (a * a % p) ^ (e / 2) % p = (out * a) * (a * a) ^ (e / 2) % p := emul (Int.emod_emod _ _) (epow_l _)
          rw [e1, ipow2, Int.mul_assoc, ← Int.pow_succ']
          congr 3; omega
        · have c0 : e % 2 = 0 := by omega
          simp only [c0, show ¬ (((0 : Nat) : Int) = 1) from by omega, if_false]
          refine ev_to (ih (e / 2) (by omega) (by omega) (a * a % p) out haa ho) ?_
          have e1 : out * (a * a % p) ^ (e / 2) % p = out * (a * a) ^ (e / 2) % p := emul rfl (epow_l _)
          rw [e1, ipow2]
          congr 3; omega
  intro e a ha he
  refine ev_s ?_
  simp only [spec_Power.j0]
  refine ev_to (key e e (Nat.le_refl _) he a 1 ha (by omega)) ?_
  rw [Int.one_mul]
theorem ev_Power {f : Int} (h : 0 ≤ f ∧ f < 9) {x : Int} (hx : x % md f ≠ 0) (e : Int) : Ev (fun k => spec_Power.f k f x e) ((x % md f) ^ (e % (md f - 1)).toNat % md f) := by
  have hp := pm_of h
  have hpp := hp
  unfold Pm at hpp
  have hxe := em_lt (a := x) hp.pos
  have hb := tmod_bounds (a := e) (p := md f - 1) (by omega)
  have hm := em_lt (a := e) (p := md f - 1) (by omega)
  have hfix := tmod_fix (a := e) (p := md f - 1) (by omega)
  unfold spec_Power.f
  simp only [ev_Modulus, Option.bind_some, ev_Reduce h, hx, if_false, w64 (x := md f - 1) (by omega) (by omega), show ¬ (md f = 0) from by omega, show ¬ (md f - 1 = 0) from by omega]
  have hcast : e % (md f - 1) = (((e % (md f - 1)).toNat : Nat) : Int) := by omega
  by_cases c : Int.tmod e (md f - 1) < 0
  · rw [if_pos c] at hfix
    simp only [c, if_true, w64 (x := Int.tmod e (md f - 1) + md f) (by omega) (by omega), w64 (x := Int.tmod e (md f - 1) + md f - 1) (by omega) (by omega)]
    rw [show Int.tmod e (md f - 1) + md f - 1 = (((e % (md f - 1)).toNat : Nat) : Int) by omega]
    exact ev_PowerL hp _ hxe (by omega)
  · rw [if_neg c] at hfix
    simp only [c, if_false]
    rw [show Int.tmod e (md f - 1) = (((e % (md f - 1)).toNat : Nat) : Int) by omega]
    exact ev_PowerL hp _ hxe (by omega)
theorem ev_Power0 {f : Int} (h : 0 ≤ f ∧ f < 9) {x : Int} (hx : x % md f = 0) (e : Int) : Ev (fun k => spec_Power.f k f x e) (if e = 0 then 1 else if e < 0 then -1 else 0) := by
  have hp := pm_of h
  unfold Pm at hp
  unfold spec_Power.f
  simp only [ev_Modulus, Option.bind_some, ev_Reduce h, hx, if_true, show ¬ (md f = 0) from by omega, if_false]
  by_cases c : e = 0
  · simp only [c, if_true]; exact Ev.now _
  · by_cases c2 : e < 0
    · simp only [c, c2, if_true, if_false]; exact Ev.now _
    · simp only [c, c2, if_false]; exact Ev.now _

theorem ev_Inverse {f : Int} (h : 0 ≤ f ∧ f < 9) {x : Int} (hx : x % md f ≠ 0) : Ev (fun k => spec_Inverse.f k f x) (inv (md f) (x % md f)) := by
  have hp := pm_of h
  unfold Pm at hp
  unfold spec_Inverse.f
  refine Ev.bind (ev_Power h hx (-1)) ?_
  rw [show (-1 : Int) % (md f - 1) = md f - 2 from by
    rw [← Int.add_mul_emod_self_left (-1) (md f - 1) 1, Int.mul_one, em_id (by omega) (by omega)]; omega]
  exact Ev.now _

theorem ev_SeriesInv {f : Int} {a : List Int} (h : SerOk f a) (h0 : rd a 0 ≠ 0) : Ev (fun k => spec_SeriesInv.f k f a) (invS (md f) a, true) := by
  have hf := h.1
  have h1 := h.2.1
  have h2 := h.2.2.1
  have hp := h.pm
  have ha0 := h.rd 0
  have e0 : rd a 0 % md f = rd a 0 := em_id ha0.1 ha0.2
  have hbl := inv_lt hp.pos (rd a 0)
  have inner : ∀ (d j i : Nat) (out : List Int) (r : List Int × Bool), j + d = i → i = out.length → i < a.length → 1 ≤ i →
      Ev (fun k => spec_SeriesInv.l0 k f a (out ++ [invF (md f) a out]) (inv (md f) (rd a 0)) ((i + 1 : Nat) : Int)) r →
      Ev (fun k => spec_SeriesInv.l1 k f a out (inv (md f) (rd a 0)) (i : Int) ((0 - sm j (invT a out)) % md f) ((j + 1 : Nat) : Int)) r := by
    intro d
    induction d with
    | zero =>
      intro j i out r hj hi hia h1i hr
      refine ev_s ?_
      have g1 : ¬ (((j + 1 : Nat) : Int) ≤ (i : Int)) := by omega
      have g2 : out.length < 17592186044416 := by omega
      simp only [spec_SeriesInv.l1, g1, g2, if_false, if_true, ev_Mul hf, Option.bind_some, w_succ (n := i) (by omega), emul_l]
      have e : (0 - sm j (invT a out)) * inv (md f) (rd a 0) % md f = invF (md f) a out := by
        unfold invF
        rw [if_neg (by omega), show j = out.length by omega, Int.zero_sub]
      rw [e]; exact hr
    | succ d ih =>
      intro j i out r hj hi hia h1i hr
      refine ev_s ?_
      have g1 : ((j + 1 : Nat) : Int) ≤ (i : Int) := by omega
      have g2 : (0 : Int) ≤ ((j + 1 : Nat) : Int) := by omega
      have g3 : ((j + 1 : Nat) : Int) < (a.length : Int) := by omega
      have ew : wrap64 ((i : Int) - ((j + 1 : Nat) : Int)) = ((out.length - 1 - j : Nat) : Int) := by rw [w64 (by omega) (by omega)]; omega
      have g4 : (0 : Int) ≤ ((out.length - 1 - j : Nat) : Int) := by omega
      have g5 : ((out.length - 1 - j : Nat) : Int) < (out.length : Int) := by omega
      simp only [spec_SeriesInv.l1, g1, g2, g3, ew, g4, g5, if_true, ev_Mul hf, ev_Sub hf, Option.bind_some, w_succ (n := j + 1) (by omega), esub_l, esub_r]
      have hs := ih (j + 1) i out r (by omega) hi hia h1i hr
      rw [sm_succ, show (0 : Int) - (sm j (invT a out) + invT a out j) = 0 - sm j (invT a out) - invT a out j by omega] at hs
      exact hs
  have outer : ∀ (d i : Nat), i + d = a.length → Ev (fun k => spec_SeriesInv.l0 k f a (bld (invF (md f) a) i) (inv (md f) (rd a 0)) (i : Int)) (invS (md f) a, true) := by
    intro d
    induction d with
    | zero =>
      intro i hi
      refine ev_s ?_
      have g1 : ¬ ((i : Int) < (a.length : Int)) := by omega
      simp only [spec_SeriesInv.l0, g1, if_false]
      rw [show i = a.length by omega]; exact Ev.now _
    | succ d ih =>
      intro i hi
      refine ev_s ?_
      have g1 : (i : Int) < (a.length : Int) := by omega
      have hn := ih (i + 1) (by omega)
      by_cases c : i = 0
      · subst c
        have g1' : (0 : Int) < (a.length : Int) := by omega
        simp only [spec_SeriesInv.l0, Int.natCast_zero, g1', if_true]
        refine ev_s ?_
        simp only [spec_SeriesInv.j2]
        refine ev_s ?_
        have g2 : ¬ ((1 : Int) ≤ 0) := by decide
        have g3 : (bld (invF (md f) a) 0).length < 17592186044416 := by rw [bld_len]; decide
        simp only [spec_SeriesInv.l1, g2, g3, if_false, if_true, ev_Mul hf, Option.bind_some, Int.one_mul, em_id hbl.1 hbl.2, w64 (x := 0 + 1) (by decide) (by decide)]
        exact hn
      · have c' : ¬ ((i : Int) = 0) := by omega
        simp only [spec_SeriesInv.l0, g1, c', if_true, if_false]
        refine ev_s ?_
        simp only [spec_SeriesInv.j2]
        have hi2 := inner i 0 i (bld (invF (md f) a) i) _ (by omega) (by rw [bld_len]) (by omega) (by omega) hn
        rw [sm_zero, Int.sub_zero, Int.zero_emod] at hi2
        exact hi2
  unfold spec_SeriesInv.f
  simp only [Option.bind_some]
  refine Ev.bind (ev_SeriesOk h) ?_
  have g0 : (0 : Int) < (a.length : Int) := by omega
  have g1 : (rd a 0 == 0) = false := by rw [beq_eq_false_iff_ne]; exact h0
  simp only [g0, g1, if_true]
  refine ev_s ?_
  simp only [spec_SeriesInv.j0, Bool.false_eq_true, if_false, g0, if_true]
  refine Ev.bind (ev_Inverse hf (x := rd a 0) (by rw [e0]; exact h0)) ?_
  rw [e0]
  exact outer a.length 0 (by omega)
theorem ev_SeriesInv_bad {f : Int} {a : List Int} (h : ¬ (SerOk f a ∧ rd a 0 ≠ 0)) : Ev (fun k => spec_SeriesInv.f k f a) ([], false) := by
  unfold spec_SeriesInv.f
  simp only [Option.bind_some]
  have bad : Ev (fun k => spec_SeriesInv.j0 k f a [] true) ([], false) := by
    refine ev_s ?_
    simp only [spec_SeriesInv.j0, if_true]; exact Ev.now _
  by_cases hs : SerOk f a
  · refine Ev.bind (ev_SeriesOk hs) ?_
    have g0 : (0 : Int) < (a.length : Int) := by have := hs.2.1; omega
    have g1 : (rd a 0 == 0) = true := by
      rw [beq_iff_eq]
      exact Decidable.byContradiction (fun c => h ⟨hs, c⟩)
    simp only [g0, g1, if_true]; exact bad
  · refine Ev.bind (ev_SeriesOk_bad hs) ?_
    simp only [Bool.false_eq_true, if_false]; exact bad

/-- The derivative of a series, as far as it reaches. -/
def derS (p : Int) (a : List Int) : List Int := (List.range (a.length - 1)).map (fun i => ((i + 1 : Nat) : Int) * rd a ((i + 1 : Nat) : Int) % p) ++ [0]
theorem derS_len {p : Int} {a : List Int} (h : 1 ≤ a.length) : (derS p a).length = a.length := by
  unfold derS; simp; omega
theorem derS_el {p : Int} {a : List Int} (hp : 0 < p) : El p (derS p a) := by
  unfold derS
  exact (El.map (fun i _ => em_lt hp)).app (by omega) hp

theorem ev_SeriesDiff {f : Int} {a : List Int} (h : SerOk f a) : Ev (fun k => spec_SeriesDiff.f k f a) (derS (md f) a) := by
  have hs := h
  obtain ⟨hf, h1, h2, he⟩ := h
  have key : ∀ (d i : Nat) (out : List Int), i + d = a.length - 1 → out = (List.range i).map (fun i => ((i + 1 : Nat) : Int) * rd a ((i + 1 : Nat) : Int) % md f) → Ev (fun k => spec_SeriesDiff.l0 k f a out ((i + 1 : Nat) : Int)) (derS (md f) a) := by
    intro d
    induction d with
    | zero =>
      intro i out hi ho
      refine ev_s ?_
      have g1 : ¬ (((i + 1 : Nat) : Int) < (a.length : Int)) := by omega
      have g2 : out.length < 17592186044416 := by subst ho; simp; omega
      simp only [spec_SeriesDiff.l0, g1, g2, if_false, if_true]
      rw [ho, show i = a.length - 1 by omega]
      exact Ev.now _
    | succ d ih =>
      intro i out hi ho
      refine ev_s ?_
      have g1 : ((i + 1 : Nat) : Int) < (a.length : Int) := by omega
      have g2 : (0 : Int) ≤ ((i + 1 : Nat) : Int) := by omega
      have g3 : out.length < 17592186044416 := by subst ho; simp; omega
      simp only [spec_SeriesDiff.l0, g1, g2, g3, if_true, ev_Mul hf, Option.bind_some, w_succ (n := i + 1) (by omega)]
      exact ih (i + 1) _ (by omega) (by rw [List.range_succ, List.map_append, ho]; rfl)
  unfold spec_SeriesDiff.f
  refine Ev.bind (ev_SeriesOk hs) ?_
  simp only [if_true]
  exact key (a.length - 1) 0 [] (by omega) rfl
theorem ev_SeriesDiff_bad {f : Int} {a : List Int} (h : ¬ SerOk f a) : Ev (fun k => spec_SeriesDiff.f k f a) [] := by
  unfold spec_SeriesDiff.f
  refine Ev.bind (ev_SeriesOk_bad h) ?_
  simp only [Bool.false_eq_true, if_false]
  exact Ev.now _

theorem ev_l06Fit {f : Int} {a b : List Int} (h : SerOk f a) (k : SerOk f b) (e : a.length = b.length) : Ev (fun k => spec_l06Fit.f k f a b) true := by
  unfold spec_l06Fit.f
  have g : (a.length : Int) = (b.length : Int) := by omega
  simp only [g, if_true]
  refine Ev.bind (ev_SeriesOk h) ?_
  simp only [if_true]
  refine Ev.bind (ev_SeriesOk k) ?_
  exact Ev.now _
theorem ev_l06Fit_bad {f : Int} {a b : List Int} (h : ¬ (SerOk f a ∧ SerOk f b ∧ a.length = b.length)) : Ev (fun k => spec_l06Fit.f k f a b) false := by
  unfold spec_l06Fit.f
  by_cases g : (a.length : Int) = (b.length : Int)
  · simp only [g, if_true]
    by_cases ha : SerOk f a
    · refine Ev.bind (ev_SeriesOk ha) ?_
      simp only [if_true]
      refine Ev.bind (ev_SeriesOk_bad (fun hb => h ⟨ha, hb, by omega⟩)) ?_
      exact Ev.now _
    · refine Ev.bind (ev_SeriesOk_bad ha) ?_
      simp only [Bool.false_eq_true, if_false]; exact Ev.now _
  · simp only [g, if_false]; exact Ev.now _

theorem ev_Add {f : Int} (h : 0 ≤ f ∧ f < 9) (x y : Int) : spec_Add.f f x y = some ((x + y) % md f) := by
  have hp := pm_of h
  unfold Pm at hp
  have hx := em_lt (a := x) (p := md f) (by omega)
  have hy := em_lt (a := y) (p := md f) (by omega)
  unfold spec_Add.f
  rw [ev_Modulus]
  simp only [Option.bind_some, ev_Reduce h]
  rw [if_neg (by omega), w64 (by omega) (by omega), eadd_l, eadd_r]

theorem ev_SeriesMul {f : Int} {a b : List Int} (h : SerOk f a) (k : SerOk f b) (e : a.length = b.length) : Ev (fun k => spec_SeriesMul.f k f a b) (mulS (md f) a b) := by
  have hf := h.1
  have h1 := h.2.1
  have h2 := h.2.2.1
  have inner : ∀ (d j c : Nat) (out : List Int) (r : List Int), j + d = c + 1 → c < a.length → out.length ≤ 64 → Ev (fun k => spec_SeriesMul.l0 k f a b (out ++ [pc a b c % md f]) ((c + 1 : Nat) : Int)) r → Ev (fun k => spec_SeriesMul.l1 k f a b out (c : Int) (sm j (tm a b c) % md f) (j : Int)) r := by
    intro d
    induction d with
    | zero =>
      intro j c out r hj hc ho hr
      refine ev_s ?_
      have g1 : ¬ ((j : Int) ≤ (c : Int)) := by omega
      have g2 : out.length < 17592186044416 := by omega
      simp only [spec_SeriesMul.l1, g1, g2, if_false, if_true, w_succ (n := c) (by omega)]
      rw [show j = c + 1 by omega]; exact hr
    | succ d ih =>
      intro j c out r hj hc ho hr
      refine ev_s ?_
      have g1 : (j : Int) ≤ (c : Int) := by omega
      have g2 : (0 : Int) ≤ (j : Int) := by omega
      have g3 : (j : Int) < (a.length : Int) := by omega
      have ew : wrap64 ((c : Int) - (j : Int)) = ((c - j : Nat) : Int) := by rw [w64 (by omega) (by omega)]; omega
      have g4 : (0 : Int) ≤ ((c - j : Nat) : Int) := by omega
      have g5 : ((c - j : Nat) : Int) < (b.length : Int) := by omega
      simp only [spec_SeriesMul.l1, g1, g2, g3, ew, g4, g5, if_true, ev_Mul hf, ev_Add hf, Option.bind_some, w_succ (n := j) (by omega), eadd_l, eadd_r]
      have hs := ih (j + 1) c out r (by omega) hc ho hr
      rw [sm_succ, tm_in (by omega)] at hs
      exact hs
  have outer : ∀ (d c : Nat) (out : List Int), c + d = a.length → out = (List.range c).map (fun c => pc a b c % md f) → Ev (fun k => spec_SeriesMul.l0 k f a b out (c : Int)) (mulS (md f) a b) := by
    intro d
    induction d with
    | zero =>
      intro c out hc ho
      refine ev_s ?_
      have g1 : ¬ ((c : Int) < (a.length : Int)) := by omega
      simp only [spec_SeriesMul.l0, g1, if_false]
      rw [ho, show c = a.length by omega]; exact Ev.now _
    | succ d ih =>
      intro c out hc ho
      refine ev_s ?_
      have g1 : (c : Int) < (a.length : Int) := by omega
      simp only [spec_SeriesMul.l0, g1, if_true]
      have hi := inner (c + 1) 0 c out (mulS (md f) a b) (by omega) (by omega) (by subst ho; simp; omega) (ih (c + 1) _ (by omega) (by rw [map_snoc, ho]))
      rw [sm_zero, Int.zero_emod] at hi
      exact hi
  unfold spec_SeriesMul.f
  refine Ev.bind (ev_l06Fit h k e) ?_
  simp only [if_true]
  exact outer a.length 0 [] (by omega) rfl
theorem ev_SeriesMul_bad {f : Int} {a b : List Int} (h : ¬ (SerOk f a ∧ SerOk f b ∧ a.length = b.length)) : Ev (fun k => spec_SeriesMul.f k f a b) [] := by
  unfold spec_SeriesMul.f
  refine Ev.bind (ev_l06Fit_bad h) ?_
  simp only [Bool.false_eq_true, if_false]; exact Ev.now _

theorem ev_l06Short {f : Int} {a : List Int} (h : SerOk f a) (hp : (a.length : Int) ≤ md f) : Ev (fun k => spec_l06Short.f k f a) true := by
  unfold spec_l06Short.f
  refine Ev.bind (ev_SeriesOk h) ?_
  simp only [if_true, ev_Modulus, Option.bind_some, decide_eq_true hp]
  exact Ev.now _
theorem ev_l06Short_bad {f : Int} {a : List Int} (h : ¬ (SerOk f a ∧ (a.length : Int) ≤ md f)) : Ev (fun k => spec_l06Short.f k f a) false := by
  unfold spec_l06Short.f
  by_cases ha : SerOk f a
  · refine Ev.bind (ev_SeriesOk ha) ?_
    simp only [if_true, ev_Modulus, Option.bind_some, decide_eq_false (show ¬ ((a.length : Int) ≤ md f) from fun c => h ⟨ha, c⟩)]
    exact Ev.now _
  · refine Ev.bind (ev_SeriesOk_bad ha) ?_
    simp only [Bool.false_eq_true, if_false]; exact Ev.now _

theorem ev_SeriesSum {f : Int} {a : List Int} (h : SerOk f a) (hle : (a.length : Int) ≤ md f) : Ev (fun k => spec_SeriesSum.f k f a) (sumS (md f) a, true) := by
  have hf := h.1
  have h1 := h.2.1
  have h2 := h.2.2.1
  have key : ∀ (d i : Nat) (out : List Int), i + d = a.length - 1 → out = 0 :: (List.range i).map (fun (i : Nat) => rd a (i : Int) * inv (md f) (((i + 1 : Nat) : Int) % md f) % md f) → Ev (fun k => spec_SeriesSum.l0 k f a out ((i + 1 : Nat) : Int)) (sumS (md f) a, true) := by
    intro d
    induction d with
    | zero =>
      intro i out hi ho
      refine ev_s ?_
      have g1 : ¬ (((i + 1 : Nat) : Int) < (a.length : Int)) := by omega
      simp only [spec_SeriesSum.l0, g1, if_false]
      rw [ho, show i = a.length - 1 by omega]; exact Ev.now _
    | succ d ih =>
      intro i out hi ho
      refine ev_s ?_
      have g1 : ((i + 1 : Nat) : Int) < (a.length : Int) := by omega
      have ew : wrap64 (((i + 1 : Nat) : Int) - 1) = (i : Int) := by rw [w64 (by omega) (by omega)]; omega
      have g2 : (0 : Int) ≤ (i : Int) := by omega
      have g3 : (i : Int) < (a.length : Int) := by omega
      have g4 : out.length < 17592186044416 := by subst ho; simp; omega
      have hnz : ((i + 1 : Nat) : Int) % md f ≠ 0 := by rw [em_id (by omega) (by omega)]; omega
      simp only [spec_SeriesSum.l0, g1, ew, g2, g3, if_true]
      refine Ev.bind (ev_Inverse hf hnz) ?_
      simp only [ev_Mul hf, Option.bind_some, g4, if_true, w_succ (n := i + 1) (by omega)]
      exact ih (i + 1) _ (by omega) (by rw [map_snoc, ho]; rfl)
  unfold spec_SeriesSum.f
  refine Ev.bind (ev_l06Short h hle) ?_
  simp only [if_true]
  exact key (a.length - 1) 0 [0] (by omega) rfl
theorem ev_SeriesSum_bad {f : Int} {a : List Int} (h : ¬ (SerOk f a ∧ (a.length : Int) ≤ md f)) : Ev (fun k => spec_SeriesSum.f k f a) ([], false) := by
  unfold spec_SeriesSum.f
  refine Ev.bind (ev_l06Short_bad h) ?_
  simp only [Bool.false_eq_true, if_false]; exact Ev.now _

def logS (p : Int) (a : List Int) : List Int := sumS p (mulS p (derS p a) (invS p a))
theorem invS_len (p : Int) (a : List Int) : (invS p a).length = a.length := bld_len _ _
theorem logS_len {p : Int} {a : List Int} (h : 1 ≤ a.length) : (logS p a).length = a.length := by
  unfold logS; rw [sumS_len (by rw [mulS_len, derS_len h]; exact h), mulS_len, derS_len h]
theorem ser_der {f : Int} {a : List Int} (h : SerOk f a) : SerOk f (derS (md f) a) := ⟨h.1, by rw [derS_len h.2.1]; exact h.2.1, by rw [derS_len h.2.1]; exact h.2.2.1, derS_el h.pm.pos⟩
theorem ser_inv {f : Int} {a : List Int} (h : SerOk f a) : SerOk f (invS (md f) a) := ⟨h.1, by rw [invS_len]; exact h.2.1, by rw [invS_len]; exact h.2.2.1, bld_el (fun out => invF_lt h.pm.pos a out) _⟩
theorem ser_mul {f : Int} {a : List Int} (h : SerOk f a) (b : List Int) : SerOk f (mulS (md f) a b) := ⟨h.1, by rw [mulS_len]; exact h.2.1, by rw [mulS_len]; exact h.2.2.1, mulS_el h.pm.pos a b⟩
/-- Series whose logarithm is defined. -/
def LogOk (f : Int) (a : List Int) : Prop := SerOk f a ∧ rd a 0 = 1 ∧ (a.length : Int) ≤ md f
theorem ev_SeriesLog {f : Int} {a : List Int} (h : LogOk f a) : Ev (fun k => spec_SeriesLog.f k f a) (logS (md f) a, true) := by
  obtain ⟨hs, h1, hle⟩ := h
  have g0 : (0 : Int) < (a.length : Int) := by have := hs.2.1; omega
  unfold spec_SeriesLog.f
  refine Ev.bind (ev_l06Short hs hle) ?_
  simp only [if_true, g0, h1, bne_self_eq_false]
  refine ev_s ?_
  simp only [spec_SeriesLog.j0, Bool.false_eq_true, if_false]
  refine Ev.bind (ev_SeriesInv hs (by rw [h1]; decide)) ?_
  refine Ev.bind (ev_SeriesDiff hs) ?_
  refine Ev.bind (ev_SeriesMul (ser_der hs) (ser_inv hs) (by rw [derS_len hs.2.1, invS_len])) ?_
  refine Ev.bind (ev_SeriesSum (ser_mul (ser_der hs) _) (by rw [mulS_len, derS_len hs.2.1]; exact hle)) ?_
  exact Ev.now _
theorem ev_SeriesLog_bad {f : Int} {a : List Int} (h : ¬ LogOk f a) : Ev (fun k => spec_SeriesLog.f k f a) ([], false) := by
  have bad : Ev (fun k => spec_SeriesLog.j0 k f a true) ([], false) := by
    refine ev_s ?_
    simp only [spec_SeriesLog.j0, if_true]; exact Ev.now _
  unfold spec_SeriesLog.f
  by_cases hs : SerOk f a ∧ (a.length : Int) ≤ md f
  · refine Ev.bind (ev_l06Short hs.1 hs.2) ?_
    have g0 : (0 : Int) < (a.length : Int) := by have := hs.1.2.1; omega
    have g1 : (rd a 0 != 1) = true := by
      rw [bne_iff_ne]
      intro c
      exact h ⟨hs.1, c, hs.2⟩
    simp only [if_true, g0, g1]; exact bad
  · refine Ev.bind (ev_l06Short_bad hs) ?_
    simp only [Bool.false_eq_true, if_false]; exact bad

def ExpOk (f : Int) (a : List Int) : Prop := SerOk f a ∧ rd a 0 = 0 ∧ (a.length : Int) ≤ md f

theorem ev_SeriesExp {f : Int} {a : List Int} (h : ExpOk f a) : Ev (fun k => spec_SeriesExp.f k f a) (expS (md f) a, true) := by
  obtain ⟨hs, h0, hle⟩ := h
  have hf := hs.1
  have h1 := hs.2.1
  have h2 := hs.2.2.1
  have hp := hs.pm
  have hpp := hp
  unfold Pm at hpp
  have inner : ∀ (d j i : Nat) (out : List Int) (r : List Int × Bool), j + d = i → i = out.length → i < a.length → 1 ≤ i →
      Ev (fun k => spec_SeriesExp.l0 k f a (out ++ [expF (md f) a out]) ((i + 1 : Nat) : Int)) r →
      Ev (fun k => spec_SeriesExp.l1 k f a out (i : Int) (sm j (expT a out) % md f) ((j + 1 : Nat) : Int)) r := by
    intro d
    induction d with
    | zero =>
      intro j i out r hj hi hia h1i hr
      refine ev_s ?_
      have g1 : ¬ (((j + 1 : Nat) : Int) ≤ (i : Int)) := by omega
      have g2 : out.length < 17592186044416 := by omega
      have hnz : (i : Int) % md f ≠ 0 := by rw [em_id (by omega) (by omega)]; omega
      simp only [spec_SeriesExp.l1, g1, if_false]
      refine Ev.bind (ev_Inverse hf hnz) ?_
      simp only [ev_Mul hf, Option.bind_some, g2, if_true, w_succ (n := i) (by omega), emul_l]
      have e : sm j (expT a out) * inv (md f) ((i : Int) % md f) % md f = expF (md f) a out := by
        unfold expF
        rw [if_neg (by omega), show j = out.length by omega, hi]
      rw [e]; exact hr
    | succ d ih =>
      intro j i out r hj hi hia h1i hr
      refine ev_s ?_
      have g1 : ((j + 1 : Nat) : Int) ≤ (i : Int) := by omega
      have g2 : (0 : Int) ≤ ((j + 1 : Nat) : Int) := by omega
      have g3 : ((j + 1 : Nat) : Int) < (a.length : Int) := by omega
      have ew : wrap64 ((i : Int) - ((j + 1 : Nat) : Int)) = ((out.length - 1 - j : Nat) : Int) := by rw [w64 (by omega) (by omega)]; omega
      have g4 : (0 : Int) ≤ ((out.length - 1 - j : Nat) : Int) := by omega
      have g5 : ((out.length - 1 - j : Nat) : Int) < (out.length : Int) := by omega
      simp only [spec_SeriesExp.l1, g1, g2, g3, ew, g4, g5, if_true, ev_Mul hf, ev_Add hf, Option.bind_some, w_succ (n := j + 1) (by omega), eadd_l, eadd_r]
      have hs := ih (j + 1) i out r (by omega) hi hia h1i hr
      rw [sm_succ] at hs
      have e : (sm j (expT a out) + ((j + 1 : Nat) : Int) * (rd a ((j + 1 : Nat) : Int) * rd out ((out.length - 1 - j : Nat) : Int) % md f)) % md f = (sm j (expT a out) + expT a out j) % md f := by
        refine eadd rfl ?_
        unfold expT
        rw [emul_r, Int.mul_assoc]
      rw [e]; exact hs
  have outer : ∀ (d i : Nat), i + d = a.length → 1 ≤ i → Ev (fun k => spec_SeriesExp.l0 k f a (bld (expF (md f) a) i) (i : Int)) (expS (md f) a, true) := by
    intro d
    induction d with
    | zero =>
      intro i hi h1i
      refine ev_s ?_
      have g1 : ¬ ((i : Int) < (a.length : Int)) := by omega
      simp only [spec_SeriesExp.l0, g1, if_false]
      rw [show i = a.length by omega]; exact Ev.now _
    | succ d ih =>
      intro i hi h1i
      refine ev_s ?_
      have g1 : (i : Int) < (a.length : Int) := by omega
      simp only [spec_SeriesExp.l0, g1, if_true]
      have hi2 := inner i 0 i (bld (expF (md f) a) i) _ (by omega) (by rw [bld_len]) (by omega) h1i (ih (i + 1) (by omega) (by omega))
      rw [sm_zero, Int.zero_emod] at hi2
      exact hi2
  have g0 : (0 : Int) < (a.length : Int) := by omega
  unfold spec_SeriesExp.f
  refine Ev.bind (ev_l06Short hs hle) ?_
  simp only [if_true, g0, h0, bne_self_eq_false]
  refine ev_s ?_
  simp only [spec_SeriesExp.j0, Bool.false_eq_true, if_false]
  exact outer (a.length - 1) 1 (by omega) (by omega)
theorem ev_SeriesExp_bad {f : Int} {a : List Int} (h : ¬ ExpOk f a) : Ev (fun k => spec_SeriesExp.f k f a) ([], false) := by
  have bad : Ev (fun k => spec_SeriesExp.j0 k f a true) ([], false) := by
    refine ev_s ?_
    simp only [spec_SeriesExp.j0, if_true]; exact Ev.now _
  unfold spec_SeriesExp.f
  by_cases hs : SerOk f a ∧ (a.length : Int) ≤ md f
  · refine Ev.bind (ev_l06Short hs.1 hs.2) ?_
    have g0 : (0 : Int) < (a.length : Int) := by have := hs.1.2.1; omega
    have g1 : (rd a 0 != 0) = true := by
      rw [bne_iff_ne]
      intro c
      exact h ⟨hs.1, c, hs.2⟩
    simp only [if_true, g0, g1]; exact bad
  · refine Ev.bind (ev_l06Short_bad hs) ?_
    simp only [Bool.false_eq_true, if_false]; exact bad


theorem ev_fieldOf {f : Int} (h : 0 ≤ f ∧ f < 9) : impl_fieldOf.f f = some (md f, gn f, tp f, true) := by
  rcases fcases h.1 h.2 with e | e | e | e | e | e | e | e | e <;> subst e <;> rfl
theorem ev_fieldOf_bad {f : Int} (h : ¬ (0 ≤ f ∧ f < 9)) : impl_fieldOf.f f = some (0, 0, 0, false) := by
  unfold impl_fieldOf.f
  by_cases c : f < 0
  · rw [if_pos c]
  · rw [if_neg c, if_pos (by omega)]

theorem ev_areElements (p g t : Int) (l : List Int) (hl : l.length ≤ 35184372088832) : Ev (fun k => impl_field_areElements.f k p g t l) (elB p l) := by
  have key : ∀ (d i : Nat), i + d = l.length → Ev (fun k => impl_field_areElements.l0 k l (l.length : Int) (i : Int) p g t) (elB p (l.drop i)) := by
    intro d
    induction d with
    | zero =>
      intro i hi
      refine ev_s ?_
      have h1 : ¬ ((i : Int) < (l.length : Int)) := by omega
      simp only [impl_field_areElements.l0, h1, if_false]
      rw [List.drop_of_length_le (by omega)]
      exact Ev.now _
    | succ d ih =>
      intro i hi
      refine ev_s ?_
      have h1 : (i : Int) < (l.length : Int) := by omega
      have h2 : (0 : Int) ≤ (i : Int) := by omega
      simp only [impl_field_areElements.l0, h1, h2, if_true, w_succ (n := i) (by omega)]
      rw [elB_drop (by omega)]
      by_cases c1 : rd l (i : Int) < 0
      · simp only [c1, if_true, show decide (0 ≤ rd l (i : Int)) = false from decide_eq_false (by omega), Bool.false_and]
        exact Ev.now _
      · by_cases c2 : rd l (i : Int) ≥ p
        · simp only [c1, c2, if_true, if_false, show decide (rd l (i : Int) < p) = false from decide_eq_false (by omega), Bool.false_and, Bool.and_false]
          exact Ev.now _
        · simp only [c1, c2, if_false, show decide (0 ≤ rd l (i : Int)) = true from decide_eq_true (by omega), show decide (rd l (i : Int) < p) = true from decide_eq_true (by omega), Bool.true_and]
          exact ih (i + 1) (by omega)
  exact key l.length 0 (by omega)

theorem ev_seriesField1 {f : Int} {a : List Int} (h : SerOk f a) : Ev (fun k => impl_seriesField.f k f [a]) (md f, gn f, tp f, true) := by
  obtain ⟨hf, h1, h2, he⟩ := h
  unfold impl_seriesField.f
  have hl : (([a] : List (List Int)).length : Int) = 1 := rfl
  have hr : rd_L2 [a] 0 = a := rfl
  have n1 : ¬ ((a.length : Int) < 1) := by omega
  have n2 : ¬ ((a.length : Int) > 64) := by omega
  simp only [ev_fieldOf hf, Option.bind_some, if_true, hl]
  refine ev_s ?_
  simp only [impl_seriesField.l0, hl, hr, n1, n2, if_false, show (0 : Int) < 1 from by decide, show (0 : Int) ≤ 0 from by decide, if_true]
  refine Ev.bind (ev_areElements _ _ _ a (by omega)) ?_
  simp only [elB_iff.2 he, if_true, w64 (x := 0 + 1) (by decide) (by decide)]
  refine ev_s ?_
  simp only [impl_seriesField.l0, hl, show ¬ ((0 : Int) + 1 < 1) from by decide, if_false]
  exact Ev.now _
theorem ev_seriesField1_bad {f : Int} {a : List Int} (h : ¬ SerOk f a) : Ev (fun k => impl_seriesField.f k f [a]) (0, 0, 0, false) := by
  unfold impl_seriesField.f
  by_cases hf : 0 ≤ f ∧ f < 9
  · have hl : (([a] : List (List Int)).length : Int) = 1 := rfl
    have hr : rd_L2 [a] 0 = a := rfl
    simp only [ev_fieldOf hf, Option.bind_some, if_true, hl]
    refine ev_s ?_
    simp only [impl_seriesField.l0, hl, hr, show (0 : Int) < 1 from by decide, show (0 : Int) ≤ 0 from by decide, if_true]
    by_cases n1 : (a.length : Int) < 1
    · simp only [n1, if_true]; exact Ev.now _
    · by_cases n2 : (a.length : Int) > 64
      · simp only [n1, n2, if_true, if_false]; exact Ev.now _
      · simp only [n1, n2, if_false]
        refine Ev.bind (ev_areElements _ _ _ a (by omega)) ?_
        have he : elB (md f) a = false := by
          rw [← Bool.not_eq_true, elB_iff]
          intro he
          exact h ⟨hf, by omega, by omega, he⟩
        simp only [he, Bool.false_eq_true, if_false]
        exact Ev.now _
  · simp only [ev_fieldOf_bad hf, Option.bind_some, Bool.false_eq_true, if_false]
    exact Ev.now _

theorem ev_mul {p : Int} (hp : Pm p) (g t : Int) {a b : Int} (ha : 0 ≤ a ∧ a < p) (hb : 0 ≤ b ∧ b < p) : impl_field_mul.f p g t a b = some (a * b % p) := by
  unfold Pm at hp
  have h := mul_lt_big ha.1 ha.2 hb.1 hb.2 hp.2
  unfold impl_field_mul.f
  rw [if_neg (by omega), w64 (by omega) (by omega), tmod_nn (by omega)]

theorem ev_seriesDiff {p : Int} (hp : Pm p) (g t : Int) {a : List Int} (h1 : 1 ≤ a.length) (h2 : a.length ≤ 64) (he : El p a) : Ev (fun k => impl_field_seriesDiff.f k p g t a) (derS p a) := by
  have hpp := hp
  unfold Pm at hpp
  have key : ∀ (d i : Nat) (out : List Int), i + d = a.length - 1 → out = (List.range i).map (fun i => ((i + 1 : Nat) : Int) * rd a ((i + 1 : Nat) : Int) % p) → Ev (fun k => impl_field_seriesDiff.l0 k a out ((i + 1 : Nat) : Int) p g t) (derS p a) := by
    intro d
    induction d with
    | zero =>
      intro i out hi ho
      refine ev_s ?_
      have g1 : ¬ (((i + 1 : Nat) : Int) < (a.length : Int)) := by omega
      have g2 : out.length < 17592186044416 := by subst ho; simp; omega
      simp only [impl_field_seriesDiff.l0, g1, g2, if_false, if_true]
      rw [ho, show i = a.length - 1 by omega]
      exact Ev.now _
    | succ d ih =>
      intro i out hi ho
      refine ev_s ?_
      have g0 : ¬ (p = 0) := by omega
      have g1 : ((i + 1 : Nat) : Int) < (a.length : Int) := by omega
      have g2 : (0 : Int) ≤ ((i + 1 : Nat) : Int) := by omega
      have g3 : out.length < 17592186044416 := by subst ho; simp; omega
      simp only [impl_field_seriesDiff.l0, g0, g1, g2, g3, if_true, if_false, tmod_nn g2, ev_mul hp g t (em_lt hp.pos) (he.rd hp.pos _), Option.bind_some, w_succ (n := i + 1) (by omega), emul_l]
      exact ih (i + 1) _ (by omega) (by rw [List.range_succ, List.map_append, ho]; rfl)
  unfold impl_field_seriesDiff.f
  exact key (a.length - 1) 0 [] (by omega) rfl

theorem ev_add {p : Int} (hp : Pm p) (g t : Int) {a b : Int} (ha : 0 ≤ a ∧ a < p) (hb : 0 ≤ b ∧ b < p) : impl_field_add.f p g t a b = some ((a + b) % p) := by
  unfold Pm at hp
  unfold impl_field_add.f
  rw [if_neg (by omega), w64 (by omega) (by omega), tmod_nn (by omega)]

theorem ev_sub {p : Int} (hp : Pm p) (g t : Int) {a b : Int} (ha : 0 ≤ a ∧ a < p) (hb : 0 ≤ b ∧ b < p) : impl_field_sub.f p g t a b = some ((a - b) % p) := by
  unfold Pm at hp
  unfold impl_field_sub.f
  rw [if_neg (by omega), w64 (x := a - b) (by omega) (by omega), w64 (by omega) (by omega), tmod_nn (by omega), Int.add_emod_right]

theorem ev_power {p : Int} (hp : Pm p) (g t : Int) : ∀ (e : Nat) {a : Int}, (0 ≤ a ∧ a < p) → e < 4611686018427387904 → Ev (fun k => impl_field_power.f k p g t a (e : Int)) (a ^ e % p) := by
  have hpp := hp
  unfold Pm at hpp
  have key : ∀ (n e : Nat), e ≤ n → e < 4611686018427387904 → ∀ a out : Int, (0 ≤ a ∧ a < p) → (0 ≤ out ∧ out < p) → Ev (fun k => impl_field_power.l0 k a (e : Int) out p g t) (out * a ^ e % p) := by
    intro n
    induction n with
    | zero =>
      intro e he _ a out ha ho
      obtain rfl : e = 0 := by omega
      refine ev_s ?_
      have h1 : ¬ (((0 : Nat) : Int) > 0) := by omega
      simp only [impl_field_power.l0, h1, if_false]
      rw [Int.pow_zero, Int.mul_one, em_id ho.1 ho.2]
      exact Ev.now _
    | succ n ih =>
      intro e he hb a out ha ho
      by_cases h0 : e = 0
      · subst h0
        exact ih 0 (by omega) hb a out ha ho
      · refine ev_s ?_
        have h1 : (e : Int) > 0 := by omega
        have h2 : Int.tmod (e : Int) 2 = ((e % 2 : Nat) : Int) := by rw [tmod_nn (by omega)]; omega
        have h3 : wrap64 (Int.tdiv (e : Int) 2) = ((e / 2 : Nat) : Int) := by
          rw [Int.tdiv_eq_ediv_of_nonneg (by omega), w64 (by omega) (by omega)]; omega
        have haa := em_lt (a := a * a) hp.pos
        simp only [impl_field_power.l0, h1, if_true, h2, h3, ev_mul hp g t ha ha, ev_mul hp g t ho ha, Option.bind_some]
        by_cases c : e % 2 = 1
        · have hoa := em_lt (a := out * a) hp.pos
          simp only [c, Int.natCast_one, if_true]
          refine ev_to (ih (e / 2) (by omega) (by omega) (a * a % p) (out * a % p) haa hoa) ?_
          have e1 : (out * a % p) * (a * a % p) ^ (e / 2) % p = (out * a) * (a * a) ^ (e / 2) % p := emul (Int.emod_emod _ _) (epow_l _)
          rw [e1, ipow2, Int.mul_assoc, ← Int.pow_succ']
          congr 3; omega
        · have c0 : e % 2 = 0 := by omega
          simp only [c0, show ¬ (((0 : Nat) : Int) = 1) from by omega, if_false]
          refine ev_to (ih (e / 2) (by omega) (by omega) (a * a % p) out haa ho) ?_
          have e1 : out * (a * a % p) ^ (e / 2) % p = out * (a * a) ^ (e / 2) % p := emul rfl (epow_l _)
          rw [e1, ipow2]
          congr 3; omega
  intro e a ha he
  unfold impl_field_power.f
  refine ev_to (key e e (Nat.le_refl _) he a 1 ha (by omega)) ?_
  rw [Int.one_mul]

theorem ev_inverse {p : Int} (hp : Pm p) (g t : Int) {a : Int} (ha : 0 ≤ a ∧ a < p) : Ev (fun k => impl_field_inverse.f k p g t a) (inv p a) := by
  have hpp := hp
  unfold Pm at hpp
  unfold impl_field_inverse.f
  rw [w64 (x := p - 2) (by omega) (by omega)]
  have h : p - 2 = (((p - 2).toNat : Nat) : Int) := by omega
  have := ev_power hp g t (p - 2).toNat ha (by omega)
  rw [← h] at this
  refine Ev.bind this ?_
  exact Ev.now _

theorem ev_seriesInv {p : Int} (hp : Pm p) (g t : Int) {a : List Int} (h1 : 1 ≤ a.length) (h2 : a.length ≤ 64) (he : El p a) : Ev (fun k => impl_field_seriesInv.f k p g t a) (invS p a) := by
  have hpp := hp
  unfold Pm at hpp
  have hbl := inv_lt hp.pos (rd a 0)
  have inner : ∀ (d j i : Nat) (out : List Int) (r : List Int), j + d = i → i = out.length → i < a.length → 1 ≤ i → El p out →
      Ev (fun k => impl_field_seriesInv.l0 k a (inv p (rd a 0)) (out ++ [invF p a out]) ((i + 1 : Nat) : Int) p g t) r →
      Ev (fun k => impl_field_seriesInv.l1 k a (inv p (rd a 0)) out (i : Int) (sm j (invT a out) % p) ((j + 1 : Nat) : Int) p g t) r := by
    intro d
    induction d with
    | zero =>
      intro j i out r hj hi hia h1i heo hr
      refine ev_s ?_
      have g1 : ¬ (((j + 1 : Nat) : Int) ≤ (i : Int)) := by omega
      have g2 : out.length < 17592186044416 := by omega
      simp only [impl_field_seriesInv.l1, g1, g2, if_false, if_true, ev_sub hp g t (a := 0) (b := sm j (invT a out) % p) (by omega) (em_lt hp.pos), Option.bind_some, ev_mul hp g t (em_lt hp.pos) hbl, w_succ (n := i) (by omega), emul_l]
      have e : (0 - sm j (invT a out) % p) * inv p (rd a 0) % p = invF p a out := by
        unfold invF
        rw [if_neg (by omega), show j = out.length by omega, ← Int.zero_sub]
        exact emul esub_r rfl
      rw [e]; exact hr
    | succ d ih =>
      intro j i out r hj hi hia h1i heo hr
      refine ev_s ?_
      have g1 : ((j + 1 : Nat) : Int) ≤ (i : Int) := by omega
      have g2 : (0 : Int) ≤ ((j + 1 : Nat) : Int) := by omega
      have g3 : ((j + 1 : Nat) : Int) < (a.length : Int) := by omega
      have ew : wrap64 ((i : Int) - ((j + 1 : Nat) : Int)) = ((out.length - 1 - j : Nat) : Int) := by rw [w64 (by omega) (by omega)]; omega
      have g4 : (0 : Int) ≤ ((out.length - 1 - j : Nat) : Int) := by omega
      have g5 : ((out.length - 1 - j : Nat) : Int) < (out.length : Int) := by omega
      simp only [impl_field_seriesInv.l1, g1, g2, g3, ew, g4, g5, if_true, ev_mul hp g t (he.rd hp.pos _) (heo.rd hp.pos _), Option.bind_some, ev_add hp g t (em_lt hp.pos) (em_lt hp.pos), w_succ (n := j + 1) (by omega), eadd_l, eadd_r]
      have hs := ih (j + 1) i out r (by omega) hi hia h1i heo hr
      rw [sm_succ] at hs
      exact hs
  have outer : ∀ (d i : Nat), i + d = a.length → 1 ≤ i → Ev (fun k => impl_field_seriesInv.l0 k a (inv p (rd a 0)) (bld (invF p a) i) (i : Int) p g t) (invS p a) := by
    intro d
    induction d with
    | zero =>
      intro i hi h1i
      refine ev_s ?_
      have g1 : ¬ ((i : Int) < (a.length : Int)) := by omega
      simp only [impl_field_seriesInv.l0, g1, if_false]
      rw [show i = a.length by omega]; exact Ev.now _
    | succ d ih =>
      intro i hi h1i
      refine ev_s ?_
      have g1 : (i : Int) < (a.length : Int) := by omega
      simp only [impl_field_seriesInv.l0, g1, if_true]
      have hi2 := inner i 0 i (bld (invF p a) i) _ (by omega) (by rw [bld_len]) (by omega) h1i (bld_el (fun out => invF_lt hp.pos a out) i) (ih (i + 1) (by omega) (by omega))
      rw [sm_zero, Int.zero_emod] at hi2
      exact hi2
  unfold impl_field_seriesInv.f
  have g0 : (0 : Int) < (a.length : Int) := by omega
  simp only [g0, if_true]
  refine Ev.bind (ev_inverse hp g t (he.rd hp.pos 0)) ?_
  exact outer (a.length - 1) 1 (by omega) (by omega)

theorem ev_seriesMul {p : Int} (hp : Pm p) (g t : Int) {a b : List Int} (h2 : a.length ≤ 64) (e : a.length = b.length) (ha : El p a) (hb : El p b) : Ev (fun k => impl_field_seriesMul.f k p g t a b) (mulS p a b) := by
  have hpp := hp
  unfold Pm at hpp
  have inner : ∀ (d j i : Nat) (out : List Int) (r : List Int), i + j + d = a.length → i < a.length → out.length = a.length → (∀ c : Nat, c < a.length → rd out (c : Int) = scat a b i j c % p) →
      (∀ out' : List Int, out'.length = a.length → (∀ c : Nat, c < a.length → rd out' (c : Int) = sm (i + 1) (tm a b c) % p) → Ev (fun k => impl_field_seriesMul.l0 k a b out' a (a.length : Int) ((i + 1 : Nat) : Int) p g t) r) →
      Ev (fun k => impl_field_seriesMul.l1 k a b out (i : Int) (rd a (i : Int)) (j : Int) a (a.length : Int) (i : Int) p g t) r := by
    intro d
    induction d with
    | zero =>
      intro j i out r hj hi ho hx hr
      refine ev_s ?_
      have ei : wrap64 ((i : Int) + (j : Int)) = ((i + j : Nat) : Int) := by rw [w64 (by omega) (by omega)]; omega
      have g1 : ¬ (((i + j : Nat) : Int) < (a.length : Int)) := by omega
      simp only [impl_field_seriesMul.l1, ei, g1, if_false, w_succ (n := i) (by omega)]
      exact hr out ho (fun c hc => by rw [hx c hc, scat_row (Or.inr (by omega))])
    | succ d ih =>
      intro j i out r hj hi ho hx hr
      refine ev_s ?_
      have ei : wrap64 ((i : Int) + (j : Int)) = ((i + j : Nat) : Int) := by rw [w64 (by omega) (by omega)]; omega
      have g1 : ((i + j : Nat) : Int) < (a.length : Int) := by omega
      have g2 : (0 : Int) ≤ ((i + j : Nat) : Int) := by omega
      have g3 : ((i + j : Nat) : Int) < (out.length : Int) := by omega
      have g4 : (0 : Int) ≤ (j : Int) := by omega
      have g5 : (j : Int) < (b.length : Int) := by omega
      have g6 : ¬ (p = 0) := by omega
      have hai := ha.rd hp.pos (i : Int)
      have hbj := hb.rd hp.pos (j : Int)
      have hm := mul_lt_big hai.1 hai.2 hbj.1 hbj.2 hpp.2
      have ho1 := hx (i + j) (by omega)
      have ho2 := em_lt (a := scat a b i j (i + j)) hp.pos
      have ev : Int.tmod (wrap64 (rd out ((i + j : Nat) : Int) + wrap64 (rd a (i : Int) * rd b (j : Int)))) p = scat a b i (j + 1) (i + j) % p := by
        rw [w64 (x := rd a (i : Int) * rd b (j : Int)) (by omega) (by omega), ho1, w64 (by omega) (by omega), tmod_nn (by omega), eadd_l, scat_hit]
      simp only [impl_field_seriesMul.l1, ei, g1, g2, g3, g4, g5, g6, if_true, if_false, ev, w_succ (n := j) (by omega), Int.toNat_natCast]
      refine ih (j + 1) i _ r (by omega) hi (by rw [List.length_set]; exact ho) (fun c hc => ?_) hr
      by_cases e : i + j = c
      · subst e; rw [rd_set_eq (by omega)]
      · rw [rd_set_ne e, hx c hc, scat_miss (by omega)]
  have outer : ∀ (d i : Nat) (out : List Int), i + d = a.length → out.length = a.length → (∀ c : Nat, c < a.length → rd out (c : Int) = sm i (tm a b c) % p) → Ev (fun k => impl_field_seriesMul.l0 k a b out a (a.length : Int) (i : Int) p g t) (mulS p a b) := by
    intro d
    induction d with
    | zero =>
      intro i out hi ho hx
      refine ev_s ?_
      have g1 : ¬ ((i : Int) < (a.length : Int)) := by omega
      simp only [impl_field_seriesMul.l0, g1, if_false]
      have e : out = mulS p a b := set_map_rd ho (fun c hc => by rw [hx c hc, show i = a.length by omega, pc_of_len])
      rw [e]; exact Ev.now _
    | succ d ih =>
      intro i out hi ho hx
      refine ev_s ?_
      have g1 : (i : Int) < (a.length : Int) := by omega
      have g2 : (0 : Int) ≤ (i : Int) := by omega
      simp only [impl_field_seriesMul.l0, g1, g2, if_true]
      exact inner (a.length - i) 0 i out _ (by omega) (by omega) ho (fun c hc => by rw [hx c hc, scat_start]) (fun out' ho' hx' => ih (i + 1) out' (by omega) ho' hx')
  unfold impl_field_seriesMul.f
  have g1 : (0 : Int) ≤ (a.length : Int) := by omega
  simp only [g1, if_true, Int.toNat_natCast, show a.length ≤ 35184372088832 from by omega]
  exact outer a.length 0 _ (by omega) (by simp) (fun c _ => by rw [rd_rep, sm_zero, Int.zero_emod])

theorem ev_seriesSum {p : Int} (hp : Pm p) (g t : Int) {a : List Int} (h1 : 1 ≤ a.length) (h2 : a.length ≤ 64) (he : El p a) : Ev (fun k => impl_field_seriesSum.f k p g t a) (sumS p a) := by
  have hpp := hp
  unfold Pm at hpp
  have key : ∀ (d i : Nat) (out : List Int), i + d = a.length - 1 → out = 0 :: (List.range i).map (fun (i : Nat) => rd a (i : Int) * inv p (((i + 1 : Nat) : Int) % p) % p) → Ev (fun k => impl_field_seriesSum.l0 k a out ((i + 1 : Nat) : Int) p g t) (sumS p a) := by
    intro d
    induction d with
    | zero =>
      intro i out hi ho
      refine ev_s ?_
      have g1 : ¬ (((i + 1 : Nat) : Int) < (a.length : Int)) := by omega
      simp only [impl_field_seriesSum.l0, g1, if_false]
      rw [ho, show i = a.length - 1 by omega]; exact Ev.now _
    | succ d ih =>
      intro i out hi ho
      refine ev_s ?_
      have g1 : ((i + 1 : Nat) : Int) < (a.length : Int) := by omega
      have ew : wrap64 (((i + 1 : Nat) : Int) - 1) = (i : Int) := by rw [w64 (by omega) (by omega)]; omega
      have g2 : (0 : Int) ≤ (i : Int) := by omega
      have g3 : (i : Int) < (a.length : Int) := by omega
      have g4 : out.length < 17592186044416 := by subst ho; simp; omega
      have g5 : ¬ (p = 0) := by omega
      have g6 : (0 : Int) ≤ ((i + 1 : Nat) : Int) := by omega
      simp only [impl_field_seriesSum.l0, g1, ew, g2, g3, g5, if_true, if_false, tmod_nn g6]
      refine Ev.bind (ev_inverse hp g t (em_lt hp.pos)) ?_
      simp only [ev_mul hp g t (he.rd hp.pos _) (inv_lt hp.pos _), Option.bind_some, g4, if_true, w_succ (n := i + 1) (by omega)]
      exact ih (i + 1) _ (by omega) (by rw [map_snoc, ho]; rfl)
  unfold impl_field_seriesSum.f
  exact key (a.length - 1) 0 [0] (by omega) rfl

theorem ev_iSeriesLog {f : Int} {a : List Int} (h : LogOk f a) : Ev (fun k => impl_SeriesLog.f k f a) (logS (md f) a, true) := by
  obtain ⟨hs, h1, hle⟩ := h
  have hp := hs.pm
  have g0 : (0 : Int) < (a.length : Int) := by have := hs.2.1; omega
  have g1 : ¬ ((a.length : Int) > md f) := by omega
  unfold impl_SeriesLog.f
  refine Ev.bind (ev_seriesField1 hs) ?_
  simp only [if_true, g0, h1, decide_eq_false g1]
  refine ev_s ?_
  simp only [impl_SeriesLog.j0, Bool.false_eq_true, if_false]
  refine Ev.bind (ev_seriesDiff hp _ _ hs.2.1 hs.2.2.1 hs.2.2.2) ?_
  refine Ev.bind (ev_seriesInv hp _ _ hs.2.1 hs.2.2.1 hs.2.2.2) ?_
  have d := ser_der hs
  refine Ev.bind (ev_seriesMul hp _ _ d.2.2.1 (by rw [derS_len hs.2.1, invS_len]) d.2.2.2 (ser_inv hs).2.2.2) ?_
  have m := ser_mul d (invS (md f) a)
  refine Ev.bind (ev_seriesSum hp _ _ m.2.1 m.2.2.1 m.2.2.2) ?_
  exact Ev.now _
theorem ev_iSeriesLog_bad {f : Int} {a : List Int} (h : ¬ LogOk f a) : Ev (fun k => impl_SeriesLog.f k f a) ([], false) := by
  have bad : ∀ p g t : Int, Ev (fun k => impl_SeriesLog.j0 k a true p g t) ([], false) := fun p g t => by
    refine ev_s ?_
    simp only [impl_SeriesLog.j0, if_true]; exact Ev.now _
  unfold impl_SeriesLog.f
  by_cases hs : SerOk f a
  · refine Ev.bind (ev_seriesField1 hs) ?_
    have g0 : (0 : Int) < (a.length : Int) := by have := hs.2.1; omega
    by_cases h1 : rd a 0 = 1
    · have g1 : (a.length : Int) > md f := by
        by_cases c : (a.length : Int) ≤ md f
        · exact absurd ⟨hs, h1, c⟩ h
        · omega
      simp only [if_true, g0, h1, decide_eq_true g1]; exact bad _ _ _
    · simp only [if_true, g0, h1, if_false]; exact bad _ _ _
  · refine Ev.bind (ev_seriesField1_bad hs) ?_
    simp only [Bool.false_eq_true, if_false]; exact bad _ _ _

theorem ev_iSeriesExp {f : Int} {a : List Int} (h : ExpOk f a) : Ev (fun k => impl_SeriesExp.f k f a) (expS (md f) a, true) := by
  obtain ⟨hs, h0, hle⟩ := h
  have h1 := hs.2.1
  have h2 := hs.2.2.1
  have he := hs.2.2.2
  have hp := hs.pm
  have hpp := hp
  unfold Pm at hpp
  have hF := fun out => expF_lt (p := md f) (by omega) a out
  have inner : ∀ (d j i : Nat) (out : List Int) (r : List Int × Bool), j + d = i → i = out.length → i < a.length → 1 ≤ i → El (md f) out →
      Ev (fun k => impl_SeriesExp.l0 k a (out ++ [expF (md f) a out]) ((i + 1 : Nat) : Int) (md f) (gn f) (tp f)) r →
      Ev (fun k => impl_SeriesExp.l1 k a out (i : Int) (sm j (expT a out) % md f) ((j + 1 : Nat) : Int) (md f) (gn f) (tp f)) r := by
    intro d
    induction d with
    | zero =>
      intro j i out r hj hi hia h1i heo hr
      refine ev_s ?_
      have g0 : ¬ (md f = 0) := by omega
      have g1 : ¬ (((j + 1 : Nat) : Int) ≤ (i : Int)) := by omega
      have g2 : out.length < 17592186044416 := by omega
      have g3 : (0 : Int) ≤ (i : Int) := by omega
      simp only [impl_SeriesExp.l1, g0, g1, if_false, tmod_nn g3]
      refine Ev.bind (ev_inverse hp _ _ (em_lt hp.pos)) ?_
      simp only [ev_mul hp _ _ (em_lt hp.pos) (inv_lt hp.pos _), Option.bind_some, g2, if_true, w_succ (n := i) (by omega), emul_l]
      have e : sm j (expT a out) * inv (md f) ((i : Int) % md f) % md f = expF (md f) a out := by
        unfold expF
        rw [if_neg (by omega), show j = out.length by omega, hi]
      rw [e]; exact hr
    | succ d ih =>
      intro j i out r hj hi hia h1i heo hr
      refine ev_s ?_
      have g0 : ¬ (md f = 0) := by omega
      have g1 : ((j + 1 : Nat) : Int) ≤ (i : Int) := by omega
      have g2 : (0 : Int) ≤ ((j + 1 : Nat) : Int) := by omega
      have g3 : ((j + 1 : Nat) : Int) < (a.length : Int) := by omega
      have ew : wrap64 ((i : Int) - ((j + 1 : Nat) : Int)) = ((out.length - 1 - j : Nat) : Int) := by rw [w64 (by omega) (by omega)]; omega
      have g4 : (0 : Int) ≤ ((out.length - 1 - j : Nat) : Int) := by omega
      have g5 : ((out.length - 1 - j : Nat) : Int) < (out.length : Int) := by omega
      simp only [impl_SeriesExp.l1, g0, g1, g2, g3, ew, g4, g5, if_true, if_false, tmod_nn g2, ev_mul hp _ _ (em_lt hp.pos) (he.rd hp.pos _), ev_mul hp _ _ (em_lt hp.pos) (heo.rd hp.pos _), ev_add hp _ _ (em_lt hp.pos) (em_lt hp.pos), Option.bind_some, w_succ (n := j + 1) (by omega), eadd_l, eadd_r]
      have hs := ih (j + 1) i out r (by omega) hi hia h1i heo hr
      rw [sm_succ] at hs
      have e : (sm j (expT a out) + ((j + 1 : Nat) : Int) % md f * rd a ((j + 1 : Nat) : Int) % md f * rd out ((out.length - 1 - j : Nat) : Int)) % md f = (sm j (expT a out) + expT a out j) % md f := by
        refine eadd rfl ?_
        unfold expT
        rw [emul_l]
        exact emul emul_l rfl
      rw [e]; exact hs
  have outer : ∀ (d i : Nat), i + d = a.length → 1 ≤ i → Ev (fun k => impl_SeriesExp.l0 k a (bld (expF (md f) a) i) (i : Int) (md f) (gn f) (tp f)) (expS (md f) a, true) := by
    intro d
    induction d with
    | zero =>
      intro i hi h1i
      refine ev_s ?_
      have g1 : ¬ ((i : Int) < (a.length : Int)) := by omega
      simp only [impl_SeriesExp.l0, g1, if_false]
      rw [show i = a.length by omega]; exact Ev.now _
    | succ d ih =>
      intro i hi h1i
      refine ev_s ?_
      have g1 : (i : Int) < (a.length : Int) := by omega
      simp only [impl_SeriesExp.l0, g1, if_true]
      have hi2 := inner i 0 i (bld (expF (md f) a) i) _ (by omega) (by rw [bld_len]) (by omega) h1i (bld_el hF i) (ih (i + 1) (by omega) (by omega))
      rw [sm_zero, Int.zero_emod] at hi2
      exact hi2
  have g0 : (0 : Int) < (a.length : Int) := by omega
  have g1 : ¬ ((a.length : Int) > md f) := by omega
  unfold impl_SeriesExp.f
  refine Ev.bind (ev_seriesField1 hs) ?_
  simp only [if_true, g0, h0, decide_eq_false g1]
  refine ev_s ?_
  simp only [impl_SeriesExp.j0, Bool.false_eq_true, if_false]
  exact outer (a.length - 1) 1 (by omega) (by omega)
theorem ev_iSeriesExp_bad {f : Int} {a : List Int} (h : ¬ ExpOk f a) : Ev (fun k => impl_SeriesExp.f k f a) ([], false) := by
  have bad : ∀ p g t : Int, Ev (fun k => impl_SeriesExp.j0 k a true p g t) ([], false) := fun p g t => by
    refine ev_s ?_
    simp only [impl_SeriesExp.j0, if_true]; exact Ev.now _
  unfold impl_SeriesExp.f
  by_cases hs : SerOk f a
  · refine Ev.bind (ev_seriesField1 hs) ?_
    have g0 : (0 : Int) < (a.length : Int) := by have := hs.2.1; omega
    by_cases h1 : rd a 0 = 0
    · have g1 : (a.length : Int) > md f := by
        by_cases c : (a.length : Int) ≤ md f
        · exact absurd ⟨hs, h1, c⟩ h
        · omega
      simp only [if_true, g0, h1, decide_eq_true g1]; exact bad _ _ _
    · simp only [if_true, g0, h1, if_false]; exact bad _ _ _
  · refine Ev.bind (ev_seriesField1_bad hs) ?_
    simp only [Bool.false_eq_true, if_false]; exact bad _ _ _

/-- The inverse of an element that is not 0. -/
theorem inv_mul {f : Int} (hf : 0 ≤ f ∧ f < 9) {x : Int} (hx : x % md f ≠ 0) : x * inv (md f) x % md f = 1 % md f := by
  have hb := (isF hf.1 hf.2).bounds
  have h := ferm hf hx
  unfold inv
  rw [emul_r, Int.mul_comm, ← Int.pow_succ, show (md f - 2).toNat.succ = (md f - 1).toNat by omega, h, em_id (by omega) (by omega)]
theorem nat_inv {f : Int} (hf : 0 ≤ f ∧ f < 9) (i : Nat) (h1 : 1 ≤ i) (h2 : (i : Int) < md f) : (i : Int) * inv (md f) ((i : Int) % md f) % md f = 1 % md f := by
  have e : (i : Int) % md f = i := em_id (by omega) h2
  rw [e]
  exact inv_mul hf (by rw [e]; omega)

theorem log_D {f : Int} {a : List Int} (h : LogOk f a) : sq (md f) (a.length - 1) (cm (sD (ser (logS (md f) a))) (ser a)) (sD (ser a)) := by
  obtain ⟨hs, h1, hl⟩ := h
  have hp := (isF hs.1.1 hs.1.2).bounds
  have hi := ser_invS (p := md f) (a := a) (inv_mul hs.1 (by rw [h1, em_id (by omega) (by omega)]; omega))
  have dl : (derS (md f) a).length = a.length := derS_len hs.2.1
  have ml : (mulS (md f) (derS (md f) a) (invS (md f) a)).length = a.length := by rw [mulS_len, dl]
  have hS := ser_sumS (p := md f) (a := mulS (md f) (derS (md f) a) (invS (md f) a)) (fun i g1 g2 => nat_inv hs.1 i g1 (by rw [ml] at g2; omega))
  rw [ml] at hS
  have hM := ser_mulS (md f) (derS (md f) a) (invS (md f) a)
  rw [dl] at hM
  exact ser_log (d := derS (md f) a) (ser_derS (md f) a) hi (sq_trans hS (sq_le hM (by omega)))
theorem log_el {f : Int} {a : List Int} (h : SerOk f a) : SerOk f (logS (md f) a) :=
  ⟨h.1, by rw [logS_len h.2.1]; exact h.2.1, by rw [logS_len h.2.1]; exact h.2.2.1, sumS_el h.pm.pos _⟩
theorem log_0 (p : Int) (a : List Int) : rd (logS p a) 0 = 0 := rfl
theorem mul_log {f : Int} {a b : List Int} (ha : LogOk f a) (hb : LogOk f b) : LogOk f (mulS (md f) a b) := by
  have hp := (isF ha.1.1.1 ha.1.1.2).bounds
  refine ⟨ser_mul ha.1 b, ?_, by rw [mulS_len]; exact ha.2.2⟩
  have h1 := ha.1.2.1
  have := mulS_rd (p := md f) (a := a) (b := b) (c := 0) (by omega)
  rw [pc_ser, sm_succ, sm_zero] at this
  have z : ((0 : Nat) : Int) = 0 := rfl
  rw [Nat.sub_zero, z, ha.2.1, hb.2.1] at this
  rw [this]
  exact em_id (by omega) (by omega)
theorem sD_add (f g : Nat → Int) : sD (sAdd f g) = sAdd (sD f) (sD g) := by
  funext n
  unfold sD sAdd
  rw [Int.mul_add]
theorem nat_has {f : Int} (hf : 0 ≤ f ∧ f < 9) {n : Nat} (hn : (n : Int) ≤ md f) : ∀ i : Nat, 1 ≤ i → i < n → ∃ u : Int, (i : Int) * u % md f = 1 % md f :=
  fun i h1 h2 => ⟨_, nat_inv hf i h1 (by omega)⟩
theorem log_prod {f : Int} {a b : List Int} (ha : LogOk f a) (hb : LogOk f b) (e : a.length = b.length) : sq (md f) a.length (ser (logS (md f) (mulS (md f) a b))) (sAdd (ser (logS (md f) a)) (ser (logS (md f) b))) := by
  have hc := mul_log ha hb
  have hp := (isF ha.1.1.1 ha.1.1.2).bounds
  have cl : (mulS (md f) a b).length = a.length := mulS_len _ _ _
  have dA := log_D ha
  have dB := log_D hb
  have dC := log_D hc
  have hC := ser_mulS (md f) a b
  have hI := ser_invS (p := md f) (a := mulS (md f) a b) (inv_mul ha.1.1 (by rw [hc.2.1, em_id (by omega) (by omega)]; omega))
  rw [← e] at dB
  rw [cl] at dC hI
  generalize mulS (md f) a b = c at *
  have L0 : ∀ l : List Int, ser (logS (md f) l) 0 = 0 := fun l => rfl
  refine sq_of_D (nat_has ha.1.1 ha.2.2) ?_ ?_
  · show ser (logS (md f) c) 0 % md f = (ser (logS (md f) a) 0 + ser (logS (md f) b) 0) % md f
    rw [L0, L0, L0]; rfl
  · rw [sD_add]
    refine sq_cancel (u := ser c) (v := ser (invS (md f) c)) (sq_le hI (by omega)) (sq_trans dC ?_)
    have h1 : sq (md f) (a.length - 1) (sD (ser c)) (sD (cm (ser a) (ser b))) := sq_D hC
    rw [sD_cm] at h1
    refine sq_trans h1 (sq_trans (sq_add (sq_mul (sq_symm dA) (sq_refl _ _ (ser b))) (sq_mul (sq_refl _ _ (ser a)) (sq_symm dB))) ?_)
    have h2 : sAdd (cm (cm (sD (ser (logS (md f) a))) (ser a)) (ser b)) (cm (ser a) (cm (sD (ser (logS (md f) b))) (ser b))) = cm (sAdd (sD (ser (logS (md f) a))) (sD (ser (logS (md f) b)))) (cm (ser a) (ser b)) := by
      rw [cm_add_l, cm_assoc, ← cm_assoc (ser a), cm_comm (ser a) (sD _), cm_assoc _ (ser a)]
    rw [h2]
    exact sq_mul (sq_refl _ _ _) (sq_le (sq_symm hC) (by omega))

theorem exp_el {f : Int} {a : List Int} (h : SerOk f a) : SerOk f (expS (md f) a) := by
  have hp := (isF h.1.1 h.1.2).bounds
  exact ⟨h.1, by rw [expS_len]; exact h.2.1, by rw [expS_len]; exact h.2.2.1, bld_el (fun out => expF_lt (by omega) a out) _⟩
theorem exp_log {f : Int} {a : List Int} (h : LogOk f a) : expS (md f) (logS (md f) a) = a := by
  have hp := (isF h.1.1.1 h.1.1.2).bounds
  have ll : (logS (md f) a).length = a.length := logS_len h.1.2.1
  have hL := log_el h.1
  have hE := ser_exp (p := md f) (b := logS (md f) a) (fun i g1 g2 => nat_inv h.1.1 i g1 (by rw [ll] at g2; have := h.2.2; omega))
  rw [ll] at hE
  refine ser_eq (p := md f) (by omega) (exp_el hL).2.2.2 h.1.2.2.2 (by rw [expS_len, ll]) ?_
  rw [expS_len, ll]
  refine sq_of_logD (l := sD (ser (logS (md f) a))) (nat_has h.1.1 h.2.2) ?_ hE (sq_symm (log_D h))
  rw [ser_exp0 hL.2.1]
  show 1 % md f = rd a 0 % md f
  rw [h.2.1]
theorem exp_ok {f : Int} {b : List Int} (h : ExpOk f b) : LogOk f (expS (md f) b) :=
  ⟨exp_el h.1, ser_exp0 h.1.2.1, by rw [expS_len]; exact h.2.2⟩
theorem log_exp {f : Int} {b : List Int} (h : ExpOk f b) : logS (md f) (expS (md f) b) = b := by
  have hp := (isF h.1.1.1 h.1.1.2).bounds
  have hE := exp_ok h
  have el : (expS (md f) b).length = b.length := expS_len _ _
  have ll : (logS (md f) (expS (md f) b)).length = b.length := by rw [logS_len hE.1.2.1, el]
  have dE := ser_exp (p := md f) (b := b) (fun i g1 g2 => nat_inv h.1.1 i g1 (by have := h.2.2; omega))
  have dL := log_D hE
  have hI := ser_invS (p := md f) (a := expS (md f) b) (inv_mul h.1.1 (by rw [hE.2.1, em_id (by omega) (by omega)]; omega))
  rw [el] at dL hI
  refine ser_eq (p := md f) (by omega) (log_el hE.1).2.2.2 h.1.2.2.2 ll ?_
  rw [ll]
  refine sq_of_D (nat_has h.1.1 h.2.2) ?_ ?_
  · show rd (logS (md f) (expS (md f) b)) 0 % md f = rd b 0 % md f
    rw [log_0, h.2.1]
  · exact sq_cancel (u := ser (expS (md f) b)) (v := ser (invS (md f) (expS (md f) b))) (sq_le hI (by omega)) (sq_trans dL dE)
theorem le_j0 {L : List Int} {g : Int} {b t : List Int} (hbl : b.length ≤ 1048576) (ht : Ev (fun k => laws_alt.f k L 5) t) (hg : Ev (fun k => spec_DrawSeriesExp.f k t) (g, b)) : Ev (fun k => laws_FnLogExp.j0 k L b) true := by
  refine ev_s ?_
  simp only [laws_FnLogExp.j0]
  refine Ev.bind ht ?_
  refine Ev.bind hg ?_
  by_cases h : ExpOk g b
  · refine Ev.bind (ev_SeriesExp h) ?_
    simp only [if_true]
    refine Ev.bind (ev_cp b hbl) ?_
    refine Ev.bind (ev_iSeriesExp h) ?_
    refine Ev.bind (ev_iSeriesLog (exp_ok h)) ?_
    simp only [if_true]
    rw [log_exp h]
    refine Ev.bind (ev_same b hbl) ?_
    simp only [if_true]; exact Ev.now _
  · refine Ev.bind (ev_SeriesExp_bad h) ?_
    simp only [Bool.false_eq_true, if_false]; exact Ev.now _
theorem FnLogExp : laws_FnLogExp.Pure := by
  intro L hm h8 hw
  refine Ev.rounds ?_
  unfold laws_FnLogExp.f laws_big.f
  simp only [Option.bind_some]
  by_cases hbig : (L.length : Int) > 1048576
  · simp only [decide_eq_true hbig, if_true]; exact Ev.now _
  simp only [decide_eq_false hbig, Bool.false_eq_true, if_false]
  obtain ⟨f, a, hdr, hal⟩ := dr_DrawSeriesLog L (by omega)
  obtain ⟨t, ht, htl⟩ := ev_alt L (by omega) 5
  obtain ⟨g, b, hg, hbl⟩ := dr_DrawSeriesExp t (by omega)
  have j0 := le_j0 hbl ht hg
  refine Ev.bind hdr ?_
  refine Ev.bind ht ?_
  refine Ev.bind hg ?_
  by_cases h : LogOk f a
  · refine Ev.bind (ev_SeriesLog h) ?_
    simp only [if_true]
    refine Ev.bind (ev_cp a hal) ?_
    refine Ev.bind (ev_iSeriesLog h) ?_
    have hx : ExpOk f (logS (md f) a) := ⟨log_el h.1, log_0 _ _, by rw [logS_len h.1.2.1]; exact h.2.2⟩
    refine Ev.bind (ev_iSeriesExp hx) ?_
    simp only [if_true]
    rw [exp_log h]
    refine Ev.bind (ev_same a hal) ?_
    simp only [if_true]
    exact j0
  · refine Ev.bind (ev_SeriesLog_bad h) ?_
    simp only [Bool.false_eq_true, if_false]
    exact j0

end Go.Proofs.Ytmhkloeenmnlhaa.Pure
