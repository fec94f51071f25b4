/- FnConvByFields returns true for every input: each element of the exact product is the centered value of the two products in the fields 6 and 7, and lies within the bound. -/
import Derived.Test.YtemffnnndjpleaaPFnConvByFieldsx8
import Derived.Test.YtemffnnndjpleaaGB
import Derived.Test.YtemffnnndjpleaaGK
set_option linter.unusedVariables false
set_option linter.unusedSimpArgs false
namespace Go.Proofs.Ytemffnnndjpleaa.Pure
open Go.RowKit Go.Proofs.Ytemffnnndjpleaa.PFnConvByFields Go.Proofs.YtemffnnndjpleaaW.PrintWords Go.Proofs.YtemffnnndjpleaaW.PrintLast Go.Proofs.YtemffnnndjpleaaW.PrintMore G7
theorem dr_Byte (L : List Int) (hL : L.length ≤ 140737488351232) (i h : Int) (hi : 0 ≤ i) : ∃ x i' h', spec_l01Byte.f L i h = some (x, i', h') ∧ 0 ≤ i' ∧ 0 ≤ x ∧ x ≤ 255 := by
  unfold spec_l01Byte.f
  simp only [i64_and255]
  by_cases c : i < (L.length : Int)
  · rw [if_pos c, if_pos hi]
    exact ⟨_, _, _, rfl, by rw [w64 (by omega) (by omega)]; omega, by omega, by omega⟩
  · rw [if_neg c]
    exact ⟨_, _, _, rfl, hi, by omega, by omega⟩

theorem dr_Below (L : List Int) (hL : L.length ≤ 140737488351232) (i h n : Int) (hi : 0 ≤ i) : ∃ x i' h', spec_l01Below.f L i h n = some (x, i', h') ∧ 0 ≤ i' ∧ 0 ≤ x ∧ (0 < n → x < n) := by
  unfold spec_l01Below.f
  by_cases c : n ≤ 0
  · rw [if_pos c]
    exact ⟨_, _, _, rfl, hi, by omega, by omega⟩
  · rw [if_neg c]
    by_cases c2 : n ≤ 256
    · rw [if_pos c2]
      obtain ⟨x, i1, h1, e1, hi1, hx0, hx1⟩ := dr_Byte L hL i h hi
      simp only [e1, Option.bind_some]
      rw [if_neg (by omega), tmod_nn hx0]
      exact ⟨_, _, _, rfl, hi1, (em_lt (by omega)).1, fun _ => (em_lt (by omega)).2⟩
    · rw [if_neg c2]
      obtain ⟨x, i1, h1, e1, hi1, hx0, hx1⟩ := dr_Byte L hL i h hi
      obtain ⟨y, i2, h2, e2, hi2, hy0, hy1⟩ := dr_Byte L hL i1 h1 hi1
      obtain ⟨z, i3, h3, e3, hi3, hz0, hz1⟩ := dr_Byte L hL i2 h2 hi2
      simp only [e1, e2, e3, Option.bind_some]
      rw [if_neg (by omega), w64 (x := x * 65536) (by omega) (by omega), w64 (x := y * 256) (by omega) (by omega), w64 (x := x * 65536 + y * 256) (by omega) (by omega), w64 (by omega) (by omega), tmod_nn (by omega)]
      exact ⟨_, _, _, rfl, hi3, (em_lt (by omega)).1, fun _ => (em_lt (by omega)).2⟩

theorem dr_Pick (L : List Int) (hL : L.length ≤ 140737488351232) (i h : Int) (l : List Int) (hl : 0 < l.length) (hi : 0 ≤ i) : ∃ x i' h', spec_l01PickInt.f L i h l = some (x, i', h') ∧ 0 ≤ i' ∧ x ∈ l := by
  unfold spec_l01PickInt.f
  obtain ⟨x, i1, h1, e1, hi1, hx0, hx1⟩ := dr_Below L hL i h (l.length : Int) hi
  have hx2 := hx1 (by omega)
  simp only [e1, Option.bind_some]
  rw [if_pos hx0, if_pos hx2]
  refine ⟨_, _, _, rfl, hi1, ?_⟩
  obtain ⟨n, rfl⟩ : ∃ n : Nat, x = n := ⟨x.toNat, by omega⟩
  rw [rd_at (by omega)]
  exact List.getElem_mem _

theorem dr_Once (L : List Int) (hL : L.length ≤ 140737488351232) (i h n : Int) (hi : 0 ≤ i) : ∃ b i' h', spec_l01Once.f L i h n = some (b, i', h') ∧ 0 ≤ i' := by
  unfold spec_l01Once.f
  obtain ⟨x, i1, h1, e1, hi1, hx0, hx1⟩ := dr_Below L hL i h n hi
  simp only [e1, Option.bind_some]
  exact ⟨_, _, _, rfl, hi1⟩

theorem dr_Terms (L : List Int) (hL : L.length ≤ 140737488351232) (i h n : Int) (hi : 0 ≤ i) (hn : n ≤ 1048576) : ∃ out i' h', Ev (fun k => spec_l05DrawTerms.f k L i h n) (out, i', h') ∧ out.length = n.toNat ∧ 0 ≤ i' := by
  have j1 : ∀ (out : List Int) (b : Bool) (i h : Int), out.length = n.toNat → 0 ≤ i → (b = true → 0 < n) → ∃ out' i' h', Ev (fun k => spec_l05DrawTerms.j1 k n out b L i h) (out', i', h') ∧ out'.length = n.toNat ∧ 0 ≤ i' := by
    intro out b i h ho hi hb
    cases b with
    | true =>
      have hn0 := hb rfl
      obtain ⟨x, i1, h1, e1, hi1, hx0, hx1⟩ := dr_Below L hL i h n hi
      have hx2 := hx1 hn0
      obtain ⟨y, i2, h2, e2, hi2, _⟩ := dr_Pick L hL i1 h1 ([1000001, (-1000001)] : List Int) (by simp) hi1
      refine ⟨out.set x.toNat y, i2, h2, ev_s ?_, by rw [List.length_set]; exact ho, hi2⟩
      have g1 : x < (out.length : Int) := by omega
      simp only [spec_l05DrawTerms.j1, e1, e2, hx0, g1, Option.bind_some, if_true]; exact Ev.now _
    | false =>
      refine ⟨out, i, h, ev_s ?_, ho, hi⟩
      simp only [spec_l05DrawTerms.j1, Bool.false_eq_true, if_false]; exact Ev.now _
  have key : ∀ (d c : Nat) (out : List Int) (i h : Int), c + d = n.toNat → out.length = c → 0 ≤ i → ∃ out' i' h', Ev (fun k => spec_l05DrawTerms.l0 k n out (c : Int) L i h) (out', i', h') ∧ out'.length = n.toNat ∧ 0 ≤ i' := by
    intro d
    induction d with
    | zero =>
      intro c out i h hc ho hi
      obtain ⟨b, i1, h1, e1, hi1⟩ := dr_Once L hL i h 15 hi
      have g1 : ¬ ((c : Int) < n) := by omega
      cases b with
      | true =>
        obtain ⟨o, i', h', e, r⟩ := j1 out (decide (n > 0)) i1 h1 (by omega) hi1 (fun c => by have := of_decide_eq_true c; omega)
        refine ⟨o, i', h', ev_s ?_, r⟩
        simp only [spec_l05DrawTerms.l0, g1, if_false, e1, Option.bind_some, if_true]; exact e
      | false =>
        obtain ⟨o, i', h', e, r⟩ := j1 out false i1 h1 (by omega) hi1 (fun c => by cases c)
        refine ⟨o, i', h', ev_s ?_, r⟩
        simp only [spec_l05DrawTerms.l0, g1, if_false, e1, Option.bind_some, Bool.false_eq_true]; exact e
    | succ d ih =>
      intro c out i h hc ho hi
      obtain ⟨x, i1, h1, e1, hi1, _⟩ := dr_Below L hL i h 1000001 hi
      obtain ⟨y, i2, h2, e2, hi2, _⟩ := dr_Below L hL i1 h1 1000001 hi1
      obtain ⟨z, i3, h3, e3, hi3, _⟩ := dr_Below L hL i2 h2 9 hi2
      obtain ⟨v, i4, h4, e4, hi4, _⟩ := dr_Pick L hL i3 h3 ([1000000, (-1000000), x, wrap64 (-y), wrap64 (z - 4), 0] : List Int) (by simp) hi3
      obtain ⟨o2, i5, h5, e5, hl2, hi5⟩ := ih (c + 1) (out ++ [v]) i4 h4 (by omega) (by simp [ho]) hi4
      refine ⟨o2, i5, h5, ev_s ?_, hl2, hi5⟩
      have g1 : (c : Int) < n := by omega
      have g2 : out.length < 17592186044416 := by omega
      simp only [spec_l05DrawTerms.l0, g1, g2, e1, e2, e3, e4, Option.bind_some, if_true, w_succ (n := c) (by omega)]
      exact e5
  unfold spec_l05DrawTerms.f
  exact key n.toNat 0 [] i h (by omega) rfl hi

theorem dr_New (L : List Int) (hL : L.length ≤ 140737488351232) : ∃ h, Ev (fun k => spec_l01New.f k L) (L, 0, h) := by
  have key : ∀ (d i : Nat) (x : Int), i + d = 4000 → ∃ h, Ev (fun k => spec_l01New.l0 k L x (i : Int)) (L, 0, h) := by
    intro d
    induction d with
    | zero =>
      intro i x hi
      refine ⟨x, ev_s ?_⟩
      have h2 : ¬ ((i : Int) < 4000) := by omega
      by_cases h1 : (i : Int) < (L.length : Int)
      · simp only [spec_l01New.l0, h1, h2, if_true, if_false]; exact Ev.now _
      · simp only [spec_l01New.l0, h1, if_false]; exact Ev.now _
    | succ d ih =>
      intro i x hi
      have h2 : (i : Int) < 4000 := by omega
      have h3 : (0 : Int) ≤ (i : Int) := by omega
      by_cases h1 : (i : Int) < (L.length : Int)
      · obtain ⟨h, hh⟩ := ih (i + 1) (Go.bits .and .i64 (wrap64 ((wrap64 ((wrap64 (x * 149)) + (wrap64 (rd L (i : Int))))) + 11)) 1073741823) (by omega)
        refine ⟨h, ev_s ?_⟩
        simp only [spec_l01New.l0, h1, h2, h3, if_true, w_succ (n := i) (by omega)]
        exact hh
      · refine ⟨x, ev_s ?_⟩
        simp only [spec_l01New.l0, h1, if_false]; exact Ev.now _
  unfold spec_l01New.f
  exact key 4000 0 _ (by omega)

theorem dr_Size (L : List Int) (hL : L.length ≤ 140737488351232) : ∃ s, spec_l01Size.f L 60 = some s ∧ 2 ≤ s ∧ s ≤ 60 := by
  unfold spec_l01Size.f
  rw [w64 (x := (L.length : Int) / 16) (by omega) (by omega), w64 (by omega) (by omega)]
  by_cases c : 2 + (L.length : Int) / 16 > 60
  · rw [if_pos c]; exact ⟨_, rfl, by omega, by omega⟩
  · rw [if_neg c]; exact ⟨_, rfl, by omega, by omega⟩
theorem dr_DrawConvExact (L : List Int) (hL : L.length ≤ 140737488351232) : ∃ a b, Ev (fun k => spec_DrawConvExact.f k L) (a, b) ∧ a.length ≤ 1048576 ∧ b.length ≤ 1048576 := by
  obtain ⟨h, hn⟩ := dr_New L hL
  obtain ⟨b, i1, h1, e1, hi1⟩ := dr_Once L hL 0 h 10 (by omega)
  unfold spec_DrawConvExact.f
  cases b with
  | true =>
    obtain ⟨x, i2, h2, e2, hi2, hx0, hx1⟩ := dr_Below L hL i1 h1 4 hi1
    have hx2 := hx1 (by omega)
    obtain ⟨u, i3, h3, e3, hu, hi3⟩ := dr_Terms L hL i2 h2 (wrap64 (198 + x)) hi2 (by rw [w64 (by omega) (by omega)]; omega)
    obtain ⟨v, i4, h4, e4, hv, hi4⟩ := dr_Terms L hL i3 h3 200 hi3 (by omega)
    rw [w64 (by omega) (by omega)] at hu
    refine ⟨u, v, Ev.bind hn ?_, by omega, by omega⟩
    refine Ev.bind (ev_c e1) ?_
    simp only [if_true]
    refine Ev.bind (ev_c e2) ?_
    refine Ev.bind e3 ?_
    refine Ev.bind e4 ?_
    exact Ev.now _
  | false =>
    obtain ⟨s, es, hs0, hs1⟩ := dr_Size L hL
    obtain ⟨x, i2, h2, e2, hi2, hx0, hx1⟩ := dr_Below L hL i1 h1 s hi1
    have hx2 := hx1 (by omega)
    obtain ⟨u, i3, h3, e3, hu, hi3⟩ := dr_Terms L hL i2 h2 x hi2 (by omega)
    obtain ⟨y, i4, h4, e4, hi4, hy0, hy1⟩ := dr_Below L hL i3 h3 s hi3
    have hy2 := hy1 (by omega)
    obtain ⟨v, i5, h5, e5, hv, hi5⟩ := dr_Terms L hL i4 h4 y hi4 (by omega)
    refine ⟨u, v, Ev.bind hn ?_, by omega, by omega⟩
    refine Ev.bind (ev_c e1) ?_
    simp only [Bool.false_eq_true, if_false]
    refine Ev.bind (ev_c es) ?_
    refine Ev.bind (ev_c e2) ?_
    refine Ev.bind e3 ?_
    refine Ev.bind (ev_c es) ?_
    refine Ev.bind (ev_c e4) ?_
    refine Ev.bind e5 ?_
    exact Ev.now _

/-- At most 200 integers, none too great. -/
def trB (l : List Int) : Bool := l.all (fun x => decide (-1000000 ≤ x) && decide (x ≤ 1000000))
theorem trB_rd {l : List Int} (h : trB l = true) (i : Int) : -1000000 ≤ rd l i ∧ rd l i ≤ 1000000 := by
  unfold trB at h
  rw [List.all_eq_true] at h
  unfold rd
  rw [List.getD_eq_getElem?_getD]
  cases e : l[i.toNat]? with
  | none => simp
  | some x => have := h x (List.mem_of_getElem? e); simpa using this
theorem trB_drop {l : List Int} {i : Nat} (h : i < l.length) : trB (l.drop i) = (decide (-1000000 ≤ rd l (i : Int)) && decide (rd l (i : Int) ≤ 1000000) && trB (l.drop (i + 1))) := by
  rw [drop_cons h]; rfl

def convV (a b : List Int) : List Int := (List.range (a.length + b.length - 1)).map (pc a b)
theorem tm_tr {a b : List Int} (ha : trB a = true) (hb : trB b = true) (c j : Nat) : -1000000000000 ≤ tm a b c j ∧ tm a b c j ≤ 1000000000000 := by
  by_cases h : c < j
  · rw [tm_c h]; omega
  · rw [tm_in (by omega)]
    have h1 := trB_rd ha (j : Int)
    have h2 := trB_rd hb ((c - j : Nat) : Int)
    generalize rd a (j : Int) = x at *
    generalize rd b ((c - j : Nat) : Int) = y at *
    have e1 : x * y ≤ 1000000 * 1000000 := by
      by_cases hx : 0 ≤ x
      · calc x * y ≤ x * 1000000 := Int.mul_le_mul_of_nonneg_left (by omega) hx
          _ ≤ 1000000 * 1000000 := by omega
      · have := Int.mul_le_mul_of_nonneg_left (a := -y) (b := 1000000) (c := -x) (by omega) (by omega)
        rw [Int.neg_mul_neg] at this
        omega
    have e2 : -(1000000 * 1000000) ≤ x * y := by
      by_cases hx : 0 ≤ x
      · have := Int.mul_le_mul_of_nonneg_left (a := -y) (b := 1000000) (c := x) (by omega) hx
        rw [Int.mul_neg] at this
        omega
      · have := Int.mul_le_mul_of_nonneg_left (a := y) (b := 1000000) (c := -x) (by omega) (by omega)
        rw [Int.neg_mul] at this
        omega
    omega

theorem ev_l01In (x a b : Int) : spec_l01In.f x a b = some (decide (a ≤ x) && decide (x ≤ b)) := by
  unfold spec_l01In.f
  by_cases h : a ≤ x
  · rw [if_pos h, decide_eq_true h, Bool.true_and]
  · rw [if_neg h, decide_eq_false h, Bool.false_and]

theorem ev_l05Terms (l : List Int) (hl : l.length ≤ 35184372088832) : Ev (fun k => spec_l05Terms.f k l) (decide (l.length ≤ 200) && trB l) := by
  have key : ∀ (d i : Nat), i + d = l.length → Ev (fun k => spec_l05Terms.l0 k l (i : Int)) (trB (l.drop i)) := by
    intro d
    induction d with
    | zero =>
      intro i hi
      refine ev_s ?_
      have h1 : ¬ ((i : Int) < (l.length : Int)) := by omega
      simp only [spec_l05Terms.l0, h1, if_false]
      rw [List.drop_of_length_le (by omega)]
      exact Ev.now _
    | succ d ih =>
      intro i hi
      refine ev_s ?_
      have h1 : (i : Int) < (l.length : Int) := by omega
      have h2 : (0 : Int) ≤ (i : Int) := by omega
      simp only [spec_l05Terms.l0, h1, h2, if_true, w_succ (n := i) (by omega), ev_l01In, Option.bind_some]
      rw [trB_drop (by omega)]
      by_cases c : (decide (-1000000 ≤ rd l (i : Int)) && decide (rd l (i : Int) ≤ 1000000)) = true
      · simp only [c, if_true, Bool.true_and]
        exact ih (i + 1) (by omega)
      · simp only [Bool.not_eq_true] at c
        simp only [c, Bool.false_and, Bool.false_eq_true, if_false]
        exact Ev.now _
  unfold spec_l05Terms.f
  by_cases c : (l.length : Int) > 200
  · simp only [c, if_true, show decide (l.length ≤ 200) = false from decide_eq_false (by omega), Bool.false_and]
    exact Ev.now _
  · simp only [c, if_false, show decide (l.length ≤ 200) = true from decide_eq_true (by omega), Bool.true_and]
    exact key l.length 0 (by omega)

theorem ev_sConvExact {a b : List Int} (ha : a.length ≤ 35184372088832) (hb : b.length ≤ 35184372088832) :
    Ev (fun k => spec_ConvExact.f k a b) (if (decide (a.length ≤ 200) && trB a) && (decide (b.length ≤ 200) && trB b) then (if a.length = 0 ∨ b.length = 0 then ([], true) else (convV a b, true)) else ([], false)) := by
  unfold spec_ConvExact.f
  simp only [Option.bind_some]
  refine Ev.bind (ev_l05Terms a ha) ?_
  by_cases ca : (decide (a.length ≤ 200) && trB a) = true
  · simp only [ca, if_true, Bool.true_and]
    refine Ev.bind (ev_l05Terms b hb) ?_
    by_cases cb : (decide (b.length ≤ 200) && trB b) = true
    · simp only [cb, if_true]
      rw [Bool.and_eq_true, decide_eq_true_eq] at ca cb
      refine ev_s ?_
      simp only [spec_ConvExact.j0, Bool.not_true, Bool.false_eq_true, if_false]
      by_cases za : a.length = 0
      · have z : (a.length : Int) = 0 := by omega
        simp only [z, if_true]
        rw [if_pos (Or.inl za)]
        refine ev_s ?_
        simp only [spec_ConvExact.j1, if_true]; exact Ev.now _
      have z : ¬ ((a.length : Int) = 0) := by omega
      simp only [z, if_false]
      by_cases zb : b.length = 0
      · have z2 : ((b.length : Int) == 0) = true := by rw [beq_iff_eq]; omega
        simp only [z2]
        rw [if_pos (Or.inr zb)]
        refine ev_s ?_
        simp only [spec_ConvExact.j1, if_true]; exact Ev.now _
      have z2 : ((b.length : Int) == 0) = false := by rw [beq_eq_false_iff_ne]; omega
      simp only [z2]
      rw [if_neg (by omega)]
      refine ev_s ?_
      simp only [spec_ConvExact.j1, Bool.false_eq_true, if_false]
      have inner : ∀ (d j c : Nat) (out : List Int) (r : List Int × Bool), j + d = c + 1 → c < 400 → out.length < 400 → Ev (fun k => spec_ConvExact.l0 k a b (out ++ [pc a b c]) ((c + 1 : Nat) : Int)) r → Ev (fun k => spec_ConvExact.l1 k a b out (c : Int) (sm j (tm a b c)) (j : Int)) r := by
        intro d
        induction d with
        | zero =>
          intro j c out r hj hc ho hr
          refine ev_s ?_
          have h1 : ¬ ((j : Int) ≤ (c : Int)) := by omega
          simp only [spec_ConvExact.l1, h1, if_false]
          refine ev_s ?_
          have h2 : out.length < 17592186044416 := by omega
          simp only [spec_ConvExact.j4, Bool.false_eq_true, h2, if_true, if_false, w_succ (n := c) (by omega)]
          rw [show j = c + 1 by omega]
          exact hr
        | succ d ih =>
          intro j c out r hj hc ho hr
          have hb1 := sm_bound (B := 1000000000000) (n := j) (by omega) (fun i _ => tm_tr ca.2 cb.2 c i)
          have hb2 := tm_tr ca.2 cb.2 c j
          refine ev_s ?_
          have h1 : (j : Int) ≤ (c : Int) := by omega
          simp only [spec_ConvExact.l1, h1, if_true]
          refine ev_s ?_
          simp only [spec_ConvExact.j4, decide_eq_true_eq]
          have hstep := ih (j + 1) c out r (by omega) hc ho hr
          rw [sm_succ] at hstep
          have ew : wrap64 ((c : Int) - (j : Int)) = ((c - j : Nat) : Int) := by rw [w64 (by omega) (by omega)]; omega
          by_cases h2 : (j : Int) < (a.length : Int)
          · by_cases h3 : ((c - j : Nat) : Int) < (b.length : Int)
            · have h4 : (0 : Int) ≤ (j : Int) := by omega
              have h5 : (0 : Int) ≤ ((c - j : Nat) : Int) := by omega
              have e : wrap64 (sm j (tm a b c) + wrap64 (rd a (j : Int) * rd b ((c - j : Nat) : Int))) = sm j (tm a b c) + tm a b c j := by
                rw [← tm_in (by omega), w64 (x := tm a b c j) (by omega) (by omega), w64 (by omega) (by omega)]
              simp only [ew, h2, h3, h4, h5, if_true, e, w_succ (n := j) (by omega)]
              exact hstep
            · simp only [ew, h2, h3, if_true, if_false, w_succ (n := j) (by omega)]
              rw [tm_b (by omega), Int.add_zero] at hstep
              exact hstep
          · simp only [h2, if_false]
            -- the sum's list has ended: from here on nothing is added
            have e : sm j (tm a b c) = pc a b c := by
              unfold pc
              exact sm_same (fun i h => by
                rcases h with h | h
                · exact tm_a (by omega)
                · omega)
            have h2' : out.length < 17592186044416 := by omega
            simp only [h2', if_true, w_succ (n := c) (by omega), e]
            exact hr
      have outer : ∀ (d c : Nat) (out : List Int), c + d = a.length + b.length - 1 → out = (List.range c).map (pc a b) → Ev (fun k => spec_ConvExact.l0 k a b out (c : Int)) (convV a b, true) := by
        intro d
        induction d with
        | zero =>
          intro c out hc ho
          refine ev_s ?_
          have h1 : ¬ ((c : Int) < wrap64 (wrap64 ((a.length : Int) + (b.length : Int)) - 1)) := by
            rw [w64 (x := (a.length : Int) + (b.length : Int)) (by omega) (by omega), w64 (by omega) (by omega)]; omega
          simp only [spec_ConvExact.l0, h1, if_false]
          rw [ho, show c = a.length + b.length - 1 by omega]
          exact Ev.now _
        | succ d ih =>
          intro c out hc ho
          refine ev_s ?_
          have h1 : (c : Int) < wrap64 (wrap64 ((a.length : Int) + (b.length : Int)) - 1) := by
            rw [w64 (x := (a.length : Int) + (b.length : Int)) (by omega) (by omega), w64 (by omega) (by omega)]; omega
          simp only [spec_ConvExact.l0, h1, if_true]
          refine inner (c + 1) 0 c out _ (by omega) (by omega) (by subst ho; simp; omega) ?_
          exact ih (c + 1) _ (by omega) (by rw [map_snoc, ho])
      exact outer (a.length + b.length - 1) 0 [] (by omega) rfl
    · simp only [Bool.not_eq_true] at cb
      simp only [cb, Bool.false_eq_true, if_false]
      refine ev_s ?_
      simp only [spec_ConvExact.j0, Bool.not_false, if_true]; exact Ev.now _
  · simp only [Bool.not_eq_true] at ca
    simp only [ca, Bool.false_eq_true, if_false, Bool.false_and]
    refine ev_s ?_
    simp only [spec_ConvExact.j0, if_true]; exact Ev.now _

theorem ev_areTerms (l : List Int) (hl : l.length ≤ 35184372088832) : Ev (fun k => impl_areTerms.f k l) (decide (l.length ≤ 200) && trB l) := by
  have key : ∀ (d i : Nat), i + d = l.length → Ev (fun k => impl_areTerms.l0 k l l (l.length : Int) (i : Int)) (decide (l.length ≤ 200) && trB (l.drop i)) := by
    intro d
    induction d with
    | zero =>
      intro i hi
      refine ev_s ?_
      have h1 : ¬ ((i : Int) < (l.length : Int)) := by omega
      simp only [impl_areTerms.l0, h1, if_false]
      rw [List.drop_of_length_le (by omega)]
      refine ev_c ?_
      simp only [trB, List.all_nil, Bool.and_true, Option.some.injEq]
      exact decide_eq_decide.2 (by omega)
    | succ d ih =>
      intro i hi
      refine ev_s ?_
      have h1 : (i : Int) < (l.length : Int) := by omega
      have h2 : (0 : Int) ≤ (i : Int) := by omega
      simp only [impl_areTerms.l0, h1, h2, if_true, w_succ (n := i) (by omega)]
      rw [trB_drop (by omega)]
      by_cases c1 : rd l (i : Int) < -1000000
      · simp only [c1, if_true, show decide (-1000000 ≤ rd l (i : Int)) = false from decide_eq_false (by omega), Bool.false_and, Bool.and_false]
        exact Ev.now _
      · by_cases c2 : rd l (i : Int) > 1000000
        · simp only [c1, c2, if_true, if_false, show decide (rd l (i : Int) ≤ 1000000) = false from decide_eq_false (by omega), Bool.false_and, Bool.and_false]
          exact Ev.now _
        · simp only [c1, c2, if_false, show decide (-1000000 ≤ rd l (i : Int)) = true from decide_eq_true (by omega), show decide (rd l (i : Int) ≤ 1000000) = true from decide_eq_true (by omega), Bool.true_and]
          exact ih (i + 1) (by omega)
  unfold impl_areTerms.f
  exact key l.length 0 (by omega)

theorem ev_iConvExact {a b : List Int} (ha : a.length ≤ 35184372088832) (hb : b.length ≤ 35184372088832) :
    Ev (fun k => impl_ConvExact.f k a b) (if (decide (a.length ≤ 200) && trB a) && (decide (b.length ≤ 200) && trB b) then (if a.length = 0 ∨ b.length = 0 then ([], true) else (convV a b, true)) else ([], false)) := by
  unfold impl_ConvExact.f
  refine Ev.bind (ev_areTerms a ha) ?_
  by_cases ca : (decide (a.length ≤ 200) && trB a) = true
  · simp only [ca, if_true, Bool.true_and]
    refine Ev.bind (ev_areTerms b hb) ?_
    by_cases cb : (decide (b.length ≤ 200) && trB b) = true
    · simp only [cb, if_true]
      rw [Bool.and_eq_true, decide_eq_true_eq] at ca cb
      refine ev_s ?_
      simp only [impl_ConvExact.j0, Bool.not_true, Bool.false_eq_true, if_false]
      by_cases za : a.length = 0
      · have z : (a.length : Int) = 0 := by omega
        simp only [z, if_true]
        rw [if_pos (Or.inl za)]
        refine ev_s ?_
        simp only [impl_ConvExact.j1, if_true]; exact Ev.now _
      have z : ¬ ((a.length : Int) = 0) := by omega
      simp only [z, if_false]
      by_cases zb : b.length = 0
      · have z2 : ((b.length : Int) == 0) = true := by rw [beq_iff_eq]; omega
        simp only [z2]
        rw [if_pos (Or.inr zb)]
        refine ev_s ?_
        simp only [impl_ConvExact.j1, if_true]; exact Ev.now _
      have z2 : ((b.length : Int) == 0) = false := by rw [beq_eq_false_iff_ne]; omega
      simp only [z2]
      rw [if_neg (by omega)]
      refine ev_s ?_
      have ew : wrap64 (wrap64 ((a.length : Int) + (b.length : Int)) - 1) = ((a.length + b.length - 1 : Nat) : Int) := by
        rw [w64 (x := (a.length : Int) + (b.length : Int)) (by omega) (by omega), w64 (by omega) (by omega)]; omega
      simp only [impl_ConvExact.j1, Bool.false_eq_true, if_false, ew, Int.toNat_natCast, show (0 : Int) ≤ ((a.length + b.length - 1 : Nat) : Int) from by omega, show a.length + b.length - 1 ≤ 35184372088832 from by omega, if_true]
      have inner : ∀ (d j i : Nat) (out : List Int) (r : List Int × Bool), j + d = b.length → i < a.length → out.length = a.length + b.length - 1 → (∀ c : Nat, c < out.length → rd out (c : Int) = scat a b i j c) →
          (∀ out' : List Int, out'.length = a.length + b.length - 1 → (∀ c : Nat, c < out'.length → rd out' (c : Int) = sm (i + 1) (tm a b c)) → Ev (fun k => impl_ConvExact.l0 k b out' a (a.length : Int) ((i + 1 : Nat) : Int)) r) →
          Ev (fun k => impl_ConvExact.l1 k b out (i : Int) (rd a (i : Int)) a (a.length : Int) (i : Int) b (b.length : Int) (j : Int)) r := by
        intro d
        induction d with
        | zero =>
          intro j i out r hj hi ho hx hr
          refine ev_s ?_
          have h1 : ¬ ((j : Int) < (b.length : Int)) := by omega
          simp only [impl_ConvExact.l1, h1, if_false, w_succ (n := i) (by omega)]
          exact hr out ho (fun c hc => by rw [hx c hc, scat_row (Or.inl (by omega))])
        | succ d ih =>
          intro j i out r hj hi ho hx hr
          refine ev_s ?_
          have h1 : (j : Int) < (b.length : Int) := by omega
          have h2 : (0 : Int) ≤ (j : Int) := by omega
          have ei : wrap64 ((i : Int) + (j : Int)) = ((i + j : Nat) : Int) := by rw [w64 (by omega) (by omega)]; omega
          have h3 : (0 : Int) ≤ ((i + j : Nat) : Int) := by omega
          have h4 : ((i + j : Nat) : Int) < (out.length : Int) := by omega
          have hb1 := sm_bound (B := 1000000000000) (n := i) (by omega) (fun q _ => tm_tr ca.2 cb.2 (i + j) q)
          have hb2 := tm_tr ca.2 cb.2 (i + j) i
          rw [tm_in (by omega), show i + j - i = j by omega] at hb2
          have eo : rd out ((i + j : Nat) : Int) = sm i (tm a b (i + j)) := by
            rw [hx (i + j) (by omega)]; unfold scat; rw [if_neg (by omega)]; omega
          have ev : wrap64 (rd out ((i + j : Nat) : Int) + wrap64 (rd a (i : Int) * rd b (j : Int))) = scat a b i (j + 1) (i + j) := by
            rw [w64 (x := rd a (i : Int) * rd b (j : Int)) (by omega) (by omega), w64 (by omega) (by omega), scat_hit, hx (i + j) (by omega)]
          simp only [impl_ConvExact.l1, h1, h2, ei, h3, h4, if_true, ev, w_succ (n := j) (by omega), Int.toNat_natCast]
          refine ih (j + 1) i _ r (by omega) hi (by rw [List.length_set]; exact ho) (fun c hc => ?_) hr
          rw [List.length_set] at hc
          by_cases e : i + j = c
          · subst e; rw [rd_set_eq (by omega)]
          · rw [rd_set_ne e, hx c hc, scat_miss (by omega)]
      have outer : ∀ (d i : Nat) (out : List Int), i + d = a.length → out.length = a.length + b.length - 1 → (∀ c : Nat, c < out.length → rd out (c : Int) = sm i (tm a b c)) → Ev (fun k => impl_ConvExact.l0 k b out a (a.length : Int) (i : Int)) (convV a b, true) := by
        intro d
        induction d with
        | zero =>
          intro i out hi ho hx
          refine ev_s ?_
          have h1 : ¬ ((i : Int) < (a.length : Int)) := by omega
          simp only [impl_ConvExact.l0, h1, if_false]
          have e : out = convV a b := set_map_rd ho (fun c hc => by rw [hx c (by omega), show i = a.length by omega, pc_of_len])
          rw [e]; exact Ev.now _
        | succ d ih =>
          intro i out hi ho hx
          refine ev_s ?_
          have h1 : (i : Int) < (a.length : Int) := by omega
          have h2 : (0 : Int) ≤ (i : Int) := by omega
          simp only [impl_ConvExact.l0, h1, h2, if_true]
          refine inner b.length 0 i out _ (by omega) (by omega) ho (fun c hc => by rw [hx c hc, scat_start]) (fun out' ho' hx' => ?_)
          exact ih (i + 1) out' (by omega) ho' hx'
      exact outer a.length 0 _ (by omega) (by simp) (fun c _ => by rw [rd_rep]; rfl)
    · simp only [Bool.not_eq_true] at cb
      simp only [cb, Bool.false_eq_true, if_false]
      refine ev_s ?_
      simp only [impl_ConvExact.j0, Bool.not_false, if_true]; exact Ev.now _
  · simp only [Bool.not_eq_true] at ca
    simp only [ca, Bool.false_eq_true, if_false, Bool.false_and]
    refine ev_s ?_
    simp only [impl_ConvExact.j0, if_true]; exact Ev.now _

theorem ev_cp (l : List Int) (hl : l.length ≤ 1048576) : Ev (fun k => laws_cp.f k l) l := by
  have key : ∀ (d i : Nat), i + d = l.length → Ev (fun k => laws_cp.l0 k l (l.take i) (i : Int)) l := by
    intro d
    induction d with
    | zero =>
      intro i hi
      refine ev_s ?_
      have g1 : ¬ ((i : Int) < (l.length : Int)) := by omega
      simp only [laws_cp.l0, g1, if_false]
      rw [List.take_of_length_le (by omega)]; exact Ev.now _
    | succ d ih =>
      intro i hi
      refine ev_s ?_
      have g1 : (i : Int) < (l.length : Int) := by omega
      have g2 : (0 : Int) ≤ (i : Int) := by omega
      have g3 : (l.take i).length < 17592186044416 := by rw [List.length_take]; omega
      simp only [laws_cp.l0, g1, g2, g3, if_true, w_succ (n := i) (by omega)]
      rw [rd_at (show i < l.length by omega), List.take_append_getElem (show i < l.length by omega)]
      exact ih (i + 1) (by omega)
  exact key l.length 0 (by omega)

theorem ev_l01Copy (l : List Int) (hl : l.length ≤ 17592186044416) : Ev (fun k => spec_l01Copy.f k l) l := by
  have key : ∀ (d i : Nat), i + d = l.length → Ev (fun k => spec_l01Copy.l0 k l (l.take i) (i : Int)) l := by
    intro d
    induction d with
    | zero =>
      intro i hi
      refine ev_s ?_
      have g1 : ¬ ((i : Int) < (l.length : Int)) := by omega
      simp only [spec_l01Copy.l0, g1, if_false]
      rw [List.take_of_length_le (by omega)]; exact Ev.now _
    | succ d ih =>
      intro i hi
      refine ev_s ?_
      have g1 : (i : Int) < (l.length : Int) := by omega
      have g2 : (0 : Int) ≤ (i : Int) := by omega
      have g3 : (l.take i).length < 17592186044416 := by rw [List.length_take]; omega
      simp only [spec_l01Copy.l0, g1, g2, g3, if_true, w_succ (n := i) (by omega)]
      rw [rd_at (show i < l.length by omega), List.take_append_getElem (show i < l.length by omega)]
      exact ih (i + 1) (by omega)
  exact key l.length 0 (by omega)

theorem ev_l03Cut (l : List Int) (hl : l.length ≤ 100000) : Ev (fun k => spec_l03Cut.f k l) (cutS l) := by
  have key : ∀ n, n ≤ l.length → Ev (fun k => spec_l03Cut.l0 k l (n : Int)) (cutN l n) := by
    intro n
    induction n with
    | zero =>
      intro hn
      refine ev_s ?_
      have g1 : ¬ (((0 : Nat) : Int) > 0) := by omega
      have g2 : (0 : Int) ≤ ((0 : Nat) : Int) := by omega
      have g3 : ((0 : Nat) : Int) ≤ (l.length : Int) := by omega
      simp only [spec_l03Cut.l0, g1, g2, g3, if_true, if_false, Int.toNat_natCast]
      refine Ev.bind (ev_l01Copy _ (by simp)) ?_
      exact Ev.now _
    | succ n ih =>
      intro hn
      refine ev_s ?_
      have g1 : ((n + 1 : Nat) : Int) > 0 := by omega
      have ew : wrap64 (((n + 1 : Nat) : Int) - 1) = (n : Int) := by rw [w64 (by omega) (by omega)]; omega
      have g2 : (0 : Int) ≤ (n : Int) := by omega
      have g3 : (n : Int) < (l.length : Int) := by omega
      unfold cutN
      by_cases c : rd l (n : Int) = 0
      · simp only [spec_l03Cut.l0, g1, ew, g2, g3, c, if_true]
        exact ih (by omega)
      · have g4 : (0 : Int) ≤ ((n + 1 : Nat) : Int) := by omega
        have g5 : ((n + 1 : Nat) : Int) ≤ (l.length : Int) := by omega
        simp only [spec_l03Cut.l0, g1, ew, g2, g3, g4, g5, c, if_true, if_false, Int.toNat_natCast]
        refine Ev.bind (ev_l01Copy _ (by simp; omega)) ?_
        exact Ev.now _
  exact key l.length (Nat.le_refl _)

theorem ev_Modulus (f : Int) : spec_Modulus.f f = some (md f) := by
  unfold spec_Modulus.f md
  by_cases h0 : f = 0
  · rw [if_pos h0, if_pos h0]
  rw [if_neg h0, if_neg h0]
  by_cases h1 : f = 1
  · rw [if_pos h1, if_pos h1]
  rw [if_neg h1, if_neg h1]
  by_cases h2 : f = 2
  · rw [if_pos h2, if_pos h2]
  rw [if_neg h2, if_neg h2]
  by_cases h3 : f = 3
  · rw [if_pos h3, if_pos h3]
  rw [if_neg h3, if_neg h3]
  by_cases h4 : f = 4
  · rw [if_pos h4, if_pos h4]
  rw [if_neg h4, if_neg h4]
  by_cases h5 : f = 5
  · rw [if_pos h5, if_pos h5]
  rw [if_neg h5, if_neg h5]
  by_cases h6 : f = 6
  · rw [if_pos h6, if_pos h6]
  rw [if_neg h6, if_neg h6]
  by_cases h7 : f = 7
  · rw [if_pos h7, if_pos h7]
  rw [if_neg h7, if_neg h7]
  by_cases h8 : f = 8
  · rw [if_pos h8, if_pos h8]
  rw [if_neg h8, if_neg h8]

theorem ev_Reduce {f : Int} (h : 0 ≤ f ∧ f < 9) (x : Int) : spec_Reduce.f f x = some (x % md f) := by
  have hp := pm_of h
  unfold Pm at hp
  unfold spec_Reduce.f
  rw [ev_Modulus]
  simp only [Option.bind_some]
  rw [if_neg (by omega)]
  have hb := tmod_bounds (a := x) (p := md f) (by omega)
  rw [w64 (by omega) (by omega), ← tmod_fix (a := x) (p := md f) (by omega)]
  by_cases c : Int.tmod x (md f) < 0
  · rw [if_pos c, if_pos c]
  · rw [if_neg c, if_neg c]
theorem ev_Reduce_bad {f : Int} (h : ¬ (0 ≤ f ∧ f < 9)) (x : Int) : spec_Reduce.f f x = some (-1) := by
  unfold spec_Reduce.f
  rw [ev_Modulus]
  simp only [Option.bind_some]
  rw [if_pos (md_bad h)]

def redS (p : Int) (a : List Int) : List Int := (List.range a.length).map (fun (i : Nat) => rd a (i : Int) % p)
theorem redS_len (p : Int) (a : List Int) : (redS p a).length = a.length := by simp [redS]
theorem redS_el {p : Int} (hp : 0 < p) (a : List Int) : El p (redS p a) := El.map (fun i _ => em_lt hp)
theorem redS_rd (p : Int) (a : List Int) (i : Nat) : rd (redS p a) (i : Int) = rd a (i : Int) % p := by
  by_cases h : i < a.length
  · unfold redS; rw [rd_map _ h]
  · rw [rd_out (l := a) (by omega), rd_out (by rw [redS_len]; omega), Int.zero_emod]
theorem ev_Trim {f : Int} (hf : 0 ≤ f ∧ f < 9) {a : List Int} (ha : a.length ≤ 400) : Ev (fun k => spec_Trim.f k f a) (cutS (redS (md f) a)) := by
  have hb := (isF hf.1 hf.2).bounds
  have key : ∀ (d i : Nat) (out : List Int), i + d = a.length → out = (List.range i).map (fun (i : Nat) => rd a (i : Int) % md f) → Ev (fun k => spec_Trim.l0 k f a out (i : Int)) (cutS (redS (md f) a)) := by
    intro d
    induction d with
    | zero =>
      intro i out hi ho
      refine ev_s ?_
      have g1 : ¬ ((i : Int) < (a.length : Int)) := by omega
      simp only [spec_Trim.l0, g1, if_false]
      have e : out = redS (md f) a := by rw [ho, show i = a.length by omega]; rfl
      rw [e]
      refine Ev.bind (ev_l03Cut _ (by rw [redS_len]; omega)) ?_
      exact Ev.now _
    | succ d ih =>
      intro i out hi ho
      refine ev_s ?_
      have g1 : (i : Int) < (a.length : Int) := by omega
      have g2 : (0 : Int) ≤ (i : Int) := by omega
      have g3 : out.length < 17592186044416 := by rw [ho]; simp; omega
      simp only [spec_Trim.l0, g1, g2, g3, if_true, ev_Reduce hf, Option.bind_some, w_succ (n := i) (by omega)]
      exact ih (i + 1) _ (by omega) (by rw [ho, map_snoc])
  unfold spec_Trim.f
  have g1 : ¬ (md f = 0) := by omega
  have g2 : ¬ ((a.length : Int) > 400) := by omega
  simp only [ev_Modulus, Option.bind_some, g1, if_false, decide_eq_false g2]
  refine ev_s ?_
  simp only [spec_Trim.j0, Bool.false_eq_true, if_false]
  exact key a.length 0 [] (by omega) rfl

theorem ev_fieldOf {f : Int} (h : 0 ≤ f ∧ f < 9) : impl_fieldOf.f f = some (md f, gn f, tp f, true) := by
  rcases fcases h.1 h.2 with e | e | e | e | e | e | e | e | e <;> subst e <;> rfl
theorem ev_fieldOf_bad {f : Int} (h : ¬ (0 ≤ f ∧ f < 9)) : impl_fieldOf.f f = some (0, 0, 0, false) := by
  unfold impl_fieldOf.f
  by_cases c : f < 0
  · rw [if_pos c]
  · rw [if_neg c, if_pos (by omega)]

theorem ev_areElements (p g t : Int) (l : List Int) (hl : l.length ≤ 35184372088832) : Ev (fun k => impl_field_areElements.f k p g t l) (elB p l) := by
  have key : ∀ (d i : Nat), i + d = l.length → Ev (fun k => impl_field_areElements.l0 k l (l.length : Int) (i : Int) p g t) (elB p (l.drop i)) := by
    intro d
    induction d with
    | zero =>
      intro i hi
      refine ev_s ?_
      have h1 : ¬ ((i : Int) < (l.length : Int)) := by omega
      simp only [impl_field_areElements.l0, h1, if_false]
      rw [List.drop_of_length_le (by omega)]
      exact Ev.now _
    | succ d ih =>
      intro i hi
      refine ev_s ?_
      have h1 : (i : Int) < (l.length : Int) := by omega
      have h2 : (0 : Int) ≤ (i : Int) := by omega
      simp only [impl_field_areElements.l0, h1, h2, if_true, w_succ (n := i) (by omega)]
      rw [elB_drop (by omega)]
      by_cases c1 : rd l (i : Int) < 0
      · simp only [c1, if_true, show decide (0 ≤ rd l (i : Int)) = false from decide_eq_false (by omega), Bool.false_and]
        exact Ev.now _
      · by_cases c2 : rd l (i : Int) ≥ p
        · simp only [c1, c2, if_true, if_false, show decide (rd l (i : Int) < p) = false from decide_eq_false (by omega), Bool.false_and, Bool.and_false]
          exact Ev.now _
        · simp only [c1, c2, if_false, show decide (0 ≤ rd l (i : Int)) = true from decide_eq_true (by omega), show decide (rd l (i : Int) < p) = true from decide_eq_true (by omega), Bool.true_and]
          exact ih (i + 1) (by omega)
  exact key l.length 0 (by omega)

theorem ev_polyField2 {f : Int} {a b : List Int} (h : PolyV f a) (k : PolyV f b) : Ev (fun k => impl_polyField.f k f [a, b]) (md f, gn f, tp f, true) := by
  obtain ⟨hf, hn, he, hz⟩ := h
  obtain ⟨_, kn, ke, kz⟩ := k
  have hb := (isF hf.1 hf.2).bounds
  unfold impl_polyField.f
  have hl : (([a, b] : List (List Int)).length : Int) = 2 := rfl
  simp only [ev_fieldOf hf, Option.bind_some, if_true, hl]
  have step : ∀ (ls : List (List Int)) (n i : Int) (l : List Int) (r : Int × Int × Int × Bool), 0 ≤ i → i < n → i < (ls.length : Int) → rd_L2 ls i = l → l.length ≤ 400 → El (md f) l → (1 ≤ l.length → rd l ((l.length - 1 : Nat) : Int) ≠ 0) →
      Ev (fun k => impl_polyField.l0 k ls n (wrap64 (i + 1)) (md f) (gn f) (tp f)) r → Ev (fun k => impl_polyField.l0 k ls n i (md f) (gn f) (tp f)) r := by
    intro ls n i l r h0 h1 h2 hl hn he hz hr
    refine ev_s ?_
    have g1 : ¬ ((l.length : Int) > 400) := by omega
    simp only [impl_polyField.l0, h0, h1, h2, hl, if_true, g1, if_false]
    refine Ev.bind (ev_areElements _ _ _ l (by omega)) ?_
    simp only [elB_iff.2 he, if_true]
    by_cases c : (l.length : Int) > 0
    · have ew : wrap64 ((l.length : Int) - 1) = ((l.length - 1 : Nat) : Int) := by rw [w64 (by omega) (by omega)]; omega
      have c2 : (0 : Int) ≤ ((l.length - 1 : Nat) : Int) := by omega
      have c3 : ((l.length - 1 : Nat) : Int) < (l.length : Int) := by omega
      simp only [c, ew, c2, c3, hz (by omega), if_true, if_false]
      exact hr
    · simp only [c, if_false]; exact hr
  refine step _ _ 0 a _ (by decide) (by decide) (by rw [hl]; decide) rfl hn he hz ?_
  rw [w64 (x := 0 + 1) (by decide) (by decide)]
  refine step _ _ (0 + 1) b _ (by decide) (by decide) (by rw [hl]; decide) rfl kn ke kz ?_
  rw [w64 (x := 0 + 1 + 1) (by decide) (by decide)]
  refine ev_s ?_
  simp only [impl_polyField.l0, show ¬ ((0 : Int) + 1 + 1 < 2) from by decide, if_false]
  exact Ev.now _

theorem ev_trimmed (l : List Int) (hl : l.length ≤ 100000) : Ev (fun k => impl_trimmed.f k l) (cutS l) := by
  have key : ∀ n, n ≤ l.length → Ev (fun k => impl_trimmed.l0 k (l.take n)) (cutN l n) := by
    intro n
    induction n with
    | zero =>
      intro hn
      refine ev_s ?_
      have g1 : ¬ (((l.take 0).length : Int) > 0) := by simp
      simp only [impl_trimmed.l0, g1, if_false]; exact Ev.now _
    | succ n ih =>
      intro hn
      refine ev_s ?_
      have hlen : (l.take (n + 1)).length = n + 1 := by rw [List.length_take]; omega
      have g1 : ((l.take (n + 1)).length : Int) > 0 := by omega
      have ew : wrap64 (((l.take (n + 1)).length : Int) - 1) = (n : Int) := by rw [hlen, w64 (by omega) (by omega)]; omega
      have g2 : (0 : Int) ≤ (n : Int) := by omega
      have g3 : (n : Int) < ((l.take (n + 1)).length : Int) := by omega
      have g4 : (n : Int) ≤ ((l.take (n + 1)).length : Int) := by omega
      have er : rd (l.take (n + 1)) (n : Int) = rd l (n : Int) := rd_take (by omega)
      unfold cutN
      by_cases c : rd l (n : Int) = 0
      · simp only [impl_trimmed.l0, g1, ew, g2, g3, g4, er, c, if_true, Int.toNat_natCast]
        rw [List.take_take, show min n (n + 1) = n by omega]
        exact ih (by omega)
      · simp only [impl_trimmed.l0, g1, ew, g2, g3, er, c, if_true, if_false]; exact Ev.now _
  unfold impl_trimmed.f
  have := key l.length (Nat.le_refl _)
  rw [List.take_length] at this
  exact this

def rawS (p : Int) (a b : List Int) : List Int := (List.range (a.length + b.length - 1)).map (fun c => pc a b c % p)
theorem rawS_len (p : Int) (a b : List Int) : (rawS p a b).length = a.length + b.length - 1 := by simp [rawS]
def mpS (p : Int) (a b : List Int) : List Int := if a.length = 0 ∨ b.length = 0 then [] else cutS (rawS p a b)
theorem mpS_len (p : Int) (a b : List Int) : (mpS p a b).length ≤ a.length + b.length := by
  unfold mpS; split
  · simp
  · have h := cutN_len (rawS p a b) (rawS p a b).length
    rw [rawS_len] at h
    unfold cutS
    rw [rawS_len]; omega
theorem mpS_rd (p : Int) (a b : List Int) (c : Nat) : rd (mpS p a b) (c : Int) = pc a b c % p := by
  unfold mpS
  by_cases h : a.length = 0 ∨ b.length = 0
  · rw [if_pos h]
    have : pc a b c = 0 := by
      rcases h with h | h
      · unfold pc; exact sm_nil (fun i hi => tm_a (by omega))
      · unfold pc; exact sm_nil (fun i hi => tm_b (by omega))
    rw [this, Int.zero_emod]; exact rd_out (by simp)
  · rw [if_neg h, cutS_rd]
    by_cases h2 : c < a.length + b.length - 1
    · unfold rawS; rw [rd_map _ h2]
    · rw [rd_out (by rw [rawS_len]; omega), pc_out (by omega) (by omega), Int.zero_emod]
theorem ev_mulPoly {p : Int} (hp : Pm p) (g t : Int) {a b : List Int} (h1 : a.length ≤ 400) (h2 : b.length ≤ 400) (ha : El p a) (hb : El p b) : Ev (fun k => impl_field_mulPoly.f k p g t a b) (mpS p a b) := by
  have hpp := hp
  unfold Pm at hpp
  unfold impl_field_mulPoly.f
  by_cases ca : (a.length : Int) = 0
  · simp only [ca, if_true]
    refine ev_s ?_
    simp only [impl_field_mulPoly.j0, if_true]
    unfold mpS
    rw [if_pos (by omega)]; exact Ev.now _
  by_cases cb : (b.length : Int) = 0
  · simp only [ca, if_false, cb]
    refine ev_s ?_
    simp only [impl_field_mulPoly.j0, beq_self_eq_true, if_true]
    unfold mpS
    rw [if_pos (by omega)]; exact Ev.now _
  have cb' : ((b.length : Int) == 0) = false := by rw [← Bool.not_eq_true, beq_iff_eq]; exact cb
  simp only [ca, if_false, cb']
  obtain ⟨N, hN⟩ : ∃ N, N = a.length + b.length - 1 := ⟨_, rfl⟩
  have ew : wrap64 (wrap64 ((a.length : Int) + (b.length : Int)) - 1) = (N : Int) := by
    rw [w64 (x := (a.length : Int) + (b.length : Int)) (by omega) (by omega), w64 (by omega) (by omega)]; omega
  refine ev_s ?_
  have g1 : (0 : Int) ≤ (N : Int) := by omega
  simp only [impl_field_mulPoly.j0, Bool.false_eq_true, if_false, ew, g1, if_true, Int.toNat_natCast, show N ≤ 35184372088832 from by omega]
  clear ew
  have emp : mpS p a b = cutS (rawS p a b) := by unfold mpS; rw [if_neg (by omega)]
  rw [emp]
  have inner : ∀ (d j i : Nat) (out : List Int) (r : List Int), j + d = b.length → i < a.length → out.length = N → (∀ c : Nat, c < N → rd out (c : Int) = scat a b i j c % p) →
      (∀ out' : List Int, out'.length = N → (∀ c : Nat, c < N → rd out' (c : Int) = sm (i + 1) (tm a b c) % p) → Ev (fun k => impl_field_mulPoly.l0 k b out' a (a.length : Int) ((i + 1 : Nat) : Int) p g t) r) →
      Ev (fun k => impl_field_mulPoly.l1 k b out (i : Int) (rd a (i : Int)) a (a.length : Int) (i : Int) b (b.length : Int) (j : Int) p g t) r := by
    intro d
    induction d with
    | zero =>
      intro j i out r hj hi ho hx hr
      refine ev_s ?_
      have g1 : ¬ ((j : Int) < (b.length : Int)) := by omega
      simp only [impl_field_mulPoly.l1, g1, if_false, w_succ (n := i) (by omega)]
      exact hr out ho (fun c hc => by rw [hx c hc, scat_row (Or.inl (by omega))])
    | succ d ih =>
      intro j i out r hj hi ho hx hr
      refine ev_s ?_
      have g0 : (j : Int) < (b.length : Int) := by omega
      have g00 : (0 : Int) ≤ (j : Int) := by omega
      have g2 : (0 : Int) ≤ ((i + j : Nat) : Int) := by omega
      have g3 : ((i + j : Nat) : Int) < (out.length : Int) := by omega
      have g6 : ¬ (p = 0) := by omega
      have hj9 : j < 9223372036854775807 := by omega
      have hai := ha.rd hp.pos (i : Int)
      have hbj := hb.rd hp.pos (j : Int)
      have hm := mul_lt_big hai.1 hai.2 hbj.1 hbj.2 hpp.2
      have ho1 := hx (i + j) (by omega)
      have ho2 := em_lt (a := scat a b i j (i + j)) hp.pos
      have ei : wrap64 ((i : Int) + (j : Int)) = ((i + j : Nat) : Int) := by rw [w64 (by omega) (by omega)]; omega
      have ev : Int.tmod (wrap64 (rd out ((i + j : Nat) : Int) + wrap64 (rd a (i : Int) * rd b (j : Int)))) p = scat a b i (j + 1) (i + j) % p := by
        rw [w64 (x := rd a (i : Int) * rd b (j : Int)) (by omega) (by omega), ho1, w64 (by omega) (by omega), tmod_nn (by omega), eadd_l, scat_hit]
      simp only [impl_field_mulPoly.l1, g0, g00, ei, g2, g3, g6, if_true, if_false, ev, w_succ (n := j) hj9, Int.toNat_natCast]
      clear ev ei
      refine ih (j + 1) i _ r (by omega) hi (by rw [List.length_set]; exact ho) (fun c hc => ?_) hr
      by_cases e : i + j = c
      · subst e; rw [rd_set_eq (by omega)]
      · rw [rd_set_ne e, hx c hc, scat_miss (by omega)]
  have outer : ∀ (d i : Nat) (out : List Int), i + d = a.length → out.length = N → (∀ c : Nat, c < N → rd out (c : Int) = sm i (tm a b c) % p) → Ev (fun k => impl_field_mulPoly.l0 k b out a (a.length : Int) (i : Int) p g t) (cutS (rawS p a b)) := by
    intro d
    induction d with
    | zero =>
      intro i out hi ho hx
      refine ev_s ?_
      have g1 : ¬ ((i : Int) < (a.length : Int)) := by omega
      simp only [impl_field_mulPoly.l0, g1, if_false]
      have e : out = rawS p a b := by
        unfold rawS
        rw [← hN]
        exact set_map_rd ho (fun c hc => by rw [hx c hc, show i = a.length by omega, pc_of_len])
      rw [e]
      refine Ev.bind (ev_trimmed _ (by rw [rawS_len]; omega)) ?_
      exact Ev.now _
    | succ d ih =>
      intro i out hi ho hx
      refine ev_s ?_
      have g1 : (i : Int) < (a.length : Int) := by omega
      have g2 : (0 : Int) ≤ (i : Int) := by omega
      simp only [impl_field_mulPoly.l0, g1, g2, if_true]
      exact inner b.length 0 i out _ (by omega) (by omega) ho (fun c hc => by rw [hx c hc, scat_start]) (fun out' ho' hx' => ih (i + 1) out' (by omega) ho' hx')
  exact outer a.length 0 _ (by omega) (by simp) (fun c _ => by rw [rd_rep, sm_zero, Int.zero_emod])

theorem ev_iMulPoly {f : Int} {a b : List Int} (h : PolyV f a) (k : PolyV f b) (hl : a.length + b.length ≤ 400) : Ev (fun k => impl_MulPoly.f k f a b) (mpS (md f) a b, true) := by
  unfold impl_MulPoly.f
  refine Ev.bind (ev_polyField2 h k) ?_
  simp only [if_true]
  refine Ev.bind (ev_mulPoly h.pm _ _ h.2.1 k.2.1 h.2.2.1 k.2.2.1) ?_
  have g1 : ¬ (((mpS (md f) a b).length : Int) > 400) := by have := mpS_len (md f) a b; omega
  simp only [g1, if_false]
  exact Ev.now _
theorem cut_red {f : Int} (hf : 0 ≤ f ∧ f < 9) {a : List Int} (ha : a.length ≤ 400) : PolyV f (cutS (redS (md f) a)) :=
  cutS_poly hf (by rw [redS_len]; exact ha) (redS_el (by have := (isF hf.1 hf.2).bounds; omega) a)
theorem cut_red_len (p : Int) (a : List Int) : (cutS (redS p a)).length ≤ a.length := by
  have := cutN_len (redS p a) (redS p a).length
  rw [redS_len] at this
  unfold cutS; rw [redS_len]; exact this
/-- The product of two reduced lists. -/
theorem mp_red (p : Int) (a b : List Int) (c : Nat) : rd (mpS p (cutS (redS p a)) (cutS (redS p b))) (c : Int) = pc a b c % p := by
  rw [mpS_rd]
  unfold pc
  refine sm_econgr (fun j hj => ?_)
  rw [tm_in (by omega), tm_in (by omega), cutS_rd, cutS_rd, redS_rd, redS_rd, emul_l, emul_r]

theorem ev_reduce {p : Int} (hp : Pm p) (g t x : Int) : impl_field_reduce.f p g t x = some (x % p) := by
  unfold Pm at hp
  have hb := tmod_bounds (a := x) (p := p) (by omega)
  unfold impl_field_reduce.f
  rw [if_neg (by omega), w64 (by omega) (by omega), tmod_nn (by omega), tmod_add_emod (by omega)]

theorem ev_mul {p : Int} (hp : Pm p) (g t : Int) {a b : Int} (ha : 0 ≤ a ∧ a < p) (hb : 0 ≤ b ∧ b < p) : impl_field_mul.f p g t a b = some (a * b % p) := by
  unfold Pm at hp
  have h := mul_lt_big ha.1 ha.2 hb.1 hb.2 hp.2
  unfold impl_field_mul.f
  rw [if_neg (by omega), w64 (by omega) (by omega), tmod_nn (by omega)]

theorem ev_power {p : Int} (hp : Pm p) (g t : Int) : ∀ (e : Nat) {a : Int}, (0 ≤ a ∧ a < p) → e < 4611686018427387904 → Ev (fun k => impl_field_power.f k p g t a (e : Int)) (a ^ e % p) := by
  have hpp := hp
  unfold Pm at hpp
  have key : ∀ (n e : Nat), e ≤ n → e < 4611686018427387904 → ∀ a out : Int, (0 ≤ a ∧ a < p) → (0 ≤ out ∧ out < p) → Ev (fun k => impl_field_power.l0 k a (e : Int) out p g t) (out * a ^ e % p) := by
    intro n
    induction n with
    | zero =>
      intro e he _ a out ha ho
      obtain rfl : e = 0 := by omega
      refine ev_s ?_
      have h1 : ¬ (((0 : Nat) : Int) > 0) := by omega
      simp only [impl_field_power.l0, h1, if_false]
      rw [Int.pow_zero, Int.mul_one, em_id ho.1 ho.2]
      exact Ev.now _
    | succ n ih =>
      intro e he hb a out ha ho
      by_cases h0 : e = 0
      · subst h0
        exact ih 0 (by omega) hb a out ha ho
      · refine ev_s ?_
        have h1 : (e : Int) > 0 := by omega
        have h2 : Int.tmod (e : Int) 2 = ((e % 2 : Nat) : Int) := by rw [tmod_nn (by omega)]; omega
        have h3 : wrap64 (Int.tdiv (e : Int) 2) = ((e / 2 : Nat) : Int) := by
          rw [Int.tdiv_eq_ediv_of_nonneg (by omega), w64 (by omega) (by omega)]; omega
        have haa := em_lt (a := a * a) hp.pos
        simp only [impl_field_power.l0, h1, if_true, h2, h3, ev_mul hp g t ha ha, ev_mul hp g t ho ha, Option.bind_some]
        by_cases c : e % 2 = 1
        · have hoa := em_lt (a := out * a) hp.pos
          simp only [c, Int.natCast_one, if_true]
          refine ev_to (ih (e / 2) (by omega) (by omega) (a * a % p) (out * a % p) haa hoa) ?_
          have e1 : (out * a % p) * (a * a % p) ^ (e / 2) % p = (out * a) * (a * a) ^ (e / 2) % p := emul (Int.emod_emod _ _) (epow_l _)
          rw [e1, ipow2, Int.mul_assoc, ← Int.pow_succ']
          congr 3; omega
        · have c0 : e % 2 = 0 := by omega
          simp only [c0, show ¬ (((0 : Nat) : Int) = 1) from by omega, if_false]
          refine ev_to (ih (e / 2) (by omega) (by omega) (a * a % p) out haa ho) ?_
          have e1 : out * (a * a % p) ^ (e / 2) % p = out * (a * a) ^ (e / 2) % p := emul rfl (epow_l _)
          rw [e1, ipow2]
          congr 3; omega
  intro e a ha he
  unfold impl_field_power.f
  refine ev_to (key e e (Nat.le_refl _) he a 1 ha (by omega)) ?_
  rw [Int.one_mul]

theorem ev_inverse {p : Int} (hp : Pm p) (g t : Int) {a : Int} (ha : 0 ≤ a ∧ a < p) : Ev (fun k => impl_field_inverse.f k p g t a) (inv p a) := by
  have hpp := hp
  unfold Pm at hpp
  unfold impl_field_inverse.f
  rw [w64 (x := p - 2) (by omega) (by omega)]
  have h : p - 2 = (((p - 2).toNat : Nat) : Int) := by omega
  have := ev_power hp g t (p - 2).toNat ha (by omega)
  rw [← h] at this
  refine Ev.bind this ?_
  exact Ev.now _

/-- What Joined comes to. -/
def joinV (a b : Int) : Int := if (0 ≤ a ∧ a < 998244353) ∧ (0 ≤ b ∧ b < 469762049) then a + 998244353 * ((b - a) % 469762049 * inv 469762049 (998244353 % 469762049) % 469762049) else -1
theorem joinV_b {a b : Int} (h : (0 ≤ a ∧ a < 998244353) ∧ (0 ≤ b ∧ b < 469762049)) : 0 ≤ joinV a b ∧ joinV a b < 998244353 * 469762049 := by
  unfold joinV
  rw [if_pos h]
  have := em_lt (a := (b - a) % 469762049 * inv 469762049 (998244353 % 469762049)) (p := 469762049) (by omega)
  omega
theorem ev_exact : impl_exactFields.f = some (998244353, 3, 23, 469762049, 3, 26) := rfl
theorem ev_joined (a b : Int) (ha : -9223372036854775808 ≤ a ∧ a ≤ 9223372036854775807) (hb : -9223372036854775808 ≤ b ∧ b ≤ 9223372036854775807) : Ev (fun k => impl_joined.f k a b) (joinV a b) := by
  have h6 : (0 : Int) ≤ 6 ∧ (6 : Int) < 9 := by omega
  have h7 : (0 : Int) ≤ 7 ∧ (7 : Int) < 9 := by omega
  have p7 : Pm 469762049 := pm_of h7
  unfold impl_joined.f
  simp only [ev_exact, Option.bind_some]
  refine Ev.bind (ev_areElements 998244353 3 23 [a] (by simp)) ?_
  by_cases ca : 0 ≤ a ∧ a < 998244353
  · have e1 : elB 998244353 [a] = true := elB_iff.2 (by intro x hx; rw [List.mem_singleton] at hx; subst hx; exact ca)
    simp only [e1, if_true]
    refine Ev.bind (ev_areElements 469762049 3 26 [b] (by simp)) ?_
    by_cases cb : 0 ≤ b ∧ b < 469762049
    · have e2 : elB 469762049 [b] = true := elB_iff.2 (by intro x hx; rw [List.mem_singleton] at hx; subst hx; exact cb)
      refine ev_s ?_
      have hr := em_lt (a := b - a) (p := 469762049) (by omega)
      have hi : 0 ≤ inv 469762049 (998244353 % 469762049) ∧ inv 469762049 (998244353 % 469762049) < 469762049 := inv_lt (by omega) _
      simp only [impl_joined.j0, e2, Bool.not_true, Bool.false_eq_true, if_false, w64 (x := b - a) (by omega) (by omega), ev_reduce p7, Option.bind_some]
      refine Ev.bind (ev_inverse p7 3 26 (a := 998244353 % 469762049) (by decide)) ?_
      have hq := em_lt (a := (b - a) % 469762049 * inv 469762049 (998244353 % 469762049)) (p := 469762049) (by omega)
      simp only [ev_mul p7 3 26 hr hi, Option.bind_some]
      rw [w64 (x := 998244353 * _) (by omega) (by omega), w64 (by omega) (by omega)]
      unfold joinV
      rw [if_pos ⟨ca, cb⟩]
      exact Ev.now _
    · have e2 : elB 469762049 [b] = false := by
        rw [← Bool.not_eq_true, elB_iff]; intro h; exact cb (h b (by simp))
      refine ev_s ?_
      simp only [impl_joined.j0, e2, Bool.not_false, if_true]
      unfold joinV
      rw [if_neg (fun h => cb h.2)]
      exact Ev.now _
  · have e1 : elB 998244353 [a] = false := by
      rw [← Bool.not_eq_true, elB_iff]; intro h; exact ca (h a (by simp))
    simp only [e1, Bool.false_eq_true, if_false]
    refine ev_s ?_
    simp only [impl_joined.j0, if_true]
    unfold joinV
    rw [if_neg (fun h => ca h.1)]
    exact Ev.now _

/-- What Centered comes to. -/
def cenV (a b : Int) : Int × Bool := if joinV a b < 0 then (0, false) else if 2 * joinV a b > 998244353 * 469762049 then (joinV a b - 998244353 * 469762049, true) else (joinV a b, true)
theorem joinV_any (a b : Int) : -1 ≤ joinV a b ∧ joinV a b < 998244353 * 469762049 := by
  by_cases h : (0 ≤ a ∧ a < 998244353) ∧ (0 ≤ b ∧ b < 469762049)
  · have := joinV_b h; omega
  · unfold joinV; rw [if_neg h]; omega
theorem ev_Centered (a b : Int) (ha : -9223372036854775808 ≤ a ∧ a ≤ 9223372036854775807) (hb : -9223372036854775808 ≤ b ∧ b ≤ 9223372036854775807) : Ev (fun k => impl_Centered.f k a b) (cenV a b) := by
  unfold impl_Centered.f
  refine Ev.bind (ev_joined a b ha hb) ?_
  have hj := joinV_any a b
  unfold cenV
  by_cases c : joinV a b < 0
  · simp only [c, if_true]; exact Ev.now _
  · simp only [c, if_false, ev_exact, Option.bind_some, w64 (x := 998244353 * 469762049) (by decide) (by decide), w64 (x := 2 * joinV a b) (by omega) (by omega), w64 (x := joinV a b - 998244353 * 469762049) (by omega) (by omega)]
    by_cases c2 : 2 * joinV a b > 998244353 * 469762049
    · simp only [c2, if_true]; exact Ev.now _
    · simp only [c2, if_false]; exact Ev.now _

theorem crt_back (x : Int) (h0 : -234468656333979648 ≤ x) (h1 : x ≤ 234468656333979648) : joinV (x % 998244353) (x % 469762049) = x % (998244353 * 469762049) := by
  have ha := em_lt (a := x) (p := 998244353) (by omega)
  have hb := em_lt (a := x) (p := 469762049) (by omega)
  unfold joinV
  rw [if_pos ⟨ha, hb⟩]
  have hinv : inv 469762049 (998244353 % 469762049) = 208783132 := by
    unfold inv
    rw [show (998244353 : Int) % 469762049 = ((58720255 : Nat) : Int) by decide, show ((469762049 : Int) - 2).toNat = 469762047 by decide]
    exact (pwm_int (p := 469762049) 30 58720255 469762047 (by decide)).trans (by decide +kernel)
  rw [hinv]
  have e1 : (x % 469762049 - x % 998244353) % 469762049 = ((x / 998244353) * 998244353) % 469762049 := by
    rw [esub_l]; congr 1; omega
  have e2 : ((x % 469762049 - x % 998244353) % 469762049 * 208783132) % 469762049 = (x / 998244353) % 469762049 := by
    rw [emul_l, emul e1.symm.symm rfl]
    omega
  omega
theorem crt_cen (x : Int) (h0 : -234468656333979648 ≤ x) (h1 : x ≤ 234468656333979648) : cenV (x % 998244353) (x % 469762049) = (x, true) := by
  have hj := crt_back x h0 h1
  have hr := em_lt (a := x) (p := 998244353 * 469762049) (by decide)
  unfold cenV
  rw [hj, if_neg (by omega)]
  by_cases c3 : 0 ≤ x
  · rw [em_id c3 (by omega), if_neg (by omega)]
  · have e : x % (998244353 * 469762049) = x + 998244353 * 469762049 := by omega
    rw [e, if_pos (by omega)]
    congr 1; omega

theorem pc_bound {a b : List Int} (ha : trB a = true) (hb : trB b = true) (c : Nat) {M : Nat} (hm : M = a.length ∨ M = b.length) : -((M : Int) * 1000000000000) ≤ pc a b c ∧ pc a b c ≤ (M : Int) * 1000000000000 := by
  rcases hm with hm | hm
  · subst hm
    rw [← pc_of_len]
    exact sm_bound (B := 1000000000000) (by decide) (fun i _ => tm_tr ha hb c i)
  · subst hm
    unfold pc
    have hz : ∀ j, b.length + j ≤ c → tm a b c j = 0 := fun j hj => tm_b hj
    have hrev : sm (c + 1) (tm a b c) = sm (c + 1) (fun i => tm a b c (c - i)) := by
      have := sm_rev (c + 1) (tm a b c)
      rw [this]
      exact sm_congr (fun i hi => by rw [show c + 1 - 1 - i = c - i by omega])
    rw [hrev]
    by_cases h : c + 1 ≤ b.length
    · have h1 := sm_bound (B := 1000000000000) (n := c + 1) (h := fun i => tm a b c (c - i)) (by decide) (fun i _ => tm_tr ha hb c (c - i))
      omega
    · rw [sm_more (n := b.length) (m := c + 1) (h := fun i => tm a b c (c - i)) (by omega) (fun i h1 h2 => hz (c - i) (by omega))]
      exact sm_bound (B := 1000000000000) (by decide) (fun i _ => tm_tr ha hb c (c - i))
theorem ev_Bound {n m : Nat} (hn : 1 ≤ n ∧ n ≤ 200) (hm : 1 ≤ m ∧ m ≤ 200) : impl_Bound.f (n : Int) (m : Int) = some (((min n m : Nat) : Int) * 1000000000000) := by
  unfold impl_Bound.f
  rw [if_neg (by omega), if_neg (by omega), if_neg (by omega), if_neg (by omega)]
  have e : mn (n : Int) (m : Int) = ((min n m : Nat) : Int) := by unfold mn; split <;> omega
  rw [e, w64 (x := ((min n m : Nat) : Int) * 1000000) (by omega) (by omega), w64 (by omega) (by omega)]
  refine congrArg some ?_
  generalize ((min n m : Nat) : Int) = z
  omega
theorem conv_run {a b x y : List Int} {B : Int} (hB0 : 0 ≤ B) (hB1 : B ≤ 234468656333979648) (hR : (convV a b).length ≤ 1000)
    (hx : ∀ c : Nat, rd x (c : Int) = pc a b c % 998244353) (hy : ∀ c : Nat, rd y (c : Int) = pc a b c % 469762049) (hb : ∀ c : Nat, -B ≤ pc a b c ∧ pc a b c ≤ B) :
    Ev (fun k => laws_FnConvByFields.l0 k (convV a b) x y B 0) true := by
  have hr : ∀ c : Nat, c < (convV a b).length → rd (convV a b) (c : Int) = pc a b c := fun c hc => by
    unfold convV at hc ⊢
    rw [rd_map _ (by simpa using hc)]
  generalize convV a b = R at *
  have eB : wrap64 (-B) = -B := w64 (by omega) (by omega)
  have fin : ∀ (i : Nat) (u v : Int), i < R.length → u = pc a b i % 998244353 → v = pc a b i % 469762049 → Ev (fun k => laws_FnConvByFields.l0 k R x y B ((i + 1 : Nat) : Int)) true →
      Ev (fun k => (impl_Centered.f k u v).bind fun bt387 => (if bt387.2 = true then (if (i : Int) < (R.length : Int) then (if bt387.1 = (rd R (i : Int)) then (if (rd R (i : Int)) > B then (some false) else (if (rd R (i : Int)) < (wrap64 (-B)) then (some false) else (laws_FnConvByFields.l0 k R x y B (wrap64 ((i : Int) + 1))))) else (some false)) else (none)) else (some false))) true := by
    intro i u v hi hu hv hnext
    have hp := hb i
    have h6 := em_lt (a := pc a b i) (p := 998244353) (by omega)
    have h7 := em_lt (a := pc a b i) (p := 469762049) (by omega)
    subst hu; subst hv
    refine Ev.bind (ev_Centered _ _ (by omega) (by omega)) ?_
    have g1 : (i : Int) < (R.length : Int) := by omega
    have g2 : ¬ (pc a b i > B) := by omega
    have g3 : ¬ (pc a b i < -B) := by omega
    have e3 : wrap64 ((i : Int) + 1) = ((i + 1 : Nat) : Int) := w_succ (n := i) (by omega)
    simp only [crt_cen (pc a b i) (by omega) (by omega), g1, hr i hi, g2, g3, eB, e3, if_true, if_false]
    exact hnext
  have key : ∀ (d i : Nat), i + d = R.length → Ev (fun k => laws_FnConvByFields.l0 k R x y B (i : Int)) true := by
    intro d
    induction d with
    | zero =>
      intro i hi
      refine ev_s ?_
      have g2 : ¬ ((i : Int) < (R.length : Int)) := by omega
      simp only [laws_FnConvByFields.l0, g2, if_false]; exact Ev.now _
    | succ d ih =>
      intro i hi
      have g0 : (0 : Int) ≤ (i : Int) := Int.natCast_nonneg _
      have g2 : (i : Int) < (R.length : Int) := by omega
      have j3 : ∀ u : Int, u = pc a b i % 998244353 → Ev (fun k => laws_FnConvByFields.j3 k R x y B (i : Int) u 0) true := by
        intro u hu
        refine ev_s ?_
        by_cases c : (i : Int) < (y.length : Int)
        · simp only [laws_FnConvByFields.j3, c, g0, if_true]
          exact fin i u _ (by omega) hu (hy i) (ih (i + 1) (by omega))
        · have f1 := fin i u 0 (by omega) hu (by rw [← hy]; exact (rd_out (by omega)).symm) (ih (i + 1) (by omega))
          simp only [laws_FnConvByFields.j3, c, g0, if_true, if_false]
          exact f1
      refine ev_s ?_
      by_cases c : (i : Int) < (x.length : Int)
      · simp only [laws_FnConvByFields.l0, g2, g0, c, if_true]
        exact j3 _ (hx i)
      · simp only [laws_FnConvByFields.l0, g2, c, if_true, if_false]
        exact j3 _ (by rw [← hx]; exact (rd_out (by omega)).symm)
  exact key R.length 0 (by omega)
theorem conv_j0 {a b : List Int} (ha : trB a = true) (hb : trB b = true) (ha1 : 1 ≤ a.length) (ha2 : a.length ≤ 190) (hb1 : 1 ≤ b.length) (hb2 : b.length ≤ 190) : Ev (fun k => laws_FnConvByFields.j0 k a b false) true := by
  have h6 : (0 : Int) ≤ 6 ∧ (6 : Int) < 9 := by omega
  have h7 : (0 : Int) ≤ 7 ∧ (7 : Int) < 9 := by omega
  have m6 : md 6 = 998244353 := rfl
  have m7 : md 7 = 469762049 := rfl
  have l6a := cut_red_len (md 6) a
  have l6b := cut_red_len (md 6) b
  have l7a := cut_red_len (md 7) a
  have l7b := cut_red_len (md 7) b
  refine ev_s ?_
  simp only [laws_FnConvByFields.j0, Bool.false_eq_true, if_false]
  refine Ev.bind (ev_cp a (by omega)) ?_
  refine Ev.bind (ev_cp b (by omega)) ?_
  refine Ev.bind (ev_iConvExact (by omega) (by omega)) ?_
  refine Ev.bind (ev_Trim h6 (by omega)) ?_
  refine Ev.bind (ev_Trim h6 (by omega)) ?_
  refine Ev.bind (ev_iMulPoly (cut_red h6 (by omega)) (cut_red h6 (by omega)) (by omega)) ?_
  refine Ev.bind (ev_Trim h7 (by omega)) ?_
  refine Ev.bind (ev_Trim h7 (by omega)) ?_
  refine Ev.bind (ev_iMulPoly (cut_red h7 (by omega)) (cut_red h7 (by omega)) (by omega)) ?_
  have c1 : ((decide (a.length ≤ 200) && trB a) && (decide (b.length ≤ 200) && trB b)) = true := by
    rw [ha, hb, decide_eq_true (show a.length ≤ 200 by omega), decide_eq_true (show b.length ≤ 200 by omega)]; rfl
  rw [if_pos c1, if_neg (show ¬ (a.length = 0 ∨ b.length = 0) by omega)]
  have cl : (convV a b).length = a.length + b.length - 1 := by simp [convV]
  have e1 : (((convV a b).length : Int) != wrap64 (wrap64 ((a.length : Int) + (b.length : Int)) - 1)) = false := by
    rw [w64 (x := (a.length : Int) + (b.length : Int)) (by omega) (by omega), w64 (by omega) (by omega), cl, bne_eq_false_iff_eq]; omega
  simp only [if_true, e1]
  refine ev_s ?_
  simp only [laws_FnConvByFields.j1, Bool.false_eq_true, if_false, ev_Bound ⟨ha1, (by omega : a.length ≤ 200)⟩ ⟨hb1, (by omega : b.length ≤ 200)⟩, Option.bind_some]
  refine conv_run (by omega) (by omega) (by omega) (fun c => by rw [mp_red, m6]) (fun c => by rw [mp_red, m7]) (fun c => ?_)
  exact pc_bound ha hb c (by omega)
theorem FnConvByFields : laws_FnConvByFields.Pure := by
  intro L hm h8 hw
  refine Ev.rounds ?_
  unfold laws_FnConvByFields.f laws_big.f
  simp only [Option.bind_some]
  by_cases hbig : (L.length : Int) > 1048576
  · simp only [decide_eq_true hbig, if_true]; exact Ev.now _
  simp only [decide_eq_false hbig, Bool.false_eq_true, if_false]
  obtain ⟨a, b, hd, hal, hbl⟩ := dr_DrawConvExact L (by omega)
  have out : Ev (fun k => laws_FnConvByFields.j0 k a b true) true := by
    refine ev_s ?_
    simp only [laws_FnConvByFields.j0, if_true]; exact Ev.now _
  refine Ev.bind hd ?_
  refine Ev.bind (ev_sConvExact (a := a) (b := b) (by omega) (by omega)) ?_
  by_cases c : ((decide (a.length ≤ 200) && trB a) && (decide (b.length ≤ 200) && trB b)) = true
  · rw [if_pos c]
    simp only [Bool.and_eq_true, decide_eq_true_eq] at c
    have hok : (if a.length = 0 ∨ b.length = 0 then (([], true) : List Int × Bool) else (convV a b, true)).2 = true := by split <;> rfl
    simp only [hok, if_true]
    by_cases c1 : (a.length : Int) > 190
    · simp only [c1, if_true]; exact out
    by_cases c2 : (b.length : Int) > 190
    · simp only [c1, c2, if_true, if_false]; exact out
    by_cases c3 : (a.length : Int) = 0
    · simp only [c1, c2, c3, if_true, if_false]; exact out
    by_cases c4 : (b.length : Int) = 0
    · have e4 : ((b.length : Int) == 0) = true := by rw [beq_iff_eq]; exact c4
      simp only [c1, c2, c3, if_false, e4]; exact out
    have e4 : ((b.length : Int) == 0) = false := by rw [beq_eq_false_iff_ne]; exact c4
    simp only [c1, c2, c3, if_false, e4]
    exact conv_j0 c.1.2 c.2.2 (by omega) (by omega) (by omega) (by omega)
  · rw [if_neg c]
    simp only [Bool.false_eq_true, if_false]; exact out

end Go.Proofs.Ytemffnnndjpleaa.Pure
