/- The machine side of this law: each Go function that it reaches as a Lean function, and the proof that the call comes to just its answer; printed by a program of this session out of the kit's print, with a contract of impl.fieldOf that is this session's own. No condition. -/
import Derived.Test.YtiihnfkflidddaaPFnExactSeriesIntox0
import Derived.Test.YtiihnfkflidddaaPFnExactSeriesIntox2
namespace Go.Proofs.Ytiihnfkflidddaa.PFnExactSeriesInto
open Go.RowKit Go.Proofs.YtiihnfkflidddaaW.PrintWords Go.Proofs.YtiihnfkflidddaaW.PrintLast Go.Proofs.YtiihnfkflidddaaW.PrintMore
attribute [local go_sem] max2_int min2_int max_two min_two max_three min_three max_four min_four   -- for this text's walks alone
set_option linter.unusedVariables false
set_option linter.unusedSimpArgs false

/-! ### spec_SeriesInto: function 33 -/
mutual
def spec_SeriesInto.j0 : Nat → Int → List Int → List Int → Bool → Option (List Int × Bool)
  | 0, _, _, _, _ => none
  | k + 1, x0, x1, x2, x21 => if x21 = true then (some (([] : List Int), false)) else (spec_SeriesInto.l0 k x0 x1 x2 (([] : List Int)) 0)
def spec_SeriesInto.l0 : Nat → Int → List Int → List Int → List Int → Int → Option (List Int × Bool)
  | 0, _, _, _, _, _ => none
  | k + 1, x0, x1, x2, x8, x9 => if x9 < (x1.length : Int) then (if x8.length < 17592186044416 then (spec_SeriesInto.l0 k x0 x1 x2 (x8 ++ [0]) (wrap64 (x9 + 1))) else (none)) else (spec_SeriesInto.l1 k x0 x1 x2 x8 (wrap64 ((x1.length : Int) - 1)))
def spec_SeriesInto.l1 : Nat → Int → List Int → List Int → List Int → Int → Option (List Int × Bool)
  | 0, _, _, _, _, _ => none
  | k + 1, x0, x1, x2, x8, x10 => if x10 ≥ 0 then ((spec_SeriesMul.f k x0 x8 x2).bind fun t145 => (if 0 < (t145.length : Int) then (if 0 ≤ x10 then (if x10 < (x1.length : Int) then ((spec_Add.f x0 (rd t145 0) (rd x1 x10)).bind fun t150 => (spec_SeriesInto.l1 k x0 x1 x2 (t145.set (0 : Int).toNat t150) (wrap64 (x10 - 1)))) else (none)) else (none)) else (none))) else (some (x8, true))
end
def spec_SeriesInto.f (k : Nat) (a0 : Int) (l1 : List Int) (l2 : List Int) : Option (List Int × Bool) := (spec_l06Fit.f k a0 l1 l2).bind fun t137 => (if t137 = true then (if 0 < (l2.length : Int) then (spec_SeriesInto.j0 k a0 l1 l2 ((rd l2 0) != 0)) else (none)) else (spec_SeriesInto.j0 k a0 l1 l2 true))
theorem spec_SeriesInto.mono_l : ∀ k, (∀ y0 y1 y2 y3, LeO (spec_SeriesInto.j0 k y0 y1 y2 y3) (spec_SeriesInto.j0 (k + 1) y0 y1 y2 y3)) ∧ (∀ y0 y1 y2 y3 y4, LeO (spec_SeriesInto.l0 k y0 y1 y2 y3 y4) (spec_SeriesInto.l0 (k + 1) y0 y1 y2 y3 y4)) ∧ (∀ y0 y1 y2 y3 y4, LeO (spec_SeriesInto.l1 k y0 y1 y2 y3 y4) (spec_SeriesInto.l1 (k + 1) y0 y1 y2 y3 y4))
  | 0 => ⟨fun _ _ _ _ r h => by simp [spec_SeriesInto.j0] at h, fun _ _ _ _ _ r h => by simp [spec_SeriesInto.l0] at h, fun _ _ _ _ _ r h => by simp [spec_SeriesInto.l1] at h⟩
  | k + 1 => by
    obtain ⟨ih0, ih1, ih2⟩ := spec_SeriesInto.mono_l k
    refine ⟨?_, ?_, ?_⟩
    · intro y0 y1 y2 y3
      unfold spec_SeriesInto.j0
      repeat' first
      | (with_reducible exact ih0 _ _ _ _)
      | (with_reducible exact ih1 _ _ _ _ _)
      | (with_reducible exact ih2 _ _ _ _ _)
      | (with_reducible exact spec_SeriesMul.mono _ _ _ _)
      | (with_reducible exact spec_l06Fit.mono _ _ _ _)
      | (with_reducible exact LeO.refl _)
      | (with_reducible exact LeO.none _)
      | (with_reducible refine LeO.ite ?_ ?_)
      | (with_reducible refine LeO.bind ?_ (fun _ => ?_))
      | exact ih0 _ _ _ _
      | exact ih1 _ _ _ _ _
      | exact ih2 _ _ _ _ _
      | exact spec_SeriesMul.mono _ _ _ _
      | exact spec_l06Fit.mono _ _ _ _
      | exact LeO.none _
      | refine LeO.ite ?_ ?_
      | refine LeO.bind ?_ (fun _ => ?_)
    · intro y0 y1 y2 y3 y4
      unfold spec_SeriesInto.l0
      repeat' first
      | (with_reducible exact ih0 _ _ _ _)
      | (with_reducible exact ih1 _ _ _ _ _)
      | (with_reducible exact ih2 _ _ _ _ _)
      | (with_reducible exact spec_SeriesMul.mono _ _ _ _)
      | (with_reducible exact spec_l06Fit.mono _ _ _ _)
      | (with_reducible exact LeO.refl _)
      | (with_reducible exact LeO.none _)
      | (with_reducible refine LeO.ite ?_ ?_)
      | (with_reducible refine LeO.bind ?_ (fun _ => ?_))
      | exact ih0 _ _ _ _
      | exact ih1 _ _ _ _ _
      | exact ih2 _ _ _ _ _
      | exact spec_SeriesMul.mono _ _ _ _
      | exact spec_l06Fit.mono _ _ _ _
      | exact LeO.none _
      | refine LeO.ite ?_ ?_
      | refine LeO.bind ?_ (fun _ => ?_)
    · intro y0 y1 y2 y3 y4
      unfold spec_SeriesInto.l1
      repeat' first
      | (with_reducible exact ih0 _ _ _ _)
      | (with_reducible exact ih1 _ _ _ _ _)
      | (with_reducible exact ih2 _ _ _ _ _)
      | (with_reducible exact spec_SeriesMul.mono _ _ _ _)
      | (with_reducible exact spec_l06Fit.mono _ _ _ _)
      | (with_reducible exact LeO.refl _)
      | (with_reducible exact LeO.none _)
      | (with_reducible refine LeO.ite ?_ ?_)
      | (with_reducible refine LeO.bind ?_ (fun _ => ?_))
      | exact ih0 _ _ _ _
      | exact ih1 _ _ _ _ _
      | exact ih2 _ _ _ _ _
      | exact spec_SeriesMul.mono _ _ _ _
      | exact spec_l06Fit.mono _ _ _ _
      | exact LeO.none _
      | refine LeO.ite ?_ ?_
      | refine LeO.bind ?_ (fun _ => ?_)
theorem spec_SeriesInto.mono : ∀ a0 a1 a2 k, LeO (spec_SeriesInto.f k a0 a1 a2) (spec_SeriesInto.f (k + 1) a0 a1 a2) := by
  intro a0 a1 a2 k
  obtain ⟨ih0, ih1, ih2⟩ := spec_SeriesInto.mono_l k
  unfold spec_SeriesInto.f
  repeat' first
      | (with_reducible exact ih0 _ _ _ _)
      | (with_reducible exact ih1 _ _ _ _ _)
      | (with_reducible exact ih2 _ _ _ _ _)
      | (with_reducible exact spec_SeriesMul.mono _ _ _ _)
      | (with_reducible exact spec_l06Fit.mono _ _ _ _)
      | (with_reducible exact LeO.refl _)
      | (with_reducible exact LeO.none _)
      | (with_reducible refine LeO.ite ?_ ?_)
      | (with_reducible refine LeO.bind ?_ (fun _ => ?_))
      | exact ih0 _ _ _ _
      | exact ih1 _ _ _ _ _
      | exact ih2 _ _ _ _ _
      | exact spec_SeriesMul.mono _ _ _ _
      | exact spec_l06Fit.mono _ _ _ _
      | exact LeO.none _
      | refine LeO.ite ?_ ?_
      | refine LeO.bind ?_ (fun _ => ?_)
def spec_SeriesInto.T12 : Bool × List (List Nat × List Nat) := (true, [([], []), ([], []), ([], []), ([2], [2]), ([3], [3]), ([], []), ([], []), ([5, 6], [5, 6]), ([7], [7]), ([1, 4, 8], [1, 4, 8]), ([0, 0, 1, 2, 3, 4, 5, 6, 7, 8, 9], [0]), ([10, 9, 9, 0, 1, 2, 3, 4, 5, 6, 7, 8, 9], [9, 10])])
def spec_SeriesInto.B12 : List Nat := [0, 0, 0, 4, 12, 0, 0, 96, 224, 510, 1023, 2047]
theorem spec_SeriesInto.tab12 : rtab .any (opsOf Try.f33 12) = spec_SeriesInto.T12 := by kernel_rfl
theorem spec_SeriesInto.bits12 : waitsOk spec_SeriesInto.T12.2 spec_SeriesInto.B12 = true := by kernel_rfl
set_option maxHeartbeats 8000000 in
set_option maxRecDepth 100000 in
theorem spec_SeriesInto.calls (k : Nat) (a0 : Int) (A1 : Option Addr) (c1 : Nat) (l1 : List Int) (A2 : Option Addr) (c2 : Nat) (l2 : List Int) (r1 : List Int) (r2 : Bool) (w : World) (hr1 : Kd.C (Kd.int .i64) w A1 l1.length l1) (hc1 : l1.length ≤ c1) (hr2 : Kd.C (Kd.int .i64) w A2 l2.length l2) (hc2 : l2.length ≤ c2) (h : spec_SeriesInto.f k a0 l1 l2 = some (r1, r2)) :
    Calls Try.prog 33 #[.int .i64 a0, .slice A1 l1.length c1, .slice A2 l2.length c2] w fun e w' => ∃ v0_ : Value, e = .returned (.tuple #[v0_, .bool r2]) ∧ Kd.R (Kd.int .i64) 3 w' w.heap.size (fun _ => True) v0_ r1 ∧ Below w.heap.size w w' := by
  have HR1 := Aside0.mk hr1
  have HC1 := Aside0.mk hc1
  clear hr1 hc1
  have HR2 := Aside0.mk hr2
  have HC2 := Aside0.mk hc2
  clear hr2 hc2
  have HB := Aside0.mk (Below.refl w.heap.size w)
  have H : ((spec_l06Fit.f k a0 l1 l2).bind fun t137 => (if t137 = true then (if 0 < (l2.length : Int) then (spec_SeriesInto.j0 k a0 l1 l2 ((rd l2 0) != 0)) else (none)) else (spec_SeriesInto.j0 k a0 l1 l2 true))) = some (r1, r2) := h
  clear h
  have HC4 := Aside0.mk H
  clear H
  go_enter Try.func33, Try.ntmps33
  go_upto_region 1 with (fail)
  go_cut [21] (fun v21 wc => ∃ (kq : Nat) (x21_3 : Bool), v21 = .bool x21_3 ∧ Aside0 (spec_SeriesInto.j0 kq a0 l1 l2 x21_3 = some (r1, r2)) ∧ Aside0 (kq ≤ k) ∧ Aside0 (Below w.heap.size w wc))
  case first =>
    have H := HC4.out
    clear HC4
    replace H := Option.bind_eq_some_iff.mp H
    obtain ⟨t137, A50, H⟩ := H
    replace H : (if t137 = true then (if 0 < (l2.length : Int) then (spec_SeriesInto.j0 k a0 l1 l2 ((rd l2 0) != 0)) else (none)) else (spec_SeriesInto.j0 k a0 l1 l2 true)) = some (r1, r2) := H
    have A5 := Aside0.mk A50
    clear A50
    by_cases c6 : t137 = true
    · subst c6
      have H1 : (if 0 < (l2.length : Int) then (spec_SeriesInto.j0 k a0 l1 l2 ((rd l2 0) != 0)) else (none)) = some (r1, r2) := by rw [if_pos rfl] at H; exact H
      clear H
      have H := H1
      clear H1
      by_cases c7 : 0 < (l2.length : Int)
      · rw [if_pos c7] at H
        have c7b0 : decide (0 < (l2.length : Int)) = true := decide_eq_true c7
        have c7b1 : decide (0 < l2.length) = true := decide_eq_true (by omega)
        clear c7
        (first | rw [c7b0] | (simp only [i64_w, i32_w]; rw [c7b0]) | skip)
        have H' := Aside0.mk H
        clear H
        go_wp2_with (first | ((with_reducible refine gate_callee (f := 64) rfl ?_); refine goesL_ (some 14) rfl rfl Try.func64 (by kernel_rfl) rfl #[.int .i64 a0, .slice A1 l1.length c1, .slice A2 l2.length c2] rfl (by (try simp only [List.map_toArray, List.map_cons, List.map_nil]); first | done | rfl | (simp only [List.length_drop, List.length_take]; rfl)) ?_; (with_reducible refine (spec_l06Fit.calls k a0 _ _ l1 _ _ l2 true _ ?side1 ?side2 ?side3 ?side4 A5.out).mono ?_); (case side1 => repeat (first | exact (Kd.C_below HR1.out HB.out) | (with_reducible refine Kd.C_alloc ?_ _) | (with_reducible refine Kd.C_drewN ?_ _) | (with_reducible refine Kd.C_drew ?_))); (case side2 => exact HC1.out); (case side3 => repeat (first | exact (Kd.C_below HR2.out HB.out) | (with_reducible refine Kd.C_alloc ?_ _) | (with_reducible refine Kd.C_drewN ?_ _) | (with_reducible refine Kd.C_drew ?_))); (case side4 => exact HC2.out); rintro e w' ⟨rfl, ⟨nd, rfl⟩⟩; refine ⟨_, rfl, ?_⟩; have p138 : 0 ≤ (0 : Int) := (by omega); have q138 : 0 < (l2.length : Int) := of_decide_eq_true (by first | (with_reducible assumption) | assumption); obtain ⟨ad138, e138, hx138_0⟩ := Kd.at_int HR2.out 0 p138 q138; cases e138; have qi138 : (0 < l2.length) = True := eq_true (by omega); (try rw [show ((0 : Int)).toNat = 0 from rfl] at hx138_0); (try rw [Addr.add_zero'] at hx138_0); replace hx138_0 := (HB.out.cell (World.block_lt_of_cell? w _ hx138_0)).trans hx138_0; replace p138 := eq_true p138; replace q138 := eq_true q138))
        go_meet
        case rel => exact ⟨_, (((rd l2 0) != 0)), (by first | rfl | (simp; done) | (simp [*]; done)), H', ⟨by first | omega | exact Nat.le_refl _⟩, ⟨by repeat (first | (with_reducible first | exact HB.out | apply below_alloc | apply pw_below_drewN | apply below_drew1) | exact HB.out)⟩⟩
      · rw [if_neg c7] at H
        exact absurd H (by simp)
    · replace c6 := Bool.eq_false_iff.mpr c6
      subst c6
      have H1 : (spec_SeriesInto.j0 k a0 l1 l2 true) = some (r1, r2) := by rw [if_neg (show ¬ (false = true) by decide)] at H; exact H
      clear H
      have H := H1
      clear H1
      have H' := Aside0.mk H
      clear H
      go_wp2_with (first | ((with_reducible refine gate_callee (f := 64) rfl ?_); refine goesL_ (some 14) rfl rfl Try.func64 (by kernel_rfl) rfl #[.int .i64 a0, .slice A1 l1.length c1, .slice A2 l2.length c2] rfl (by (try simp only [List.map_toArray, List.map_cons, List.map_nil]); first | done | rfl | (simp only [List.length_drop, List.length_take]; rfl)) ?_; (with_reducible refine (spec_l06Fit.calls k a0 _ _ l1 _ _ l2 false _ ?side1 ?side2 ?side3 ?side4 A5.out).mono ?_); (case side1 => repeat (first | exact (Kd.C_below HR1.out HB.out) | (with_reducible refine Kd.C_alloc ?_ _) | (with_reducible refine Kd.C_drewN ?_ _) | (with_reducible refine Kd.C_drew ?_))); (case side2 => exact HC1.out); (case side3 => repeat (first | exact (Kd.C_below HR2.out HB.out) | (with_reducible refine Kd.C_alloc ?_ _) | (with_reducible refine Kd.C_drewN ?_ _) | (with_reducible refine Kd.C_drew ?_))); (case side4 => exact HC2.out); rintro e w' ⟨rfl, ⟨nd, rfl⟩⟩; refine ⟨_, rfl, ?_⟩))
      go_meet
      case rel => exact ⟨_, (true), (by first | rfl | (simp; done) | (simp [*]; done)), H', ⟨by first | omega | exact Nat.le_refl _⟩, ⟨by repeat (first | (with_reducible first | exact HB.out | apply below_alloc | apply pw_below_drewN | apply below_drew1) | exact HB.out)⟩⟩
  case rest =>
    clear HC4
    try clear c1
    try clear p1
    try clear q1
    try clear hx1
    try clear qi1
    try clear c2
    try clear p2
    try clear c3
    try clear c6
    try clear c7
    try clear c7b0
    try clear c7b1
    try clear hx138_0
    try clear p138
    try clear q138
    obtain ⟨kq, x21_3, rfl, HA, HJ3, HB⟩ := hcut
    cases kq with
    | zero => exact absurd HA.out (by simp [spec_SeriesInto.j0])
    | succ kj3 =>
      have H := HA.out
      clear HA
      simp only [spec_SeriesInto.j0] at H
      by_cases c8 : x21_3 = true
      · subst c8
        have H1 : (some (([] : List Int), false)) = some (r1, r2) := by rw [if_pos rfl] at H; exact H
        clear H
        have H := H1
        clear H1
        simp only [Option.some.injEq, Prod.mk.injEq] at H
        obtain ⟨rfl, rfl⟩ := H
        go_wp2
        go_ret2
        exact ⟨_, by first | rfl | (simp [errW_none, errW_some] <;> rfl) | (simp [*, errW_none, errW_some] <;> rfl), by first | exact Kd.R_nil _ _ _ _ _ | exact Kd.N_nil _ _ _ _ _ | exact Kd.V_nil _ _ _ _ _ | exact Kd.Q_nil _ _ _ _ _ | exact Kd.S_nil _ _ _ _ _, by repeat (first | (with_reducible first | exact HB.out | apply below_alloc | apply pw_below_drewN | apply below_drew1) | exact HB.out)⟩
      · replace c8 := Bool.eq_false_iff.mpr c8
        subst c8
        have H1 : (spec_SeriesInto.l0 kj3 a0 l1 l2 (([] : List Int)) 0) = some (r1, r2) := by rw [if_neg (show ¬ (false = true) by decide)] at H; exact H
        clear H
        have H := H1
        clear H1
        obtain ⟨y139, hy139⟩ : ∃ y_ : List Int, y_ = (([] : List Int)) := ⟨_, rfl⟩
        replace H : (spec_SeriesInto.l0 kj3 a0 l1 l2 y139 0) = some (r1, r2) := by first | (rw [hy139]; with_reducible exact H) | (have H2_ := (Option.bind_some _ _).symm.trans H; rw [hy139]; with_reducible exact H2_) | (have H2_ := (Option.bind_some _ _).symm.trans H; with_reducible exact H2_) | with_reducible exact H | (rw [hy139]; exact H) | exact H
        have Ny139 := Aside0.mk hy139
        clear hy139
        have H' := Aside0.mk H
        clear H
        go_wp2_with (first | ((with_reducible refine gate_dst (N := 22) rfl ?_); refine Kd.R_lit (Kd.int .i64) _ 3 ?hg (N := 22) ?hd (xs := ([] : List Int)) (inner := []) (ok := fun _ => True) (okp := fun _ => True) ?hr ?hp (fun _ hk => hk) trivial (Below.refl _ _) (Nat.le_refl _) (by simp) ?_; (case hd => rfl); (case hg => rfl); (case hr => first | (go_simp; done) | (go_simp; rfl)); (case hp => exact (Reps.none _ _)); intro v140 w9 ho10 hb hg_ hnew_; clear hg_ hnew_; (first | rw [← Ny139.out] at ho10 | (simp only [Int.reduceToNat] at ho10; rw [← Ny139.out] at ho10)); have n0_ := Aside0.mk (Kd.R_lower ho10 (below_size (by repeat (first | (with_reducible first | exact HB.out | apply below_alloc | apply pw_below_drewN | apply below_drew1) | exact HB.out)))); have n1_ := Aside0.mk (below_step (by repeat (first | (with_reducible first | exact HB.out | apply below_alloc | apply pw_below_drewN | apply below_drew1) | exact HB.out)) hb); clear HB; have HO141 := n0_; have HB := n1_; clear n0_ n1_; clear hb ho10))
        go_loopg [8, 9] kj3 (fun kq v8 v9 w' => ∃ (x8_2 : List Int) (x9_2 : Int), v9 = .int .i64 x9_2 ∧ Aside0 (spec_SeriesInto.l0 kq a0 l1 l2 x8_2 x9_2 = some (r1, r2)) ∧ Aside0 (kq ≤ kj3) ∧ Aside0 (Kd.R (Kd.int .i64) 3 w' w.heap.size (fun _ => True) v8 x8_2) ∧ Aside0 (Below w.heap.size w w'))
        case atStart => exact ⟨(y139), (0), (by first | rfl | (simp; done) | (simp [*]; done)), H', ⟨Nat.le_refl _⟩, ⟨by (with_reducible repeat (first | apply Kd.R_alloc | apply Kd.R_drewN | apply Kd.R_drew)); exact HO141.out⟩, ⟨by repeat (first | (with_reducible first | exact HB.out | apply below_alloc | apply pw_below_drewN | apply below_drew1) | exact HB.out)⟩⟩
        case round =>
          clear H'
          try clear c1
          try clear p1
          try clear q1
          try clear hx1
          try clear qi1
          try clear c2
          try clear p2
          try clear c3
          try clear c6
          try clear c7
          try clear c7b0
          try clear c7b1
          try clear c8
          try clear hx138_0
          try clear p1
          try clear p138
          try clear p2
          try clear q1
          try clear q138
          obtain ⟨x8_2, x9_2, rfl, HA, HK2, HO_8, HB⟩ := hrel
          cases gk with
          | zero => exact absurd HA.out (by simp [spec_SeriesInto.l0])
          | succ k2 =>
            have H := HA.out
            clear HA
            simp only [spec_SeriesInto.l0] at H
            by_cases c11 : x9_2 < (l1.length : Int)
            · rw [if_pos c11] at H
              have c11b0 : decide (x9_2 < (l1.length : Int)) = true := decide_eq_true c11
              clear c11
              by_cases c12 : x8_2.length < 17592186044416
              · rw [if_pos c12] at H
                have LMc12 := Aside0.mk c12
                clear c12
                obtain ⟨y142, hy142⟩ : ∃ y_ : List Int, y_ = (x8_2 ++ [0]) := ⟨_, rfl⟩
                replace H : (spec_SeriesInto.l0 k2 a0 l1 l2 y142 (wrap64 (x9_2 + 1))) = some (r1, r2) := by first | (rw [hy142]; with_reducible exact H) | (have H2_ := (Option.bind_some _ _).symm.trans H; rw [hy142]; with_reducible exact H2_) | (have H2_ := (Option.bind_some _ _).symm.trans H; with_reducible exact H2_) | with_reducible exact H | (rw [hy142]; exact H) | exact H
                have Ny142 := Aside0.mk hy142
                clear hy142
                have H' := Aside0.mk H
                clear H
                go_wp2_with (first | ((with_reducible refine gate_builtin (b := .append) (xs := #[.tmp 29, .tmp 30]) rfl ?_); at_builtin; refine Kd.R_append (Kd.int .i64) (w0 := w) w.heap.size rfl (.tmp 29) (.tmp 30) 24 3 (.int .i64 0) 8 rfl Try.underlying24 info3 rfl (by decide) (by omega) u8 x8_2 0 [.int .i64 0] (fun _ => True) (fun _ => False) rfl rfl ?aP (fun _ hk => hk.elim) ?aF ?aO ?aB ?aS ?aL ?_; (case aP => exact rfl); (case aB => exact (by repeat (first | (with_reducible first | exact HB.out | apply below_alloc | apply pw_below_drewN | apply below_drew1) | exact HB.out))); (case aF => exact (fun _ _ => trivial)); (case aO => exact (by (with_reducible repeat (first | apply Kd.R_alloc | apply Kd.R_drewN | apply Kd.R_drew)); exact HO_8.out)); (case aS => exact (below_size (by repeat (first | (with_reducible first | exact HB.out | apply below_alloc | apply pw_below_drewN | apply below_drew1) | exact HB.out)))); (case aL => have := LMc12.out; omega); intro v143 w13 ho hb hg hat; rw [← Ny142.out] at ho; have n0_ := Aside0.mk (hb); have n1_ := Aside0.mk (ho); clear HB; clear HO_8; have HB := n0_; have HO144 := n1_; clear n0_ n1_; clear ho hb hg hat))
                go_roundg k2
                case measure => have := HJ3.out; have := HK2.out; omega
                case rel => exact ⟨(y142), (wrap64 (x9_2 + 1)), (by first | rfl | (simp; done) | (simp [*]; done)), H', ⟨by have := HJ3.out; have := HK2.out; omega⟩, ⟨by (with_reducible repeat (first | apply Kd.R_alloc | apply Kd.R_drewN | apply Kd.R_drew)); exact HO144.out⟩, ⟨by repeat (first | (with_reducible first | exact HB.out | apply below_alloc | apply pw_below_drewN | apply below_drew1) | exact HB.out)⟩⟩
              · rw [if_neg c12] at H
                exact absurd H (by simp)
            · rw [if_neg c11] at H
              have c11b0 : decide (x9_2 < (l1.length : Int)) = false := decide_eq_false c11
              clear c11
              have H' := Aside0.mk H
              clear H
              go_wp2
              go_loopg [8, 10] k2 (fun kq v8 v10 w' => ∃ (x8_3 : List Int) (x10_3 : Int), v10 = .int .i64 x10_3 ∧ Aside0 (spec_SeriesInto.l1 kq a0 l1 l2 x8_3 x10_3 = some (r1, r2)) ∧ Aside0 (kq ≤ k2) ∧ Aside0 (Kd.R (Kd.int .i64) 3 w' w.heap.size (fun _ => True) v8 x8_3) ∧ Aside0 (Below w.heap.size w w'))
              case atStart => exact ⟨(x8_2), (wrap64 ((l1.length : Int) - 1)), (by first | rfl | (simp; done) | (simp [*]; done)), H', ⟨Nat.le_refl _⟩, ⟨by (with_reducible repeat (first | apply Kd.R_alloc | apply Kd.R_drewN | apply Kd.R_drew)); exact HO_8.out⟩, ⟨by repeat (first | (with_reducible first | exact HB.out | apply below_alloc | apply pw_below_drewN | apply below_drew1) | exact HB.out)⟩⟩
              case round =>
                clear H'
                try clear c1
                try clear p1
                try clear q1
                try clear hx1
                try clear qi1
                try clear c2
                try clear p2
                try clear c3
                try clear c6
                try clear p6
                try clear c7
                try clear c7b0
                try clear c7b1
                try clear c8
                try clear c11
                try clear c11b0
                try clear c12
                try clear p13
                try clear q13
                try clear hx13
                try clear qi13
                try clear hx138_0
                try clear p1
                try clear p138
                try clear p2
                try clear q1
                try clear q138
                obtain ⟨x8_3, x10_3, rfl, HA, HK3, HO_8, HB⟩ := hrel
                cases gk with
                | zero => exact absurd HA.out (by simp [spec_SeriesInto.l1])
                | succ k3 =>
                  have H := HA.out
                  clear HA
                  simp only [spec_SeriesInto.l1] at H
                  by_cases c14 : x10_3 ≥ 0
                  · rw [if_pos c14] at H
                    have c14b0 : decide (0 ≤ x10_3) = true := decide_eq_true c14
                    clear c14
                    replace H := Option.bind_eq_some_iff.mp H
                    obtain ⟨t145, A150, H⟩ := H
                    replace H : (if 0 < (t145.length : Int) then (if 0 ≤ x10_3 then (if x10_3 < (l1.length : Int) then ((spec_Add.f a0 (rd t145 0) (rd l1 x10_3)).bind fun t150 => (spec_SeriesInto.l1 k3 a0 l1 l2 (t145.set (0 : Int).toNat t150) (wrap64 (x10_3 - 1)))) else (none)) else (none)) else (none)) = some (r1, r2) := H
                    have A15 := Aside0.mk A150
                    clear A150
                    by_cases c16 : 0 < (t145.length : Int)
                    · rw [if_pos c16] at H
                      have c16b0 : decide (0 < (t145.length : Int)) = true := decide_eq_true c16
                      have c16b1 : decide (0 < t145.length) = true := decide_eq_true (by omega)
                      clear c16
                      by_cases c17 : 0 ≤ x10_3
                      · rw [if_pos c17] at H
                        have c17b0 : decide (0 ≤ x10_3) = true := decide_eq_true c17
                        clear c17
                        by_cases c18 : x10_3 < (l1.length : Int)
                        · rw [if_pos c18] at H
                          have c18b0 : decide (x10_3 < (l1.length : Int)) = true := decide_eq_true c18
                          clear c18
                          replace H := Option.bind_eq_some_iff.mp H
                          obtain ⟨t150, A190, H⟩ := H
                          replace H : (spec_SeriesInto.l1 k3 a0 l1 l2 (t145.set (0 : Int).toNat t150) (wrap64 (x10_3 - 1))) = some (r1, r2) := H
                          have A19 := Aside0.mk A190
                          clear A190
                          obtain ⟨y151, hy151⟩ : ∃ y_ : List Int, y_ = (t145.set (0 : Int).toNat t150) := ⟨_, rfl⟩
                          replace H : (spec_SeriesInto.l1 k3 a0 l1 l2 y151 (wrap64 (x10_3 - 1))) = some (r1, r2) := by first | (rw [hy151]; with_reducible exact H) | (have H2_ := (Option.bind_some _ _).symm.trans H; rw [hy151]; with_reducible exact H2_) | (have H2_ := (Option.bind_some _ _).symm.trans H; with_reducible exact H2_) | with_reducible exact H | (rw [hy151]; exact H) | exact H
                          have Ny151 := Aside0.mk hy151
                          clear hy151
                          have H' := Aside0.mk H
                          clear H
                          obtain ⟨Ao21, co21, eo21⟩ := Kd.R_slice HO_8.out
                          subst eo21
                          try go_wp2_with (first | ((with_reducible refine gate_callee (f := 25) rfl ?_); refine goesL_ (some 42) rfl rfl Try.func25 (by kernel_rfl) rfl #[.int .i64 a0, .slice Ao21 x8_3.length co21, .slice A2 l2.length c2] rfl (by (try simp only [List.map_toArray, List.map_cons, List.map_nil]); first | done | rfl | (simp only [List.length_drop, List.length_take]; rfl)) ?_; (with_reducible refine (spec_SeriesMul.calls k3 a0 _ _ x8_3 _ _ l2 t145 _ ?side1 ?side2 ?side3 ?side4 A15.out).mono ?_); (case side1 => repeat (first | exact (Kd.R_reads' HO_8.out).2.2 | (with_reducible refine Kd.C_alloc ?_ _) | (with_reducible refine Kd.C_drewN ?_ _) | (with_reducible refine Kd.C_drew ?_))); (case side2 => exact (Kd.R_reads' HO_8.out).2.1); (case side3 => repeat (first | exact (Kd.C_below HR2.out HB.out) | (with_reducible refine Kd.C_alloc ?_ _) | (with_reducible refine Kd.C_drewN ?_ _) | (with_reducible refine Kd.C_drew ?_))); (case side4 => exact HC2.out); rintro e w22 ⟨v146, rfl, ho0, hb⟩; refine ⟨_, rfl, ?_⟩; have n0_ := Aside0.mk (Kd.R_elder' (by (with_reducible repeat (first | apply Kd.R_alloc | apply Kd.R_drewN | apply Kd.R_drew)); exact HO_8.out) (Kd.R_base ho0) hb); have n1_ := Aside0.mk (Kd.R_lower (Kd.R_new' ho0 (Kd.R_lt (by (with_reducible repeat (first | apply Kd.R_alloc | apply Kd.R_drewN | apply Kd.R_drew)); exact HO_8.out))) (below_size (by repeat (first | (with_reducible first | exact HB.out | apply below_alloc | apply pw_below_drewN | apply below_drew1) | exact HB.out)))); have n2_ := Aside0.mk (below_step (by repeat (first | (with_reducible first | exact HB.out | apply below_alloc | apply pw_below_drewN | apply below_drew1) | exact HB.out)) hb); clear HO_8; clear HB; have HO_8 := n0_; have HO147 := n1_; have HB := n2_; clear n0_ n1_ n2_; (try clear hb); (try clear hb2); (try clear hk); (try clear hi); (try clear ho0)))
                          have n0_ := Aside0.mk (Kd.R_drew HO_8.out)
                          have n1_ := Aside0.mk (Kd.R_drew HO147.out)
                          have n2_ := Aside0.mk (below_drew1 HB.out)
                          clear HO_8
                          clear HO147
                          clear HB
                          have HO_8 := n0_
                          have HO147 := n1_
                          have HB := n2_
                          clear n0_ n1_ n2_
                          obtain ⟨Ao24, co24, eo24⟩ := Kd.R_slice HO147.out
                          (first | subst eo24 | (injection eo24 with f1_ f2_ f3_; have f4_ := f1_.symm; have f5_ := f3_.symm; clear f1_ f2_ f3_; subst f4_; subst f5_))
                          have p148 : 0 ≤ (0 : Int) := (by omega)
                          have q148 : 0 < (t145.length : Int) := of_decide_eq_true (by first | (with_reducible assumption) | assumption)
                          obtain ⟨ad148, e148, hx148_0⟩ := Kd.at_int (Kd.R_reads' HO147.out).2.2 0 p148 q148
                          cases e148
                          have qi148 : (0 < t145.length) = True := eq_true (by omega)
                          (try rw [show ((0 : Int)).toNat = 0 from rfl] at hx148_0)
                          (try rw [Addr.add_zero'] at hx148_0)
                          replace p148 := eq_true p148
                          replace q148 := eq_true q148
                          have p149 : 0 ≤ (x10_3 : Int) := of_decide_eq_true (by first | (with_reducible assumption) | assumption)
                          have q149 : x10_3 < (l1.length : Int) := of_decide_eq_true (by first | (with_reducible assumption) | assumption)
                          obtain ⟨ad149, e149, hx149_0⟩ := Kd.at_int HR1.out x10_3 p149 q149
                          have hw149_0 := hx149_0
                          cases e149
                          replace hx149_0 := (HB.out.cell (World.block_lt_of_cell? w _ hx149_0)).trans hx149_0
                          replace p149 := eq_true p149
                          replace q149 := eq_true q149
                          refine start_ (n := 12) (S := fun w' => w'.cell? ad148 = some (.int .i64 (rd t145 0)) ∧ w'.cell? (ad149.add (x10_3).toNat) = some (.int .i64 (rd l1 x10_3))) (ds := [11]) #[false, false, false, false, false, false, false, false, false, false, false, false] (by kernel_rfl) rfl rfl ⟨hx148_0, ((HB.out.cell (World.block_lt_of_cell? w _ hw149_0)).trans hw149_0)⟩ (fun hHeld => ?_); refine with_tabW spec_SeriesInto.tab12 spec_SeriesInto.bits12 (fun HT_ HW_ => ?_)
                          generalize w22.drew = w23 at HO_8 HO147 HB hx148_0 hx149_0 hHeld ⊢
                          refine pure_ (i := 0) (N := some 43) (v := ?_) (a' := ?_) #[true, false, false, false, false, false, false, false, false, false, false, false] rfl rfl (any_of HT_.out (by kernel_rfl)) (fun _ _ _ h => h) (Or.inl ⟨by rfl, ?_⟩) ?_ ?_
                          rotate_left
                          · intro w'
                            go_simp
                            with_reducible rfl
                          rotate_left
                          · simp only [Act.put, List.setIfInBounds_toArray, List.set_cons_zero, List.set_cons_succ, i64_w, i32_w]
                            rfl
                          refine pure_ (i := 1) (N := some 44) (v := ?_) (a' := ?_) #[true, true, false, false, false, false, false, false, false, false, false, false] rfl rfl (any_of HT_.out (by kernel_rfl)) (fun _ _ _ h => h) (Or.inl ⟨by rfl, ?_⟩) ?_ ?_
                          rotate_left
                          · intro w'
                            go_simp
                            with_reducible rfl
                          rotate_left
                          · simp only [Act.put, List.setIfInBounds_toArray, List.set_cons_zero, List.set_cons_succ, i64_w, i32_w]
                            rfl
                          refine pure_ (i := 2) (N := some 45) (v := ?_) (a' := ?_) #[true, true, true, false, false, false, false, false, false, false, false, false] rfl rfl (any_of HT_.out (by kernel_rfl)) (fun _ _ _ h => h) (Or.inl ⟨by rfl, ?_⟩) ?_ ?_
                          rotate_left
                          · intro w'
                            go_simp
                            with_reducible rfl
                          rotate_left
                          · simp only [Act.put, List.setIfInBounds_toArray, List.set_cons_zero, List.set_cons_succ, i64_w, i32_w]
                            rfl
                          refine pure_ (i := 3) (N := some 46) (v := ?_) (a' := ?_) #[true, true, true, true, false, false, false, false, false, false, false, false] rfl rfl (any_of HT_.out (by kernel_rfl)) (fun _ _ _ h => h) (Or.inl ⟨by rfl, ?_⟩) ?_ ?_
                          rotate_left
                          · intro w'
                            go_simp
                            with_reducible rfl
                          rotate_left
                          · simp only [Act.put, List.setIfInBounds_toArray, List.set_cons_zero, List.set_cons_succ, i64_w, i32_w]
                            rfl
                          refine pure_ (i := 5) (N := some 48) (v := ?_) (a' := ?_) #[true, true, true, true, false, true, false, false, false, false, false, false] rfl rfl (any_of HT_.out (by kernel_rfl)) (fun _ _ _ h => h) (Or.inl ⟨by rfl, ?_⟩) ?_ ?_
                          rotate_left
                          · intro w'
                            go_simp
                            with_reducible rfl
                          rotate_left
                          · simp only [Act.put, List.setIfInBounds_toArray, List.set_cons_zero, List.set_cons_succ, i64_w, i32_w]
                            rfl
                          refine pure_ (i := 6) (N := some 49) (v := ?_) (a' := ?_) #[true, true, true, true, false, true, true, false, false, false, false, false] rfl rfl (any_of HT_.out (by kernel_rfl)) (fun _ _ _ h => h) (Or.inl ⟨by rfl, ?_⟩) ?_ ?_
                          rotate_left
                          · intro w'
                            go_simp
                            with_reducible rfl
                          rotate_left
                          · simp only [Act.put, List.setIfInBounds_toArray, List.set_cons_zero, List.set_cons_succ, i64_w, i32_w]
                            rfl
                          refine pure_ (i := 7) (N := some 50) (v := ?_) (a' := ?_) #[true, true, true, true, false, true, true, true, false, false, false, false] rfl rfl (any_of HT_.out (by kernel_rfl)) (fun _ _ _ h => h) (Or.inl ⟨by rfl, ?_⟩) ?_ ?_
                          rotate_left
                          · intro w'
                            go_simp
                            with_reducible rfl
                          rotate_left
                          · simp only [Act.put, List.setIfInBounds_toArray, List.set_cons_zero, List.set_cons_succ, i64_w, i32_w]
                            rfl
                          refine take_ (i := 4) (N := some 47) (v := ?_) (a' := ?_) #[true, true, true, true, true, true, true, true, false, false, false, false] rfl rfl (take_ofW HT_.out HW_.out (by kernel_rfl)) (fun _ _ _ h => h) (Or.inl ⟨by rfl, ?_⟩) hHeld ?_ ?_
                          rotate_left
                          · rintro w' ⟨s0, s1⟩
                            go_simp
                            with_reducible rfl
                          rotate_left
                          · simp only [Act.put, List.setIfInBounds_toArray, List.set_cons_zero, List.set_cons_succ, i64_w, i32_w]
                            rfl
                          refine take_ (i := 8) (N := some 51) (v := ?_) (a' := ?_) #[true, true, true, true, true, true, true, true, true, false, false, false] rfl rfl (take_ofW HT_.out HW_.out (by kernel_rfl)) (fun _ _ _ h => h) (Or.inl ⟨by rfl, ?_⟩) hHeld ?_ ?_
                          rotate_left
                          · rintro w' ⟨s0, s1⟩
                            go_simp
                            with_reducible rfl
                          rotate_left
                          · simp only [Act.put, List.setIfInBounds_toArray, List.set_cons_zero, List.set_cons_succ, i64_w, i32_w]
                            rfl
                          refine one_ (i := 9) (N := some 52) #[true, true, true, true, true, true, true, true, true, true, false, false] rfl rfl (one_of HT_.out (by kernel_rfl)) (by decide) (fun K hK => ?_)
                          refine goes_ Try.func65 (by kernel_rfl) rfl #[.int .i64 a0, .int .i64 (rd t145 0), .int .i64 (rd l1 x10_3)] (by rfl) rfl rfl (by (try simp only [List.map_toArray, List.map_cons, List.map_nil]); first | done | rfl | (simp only [List.length_drop, List.length_take]; rfl)) ?_
                          with_reducible refine (spec_Add.calls a0 (rd t145 0) (rd l1 x10_3) t150 _ A19.out).mono ?_
                          rintro e w' ⟨rfl, ⟨nd, rfl⟩⟩
                          refine ⟨_, rfl, ?_⟩
                          have p20 : 0 ≤ (0 : Int) := (by omega)
                          have q20 : (0 : Int) < ((t145.length : Int) : Int) := of_decide_eq_true (by first | (with_reducible assumption) | assumption)
                          have qi20 : (0 < t145.length) = True := eq_true (by omega)
                          obtain ⟨go20, co20, eo20, gb20, gl20, cl20, HG20⟩ := Kd.R_form HO147.out (by omega)
                          (first | cases eo20 | (injection eo20 with ea_ en_ ec_; (first | subst ea_ | (injection ea_ with ea_; subst ea_)); subst ec_; clear en_))
                          have GB20 := Aside0.mk gb20
                          have GG20 := Aside0.mk HG20
                          clear gb20 gl20 HG20
                          (first | simp only [add_plain] at hx148_0 | skip)
                          obtain ⟨hx20_0, hf20_0⟩ := Kd.R_celln 0 HO147.out (0 : Int) p20 q20
                          (try rw [show ((0 : Int)).toNat = 0 from rfl] at hx20_0)
                          (try simp only [Nat.reduceMul, Nat.zero_mul, Nat.zero_add, Nat.reduceAdd] at hx20_0)
                          (try rw [show ((0 : Int)).toNat = 0 from rfl] at hf20_0)
                          (try simp only [Nat.reduceMul, Nat.zero_mul, Nat.zero_add, Nat.reduceAdd] at hf20_0)
                          replace p20 := eq_true p20
                          replace q20 := eq_true q20
                          have HP25 := Kd.R_putn HO147.out (0 : Int) t150
                          rw [← Ny151.out] at HP25
                          have HQ25 := Aside0.mk HP25
                          clear HP25
                          refine hK.out _ _ ⟨hHeld.1, ((HB.out.cell (World.block_lt_of_cell? w _ hw149_0)).trans hw149_0)⟩ (fun hHeld => ?_)
                          clear hK K
                          refine norm_ (a' := ?_) ?_ ?_
                          rotate_left
                          · show Act.put _ (some 52) _ = _
                            simp only [Act.put, List.setIfInBounds_toArray, List.set_cons_zero, List.set_cons_succ, i64_w, i32_w]
                            rfl
                          refine pure_ (i := 10) (N := some 53) (v := ?_) (a' := ?_) #[true, true, true, true, true, true, true, true, true, true, true, false] rfl rfl (any_of HT_.out (by kernel_rfl)) (fun _ _ _ h => h) (Or.inl ⟨by rfl, ?_⟩) ?_ ?_
                          rotate_left
                          · intro w'
                            go_simp
                            with_reducible rfl
                          rotate_left
                          · simp only [Act.put, List.setIfInBounds_toArray, List.set_cons_zero, List.set_cons_succ, i64_w, i32_w]
                            rfl
                          refine last_ (i := 11) (N := none) #[true, true, true, true, true, true, true, true, true, true, true, true] rfl rfl (one_of HT_.out (by kernel_rfl)) (by decide) (fun K hK => ?_)
                          refine skip_ (w1 := ?_) (by rfl) rfl ?_ ?_
                          rotate_left
                          · go_simp
                            rfl
                          refine hK.out _ _ ?_
                          clear hK K
                          refine done_ (done_of HT_.out (by kernel_rfl)) ?_
                          try go_wp2
                          go_roundg k3
                          case measure => have := HJ3.out; have := HK2.out; have := HK3.out; omega
                          case rel => exact ⟨(y151), (wrap64 (x10_3 - 1)), (by first | rfl | (simp; done) | (simp [*]; done)), H', ⟨by have := HJ3.out; have := HK2.out; have := HK3.out; omega⟩, ⟨by (with_reducible repeat (first | apply Kd.R_alloc | apply Kd.R_drewN | apply Kd.R_drew)); exact Kd.R_mono HQ25.out (fun _ hk => trivial)⟩, ⟨by repeat (first | (with_reducible first | exact HB.out | apply below_alloc | apply pw_below_drewN | apply below_drew1 | refine below_set ?_ GB20.out) | exact HB.out)⟩⟩
                        · rw [if_neg c18] at H
                          exact absurd H (by simp)
                      · rw [if_neg c17] at H
                        exact absurd H (by simp)
                    · rw [if_neg c16] at H
                      exact absurd H (by simp)
                  · rw [if_neg c14] at H
                    have c14b0 : decide (0 ≤ x10_3) = false := decide_eq_false c14
                    clear c14
                    simp only [Option.some.injEq, Prod.mk.injEq] at H
                    obtain ⟨rfl, rfl⟩ := H
                    go_wp2
                    go_ret2
                    exact ⟨_, by first | rfl | (simp [errW_none, errW_some] <;> rfl) | (simp [*, errW_none, errW_some] <;> rfl), by (with_reducible repeat (first | apply Kd.R_alloc | apply Kd.R_drewN | apply Kd.R_drew)); exact HO_8.out, by repeat (first | (with_reducible first | exact HB.out | apply below_alloc | apply pw_below_drewN | apply below_drew1) | exact HB.out)⟩

/-! ### impl_field_areElements: function 93 -/
def impl_field_areElements.l0 : Nat → List Int → Int → Int → Int → Int → Int → Option (Bool)
  | 0, _, _, _, _, _, _ => none
  | k + 1, x7, x8, x9, x153000, x153001, x153002 => if x9 < x8 then (if 0 ≤ x9 then (if x9 < (x7.length : Int) then (if (rd x7 x9) < 0 then (some false) else (if (rd x7 x9) ≥ x153000 then (some false) else (impl_field_areElements.l0 k x7 x8 (wrap64 (x9 + 1)) x153000 x153001 x153002))) else (none)) else (none)) else (some true)
def impl_field_areElements.f (k : Nat) (a0_0 : Int) (a0_1 : Int) (a0_2 : Int) (l1 : List Int) : Option (Bool) := impl_field_areElements.l0 k l1 (l1.length : Int) 0 a0_0 a0_1 a0_2
theorem impl_field_areElements.mono_l : ∀ k, (∀ y0 y1 y2 y3 y4 y5, LeO (impl_field_areElements.l0 k y0 y1 y2 y3 y4 y5) (impl_field_areElements.l0 (k + 1) y0 y1 y2 y3 y4 y5))
  | 0 => fun _ _ _ _ _ _ r h => by simp [impl_field_areElements.l0] at h
  | k + 1 => by
    have ih0 := impl_field_areElements.mono_l k
    · intro y0 y1 y2 y3 y4 y5
      unfold impl_field_areElements.l0
      repeat' first
      | (with_reducible exact ih0 _ _ _ _ _ _)
      | (with_reducible exact LeO.refl _)
      | (with_reducible exact LeO.none _)
      | (with_reducible refine LeO.ite ?_ ?_)
      | (with_reducible refine LeO.bind ?_ (fun _ => ?_))
      | exact ih0 _ _ _ _ _ _
      | exact LeO.none _
      | refine LeO.ite ?_ ?_
      | refine LeO.bind ?_ (fun _ => ?_)
theorem impl_field_areElements.mono : ∀ a0 a1 a2 a3 k, LeO (impl_field_areElements.f k a0 a1 a2 a3) (impl_field_areElements.f (k + 1) a0 a1 a2 a3) := by
  intro a0 a1 a2 a3 k
  have ih0 := impl_field_areElements.mono_l k
  unfold impl_field_areElements.f
  repeat' first
      | (with_reducible exact ih0 _ _ _ _ _ _)
      | (with_reducible exact LeO.refl _)
      | (with_reducible exact LeO.none _)
      | (with_reducible refine LeO.ite ?_ ?_)
      | (with_reducible refine LeO.bind ?_ (fun _ => ?_))
      | exact ih0 _ _ _ _ _ _
      | exact LeO.none _
      | refine LeO.ite ?_ ?_
      | refine LeO.bind ?_ (fun _ => ?_)
set_option maxHeartbeats 8000000 in
set_option maxRecDepth 100000 in
theorem impl_field_areElements.calls (k : Nat) (a0_0 : Int) (a0_1 : Int) (a0_2 : Int) (A1 : Option Addr) (c1 : Nat) (l1 : List Int) (r : Bool) (w : World) (hr1 : Kd.C (Kd.int .i64) w A1 l1.length l1) (hc1 : l1.length ≤ c1) (h : impl_field_areElements.f k a0_0 a0_1 a0_2 l1 = some r) :
    Calls Try.prog 93 #[.agg #[.int .i64 a0_0, .int .i64 a0_1, .int .i64 a0_2], .slice A1 l1.length c1] w fun e w' => e = .returned (.bool r) ∧ Below w.heap.size w w' := by
  have hu44 := Try.underlying44
  have HR1 := Aside0.mk hr1
  have HC1 := Aside0.mk hc1
  clear hr1 hc1
  have HB := Aside0.mk (Below.refl w.heap.size w)
  have H : (impl_field_areElements.l0 k l1 (l1.length : Int) 0 a0_0 a0_1 a0_2) = some r := h
  clear h
  have H' := Aside0.mk H
  clear H
  go_enter Try.func93, Try.ntmps93
  go_wp2_with (first | ((with_reducible refine gate_dst (N := 2) rfl ?_); refine box_event ?hg (N := 2) ?hd (cs := #[.int .i64 a0_0, .int .i64 a0_1, .int .i64 a0_2]) (t := 44) ?hr ?_; (case hd => rfl); (case hg => rfl); (case hr => first | (go_simp; done) | (go_simp; rfl)); intro gb152 hg w3 hbox hb; have n0_ := Aside0.mk (below_step (by repeat (first | (with_reducible first | exact HB.out | apply below_alloc | apply pw_below_drewN | apply below_drew1) | exact HB.out)) hb); have n1_ := Aside0.mk (hbox); have n2_ := Aside0.mk ((by rw [hg]; exact (below_size (by repeat (first | (with_reducible first | exact HB.out | apply below_alloc | apply pw_below_drewN | apply below_drew1) | exact HB.out))) : w.heap.size ≤ gb152)); have n3_ := Aside0.mk ((by rw [hg]; exact (below_size (by repeat (first | (with_reducible first | exact HB.out | apply below_alloc | apply pw_below_drewN | apply below_drew1) | exact HB.out))) : w.heap.size ≤ gb152)); clear HB; have HB := n0_; have BK152 := n1_; have GW152 := n2_; have GE152 := n3_; clear n0_ n1_ n2_ n3_; clear hb hbox hg))
  go_loopg [9] k (fun kq v9 w' => ∃ (x9_1 : Int), v9 = .int .i64 x9_1 ∧ Aside0 (impl_field_areElements.l0 kq l1 (l1.length : Int) x9_1 a0_0 a0_1 a0_2 = some r) ∧ Aside0 (kq ≤ k) ∧ Aside0 (w'.heap[gb152]? = some (.cells #[.int .i64 a0_0, .int .i64 a0_1, .int .i64 a0_2] 44 (0, 0))) ∧ Aside0 (Below w.heap.size w w'))
  case atStart => exact ⟨(0), (by first | rfl | (simp; done) | (simp [*]; done)), H', ⟨Nat.le_refl _⟩, ⟨by (with_reducible repeat (first | refine blk_drewN ?_ _ | refine blk_drew ?_ | refine blk_alloc ?_ _)); exact BK152.out⟩, ⟨by repeat (first | (with_reducible first | exact HB.out | apply below_alloc | apply pw_below_drewN | apply below_drew1 | refine below_set ?_ GE152.out) | exact HB.out)⟩⟩
  case round =>
    clear H'
    try clear c1
    try clear p2
    obtain ⟨x9_1, rfl, HA, HK1, BK152, HB⟩ := hrel
    cases gk with
    | zero => exact absurd HA.out (by simp [impl_field_areElements.l0])
    | succ k1 =>
      have H := HA.out
      clear HA
      simp only [impl_field_areElements.l0] at H
      by_cases c4 : x9_1 < (l1.length : Int)
      · rw [if_pos c4] at H
        have c4b0 : decide (x9_1 < (l1.length : Int)) = true := decide_eq_true c4
        clear c4
        by_cases c5 : 0 ≤ x9_1
        · rw [if_pos c5] at H
          have c5b0 : decide (0 ≤ x9_1) = true := decide_eq_true c5
          clear c5
          by_cases c6 : x9_1 < (l1.length : Int)
          · rw [if_pos c6] at H
            have c6b0 : decide (x9_1 < (l1.length : Int)) = true := decide_eq_true c6
            clear c6
            by_cases c7 : (rd l1 x9_1) < 0
            · rw [if_pos c7] at H
              have c7b0 : decide ((rd l1 x9_1) < 0) = true := decide_eq_true c7
              clear c7
              obtain rfl := Option.some.inj H
              have p153 : 0 ≤ (x9_1 : Int) := of_decide_eq_true (by first | (with_reducible assumption) | assumption)
              have q153 : x9_1 < (l1.length : Int) := of_decide_eq_true (by first | (with_reducible assumption) | assumption)
              obtain ⟨ad153, e153, hx153_0⟩ := Kd.at_int HR1.out x9_1 p153 q153
              cases e153
              replace hx153_0 := (HB.out.cell (World.block_lt_of_cell? w _ hx153_0)).trans hx153_0
              replace p153 := eq_true p153
              replace q153 := eq_true q153
              go_wp2
              go_ret
              exact ⟨by first | rfl | (simp [errW_none, errW_some] <;> rfl) | (simp [*, errW_none, errW_some] <;> rfl), by repeat (first | (with_reducible first | exact HB.out | apply below_alloc | apply pw_below_drewN | apply below_drew1 | refine below_set ?_ GE152.out) | exact HB.out)⟩
            · rw [if_neg c7] at H
              have c7b0 : decide ((rd l1 x9_1) < 0) = false := decide_eq_false c7
              clear c7
              by_cases c8 : (rd l1 x9_1) ≥ a0_0
              · rw [if_pos c8] at H
                have c8b0 : decide (a0_0 ≤ (rd l1 x9_1)) = true := decide_eq_true c8
                clear c8
                obtain rfl := Option.some.inj H
                have p153 : 0 ≤ (x9_1 : Int) := of_decide_eq_true (by first | (with_reducible assumption) | assumption)
                have q153 : x9_1 < (l1.length : Int) := of_decide_eq_true (by first | (with_reducible assumption) | assumption)
                obtain ⟨ad153, e153, hx153_0⟩ := Kd.at_int HR1.out x9_1 p153 q153
                cases e153
                replace hx153_0 := (HB.out.cell (World.block_lt_of_cell? w _ hx153_0)).trans hx153_0
                replace p153 := eq_true p153
                replace q153 := eq_true q153
                have hcz9_0 : wr.cell? ⟨gb152, 0, none⟩ = some (.int .i64 a0_0) := (blk_cell BK152.out 0).trans rfl
                have hcz9_1 : wr.cell? ⟨gb152, 1, none⟩ = some (.int .i64 a0_1) := (blk_cell BK152.out 1).trans rfl
                have hcz9_2 : wr.cell? ⟨gb152, 2, none⟩ = some (.int .i64 a0_2) := (blk_cell BK152.out 2).trans rfl
                have hfz9_0 := blk_frozen BK152.out 0
                have hfz9_1 := blk_frozen BK152.out 1
                have hfz9_2 := blk_frozen BK152.out 2
                go_wp2
                go_ret
                exact ⟨by first | rfl | (simp [errW_none, errW_some] <;> rfl) | (simp [*, errW_none, errW_some] <;> rfl), by repeat (first | (with_reducible first | exact HB.out | apply below_alloc | apply pw_below_drewN | apply below_drew1 | refine below_set ?_ GE152.out) | exact HB.out)⟩
              · rw [if_neg c8] at H
                have c8b0 : decide (a0_0 ≤ (rd l1 x9_1)) = false := decide_eq_false c8
                clear c8
                have H' := Aside0.mk H
                clear H
                have p153 : 0 ≤ (x9_1 : Int) := of_decide_eq_true (by first | (with_reducible assumption) | assumption)
                have q153 : x9_1 < (l1.length : Int) := of_decide_eq_true (by first | (with_reducible assumption) | assumption)
                obtain ⟨ad153, e153, hx153_0⟩ := Kd.at_int HR1.out x9_1 p153 q153
                cases e153
                replace hx153_0 := (HB.out.cell (World.block_lt_of_cell? w _ hx153_0)).trans hx153_0
                replace p153 := eq_true p153
                replace q153 := eq_true q153
                have hcz10_0 : wr.cell? ⟨gb152, 0, none⟩ = some (.int .i64 a0_0) := (blk_cell BK152.out 0).trans rfl
                have hcz10_1 : wr.cell? ⟨gb152, 1, none⟩ = some (.int .i64 a0_1) := (blk_cell BK152.out 1).trans rfl
                have hcz10_2 : wr.cell? ⟨gb152, 2, none⟩ = some (.int .i64 a0_2) := (blk_cell BK152.out 2).trans rfl
                have hfz10_0 := blk_frozen BK152.out 0
                have hfz10_1 := blk_frozen BK152.out 1
                have hfz10_2 := blk_frozen BK152.out 2
                go_wp2
                go_roundg k1
                case measure => have := HK1.out; omega
                case rel => exact ⟨(wrap64 (x9_1 + 1)), (by first | rfl | (simp; done) | (simp [*]; done)), H', ⟨by have := HK1.out; omega⟩, ⟨by (with_reducible repeat (first | refine blk_drewN ?_ _ | refine blk_drew ?_ | refine blk_alloc ?_ _)); exact BK152.out⟩, ⟨by repeat (first | (with_reducible first | exact HB.out | apply below_alloc | apply pw_below_drewN | apply below_drew1 | refine below_set ?_ GE152.out) | exact HB.out)⟩⟩
          · rw [if_neg c6] at H
            exact absurd H (by simp)
        · rw [if_neg c5] at H
          exact absurd H (by simp)
      · rw [if_neg c4] at H
        have c4b0 : decide (x9_1 < (l1.length : Int)) = false := decide_eq_false c4
        clear c4
        obtain rfl := Option.some.inj H
        go_wp2
        go_ret
        exact ⟨by first | rfl | (simp [errW_none, errW_some] <;> rfl) | (simp [*, errW_none, errW_some] <;> rfl), by repeat (first | (with_reducible first | exact HB.out | apply below_alloc | apply pw_below_drewN | apply below_drew1 | refine below_set ?_ GE152.out) | exact HB.out)⟩

/-! ### impl_fieldOf: function 101 -/
def impl_fieldOf.f (a0 : Int) : Option (Int × Int × Int × Bool) := if a0 < 0 then (some (0, 0, 0, false)) else (if a0 ≥ 9 then (some (0, 0, 0, false)) else (if a0 = 0 then (some (17, 3, 4, true)) else (if a0 = 1 then (some (97, 5, 5, true)) else (if a0 = 2 then (some (193, 5, 6, true)) else (if a0 = 3 then (some (257, 3, 8, true)) else (if a0 = 4 then (some (7681, 17, 9, true)) else (if a0 = 5 then (some (12289, 11, 12, true)) else (if a0 = 6 then (some (998244353, 3, 23, true)) else (if a0 = 7 then (some (469762049, 3, 26, true)) else (some (1004535809, 3, 21, true)))))))))))
/- impl.fieldOf: its table is an array; one walk for each field, one for no field. -/
theorem fo_setRow {w : World} {g : Nat} {t : TypeId} {old cs : Array Value} (h : w.heap[g]? = some (.cells old t (0, 0))) : (w.setRow g cs).heap[g]? = some (.cells cs t (0, 0)) := setRow_heap w g old cs t (0, 0) h
theorem fo_setRow_ne {w : World} {g j : Nat} {cs : Array Value} (h : j ≠ g) : (w.setRow g cs).heap[j]? = w.heap[j]? := setRow_other w g j cs h
theorem fo_below {w W : World} {g : Nat} {cs : Array Value} (h : Below w.heap.size w W) (hg : w.heap.size ≤ g) : Below w.heap.size w (W.setRow g cs) :=
  h.trans ⟨rfl, rfl, rfl, by simp [World.setRow], fun k hk => fo_setRow_ne (by omega)⟩
theorem fo_store {P : Program} {ops : Array Oper} {rest : List Oper} {o : Oper} {a : Act} {Q : Exit → Act → World → Prop} {w W : World} (hgd : o.guard = none) (ty : TypeId) (x y : Operand) (ho : o.op = .store ty x y)
    (hd : o.dst = none) (g : Nat) (cells : Array Value) (hx : a.eval x = .pointer (some ⟨g, 0, none⟩)) (hy : a.eval y = .agg cells)
    (t : TypeId) (old : Array Value) (hg : W.heap[g]? = some (.cells old t (0, 0))) (hi : (P.info? ty).map (·.size) = some cells.size)
    (hold : old.size = cells.size) (h1 : cells.all (·.oneCell') = true) (hb : Below w.heap.size w W) (hgw : w.heap.size ≤ g)
    (h : ∀ w1 : World, w1.heap[g]? = some (.cells cells t (0, 0)) → Below w.heap.size w w1 → (∀ j, j ≠ g → w1.heap[j]? = W.heap[j]?) → wpList P ops Q rest a w1) : wpList P ops Q (o :: rest) a W :=
  wpList_store_row hgd ty x y ho g cells hx hy t old hg hi hold h1 (by rw [hd]; exact h _ (fo_setRow hg) (fo_below hb hgw) (fun j hj => fo_setRow_ne hj))

set_option maxHeartbeats 8000000 in
set_option maxRecDepth 100000 in
theorem fo_0 (w : World)  :
    Calls Try.prog 101 #[.int .i64 0] w fun e w' => e = .returned (.tuple #[.agg #[.int .i64 17, .int .i64 3, .int .i64 4], .bool true]) ∧ Below w.heap.size w w' := by
  have HB := Aside0.mk (Below.refl w.heap.size w)
  go_enter Try.func101, Try.ntmps101
  go_wp2_with (first | ((with_reducible refine gate_dst (N := 2) rfl ?_); refine box_event ?hg (N := 2) ?hd (cs := #[.int .i64 0, .int .i64 0, .int .i64 0]) (t := 44) ?hr ?_; (case hd => rfl); (case hg => rfl); (case hr => first | (go_simp; done) | (go_simp; rfl)); intro g2 hg wb2 hbox hb; have HB2 := Aside0.mk (below_step HB.out hb); have BK2 := Aside0.mk hbox; have GW2 := Aside0.mk (hg ▸ below_size HB.out : w.heap.size ≤ g2); clear HB; have HB := HB2; clear HB2 hb hbox hg) | ((with_reducible refine gate_dst (N := 4) rfl ?_); refine box_event ?hg (N := 4) ?hd (cs := #[.int .i64 0, .int .i64 0, .int .i64 0, .int .i64 0, .int .i64 0, .int .i64 0, .int .i64 0, .int .i64 0, .int .i64 0, .int .i64 0, .int .i64 0, .int .i64 0, .int .i64 0, .int .i64 0, .int .i64 0, .int .i64 0, .int .i64 0, .int .i64 0, .int .i64 0, .int .i64 0, .int .i64 0, .int .i64 0, .int .i64 0, .int .i64 0, .int .i64 0, .int .i64 0, .int .i64 0]) (t := 69) ?hr ?_; (case hd => rfl); (case hg => rfl); (case hr => first | (go_simp; done) | (go_simp; rfl)); intro g4 hg wb4 hbox hb; have BK2b := Aside0.mk (blk_below BK2.out hb); have NE := Aside0.mk (by rw [hg]; exact Nat.ne_of_lt (blk_lt BK2.out) : g2 ≠ g4); have HB4 := Aside0.mk (below_step HB.out hb); have BK4 := Aside0.mk hbox; have GW4 := Aside0.mk (hg ▸ below_size HB.out : w.heap.size ≤ g4); clear HB BK2; have HB := HB4; have BK2 := BK2b; clear HB4 BK2b hb hbox hg) | ((with_reducible refine gate_store (t := 69) (p := 4) rfl ?_); refine fo_store (w := w) rfl 69 (.tmp 4) (.tmp 14) rfl rfl g4 #[.int .i64 17, .int .i64 3, .int .i64 4, .int .i64 97, .int .i64 5, .int .i64 5, .int .i64 193, .int .i64 5, .int .i64 6, .int .i64 257, .int .i64 3, .int .i64 8, .int .i64 7681, .int .i64 17, .int .i64 9, .int .i64 12289, .int .i64 11, .int .i64 12, .int .i64 998244353, .int .i64 3, .int .i64 23, .int .i64 469762049, .int .i64 3, .int .i64 26, .int .i64 1004535809, .int .i64 3, .int .i64 21] rfl rfl 69 #[.int .i64 0, .int .i64 0, .int .i64 0, .int .i64 0, .int .i64 0, .int .i64 0, .int .i64 0, .int .i64 0, .int .i64 0, .int .i64 0, .int .i64 0, .int .i64 0, .int .i64 0, .int .i64 0, .int .i64 0, .int .i64 0, .int .i64 0, .int .i64 0, .int .i64 0, .int .i64 0, .int .i64 0, .int .i64 0, .int .i64 0, .int .i64 0, .int .i64 0, .int .i64 0, .int .i64 0] BK4.out (by kernel_rfl) (by kernel_rfl) (by kernel_rfl) HB.out GW4.out ?_; intro w5 hk hb5 hoth; have HB5 := Aside0.mk hb5; have BK2b := Aside0.mk ((hoth g2 NE.out).trans BK2.out); clear HB BK2 hb5 hoth; have HB := HB5; have BK2 := BK2b; clear HB5 BK2b; have c0 : w5.cell? ⟨g4, 0, none⟩ = some (.int .i64 17) := (blk_cell hk 0).trans rfl; have c1 : w5.cell? ⟨g4, 1, none⟩ = some (.int .i64 3) := (blk_cell hk 1).trans rfl; have c2 : w5.cell? ⟨g4, 2, none⟩ = some (.int .i64 4) := (blk_cell hk 2).trans rfl;  clear hk) | ((with_reducible refine gate_store (t := 44) (p := 2) rfl ?_); refine fo_store (w := w) rfl 44 (.tmp 2) (.tmp 24) rfl rfl g2 #[.int .i64 17, .int .i64 3, .int .i64 4] rfl rfl 44 #[.int .i64 0, .int .i64 0, .int .i64 0] BK2.out (by kernel_rfl) (by kernel_rfl) (by kernel_rfl) HB.out GW2.out ?_; intro w6 hk hb5 hoth; have HB5 := Aside0.mk hb5; have BK2b := Aside0.mk hk; clear HB BK2 hb5 hoth hk; have HB := HB5; have BK2 := BK2b; clear HB5 BK2b))
  refine bodyPost_ret (results_ct rfl _ _ g2 44 #[.int .i64 17, .int .i64 3, .int .i64 4] (0, 0) _ rfl BK2.out Try.underlying44 rfl (by kernel_rfl)) rfl ?_
  exact ⟨rfl, HB.out⟩

set_option maxHeartbeats 8000000 in
set_option maxRecDepth 100000 in
theorem fo_1 (w : World)  :
    Calls Try.prog 101 #[.int .i64 1] w fun e w' => e = .returned (.tuple #[.agg #[.int .i64 97, .int .i64 5, .int .i64 5], .bool true]) ∧ Below w.heap.size w w' := by
  have HB := Aside0.mk (Below.refl w.heap.size w)
  go_enter Try.func101, Try.ntmps101
  go_wp2_with (first | ((with_reducible refine gate_dst (N := 2) rfl ?_); refine box_event ?hg (N := 2) ?hd (cs := #[.int .i64 0, .int .i64 0, .int .i64 0]) (t := 44) ?hr ?_; (case hd => rfl); (case hg => rfl); (case hr => first | (go_simp; done) | (go_simp; rfl)); intro g2 hg wb2 hbox hb; have HB2 := Aside0.mk (below_step HB.out hb); have BK2 := Aside0.mk hbox; have GW2 := Aside0.mk (hg ▸ below_size HB.out : w.heap.size ≤ g2); clear HB; have HB := HB2; clear HB2 hb hbox hg) | ((with_reducible refine gate_dst (N := 4) rfl ?_); refine box_event ?hg (N := 4) ?hd (cs := #[.int .i64 0, .int .i64 0, .int .i64 0, .int .i64 0, .int .i64 0, .int .i64 0, .int .i64 0, .int .i64 0, .int .i64 0, .int .i64 0, .int .i64 0, .int .i64 0, .int .i64 0, .int .i64 0, .int .i64 0, .int .i64 0, .int .i64 0, .int .i64 0, .int .i64 0, .int .i64 0, .int .i64 0, .int .i64 0, .int .i64 0, .int .i64 0, .int .i64 0, .int .i64 0, .int .i64 0]) (t := 69) ?hr ?_; (case hd => rfl); (case hg => rfl); (case hr => first | (go_simp; done) | (go_simp; rfl)); intro g4 hg wb4 hbox hb; have BK2b := Aside0.mk (blk_below BK2.out hb); have NE := Aside0.mk (by rw [hg]; exact Nat.ne_of_lt (blk_lt BK2.out) : g2 ≠ g4); have HB4 := Aside0.mk (below_step HB.out hb); have BK4 := Aside0.mk hbox; have GW4 := Aside0.mk (hg ▸ below_size HB.out : w.heap.size ≤ g4); clear HB BK2; have HB := HB4; have BK2 := BK2b; clear HB4 BK2b hb hbox hg) | ((with_reducible refine gate_store (t := 69) (p := 4) rfl ?_); refine fo_store (w := w) rfl 69 (.tmp 4) (.tmp 14) rfl rfl g4 #[.int .i64 17, .int .i64 3, .int .i64 4, .int .i64 97, .int .i64 5, .int .i64 5, .int .i64 193, .int .i64 5, .int .i64 6, .int .i64 257, .int .i64 3, .int .i64 8, .int .i64 7681, .int .i64 17, .int .i64 9, .int .i64 12289, .int .i64 11, .int .i64 12, .int .i64 998244353, .int .i64 3, .int .i64 23, .int .i64 469762049, .int .i64 3, .int .i64 26, .int .i64 1004535809, .int .i64 3, .int .i64 21] rfl rfl 69 #[.int .i64 0, .int .i64 0, .int .i64 0, .int .i64 0, .int .i64 0, .int .i64 0, .int .i64 0, .int .i64 0, .int .i64 0, .int .i64 0, .int .i64 0, .int .i64 0, .int .i64 0, .int .i64 0, .int .i64 0, .int .i64 0, .int .i64 0, .int .i64 0, .int .i64 0, .int .i64 0, .int .i64 0, .int .i64 0, .int .i64 0, .int .i64 0, .int .i64 0, .int .i64 0, .int .i64 0] BK4.out (by kernel_rfl) (by kernel_rfl) (by kernel_rfl) HB.out GW4.out ?_; intro w5 hk hb5 hoth; have HB5 := Aside0.mk hb5; have BK2b := Aside0.mk ((hoth g2 NE.out).trans BK2.out); clear HB BK2 hb5 hoth; have HB := HB5; have BK2 := BK2b; clear HB5 BK2b; have c0 : w5.cell? ⟨g4, 3, none⟩ = some (.int .i64 97) := (blk_cell hk 3).trans rfl; have c1 : w5.cell? ⟨g4, 4, none⟩ = some (.int .i64 5) := (blk_cell hk 4).trans rfl; have c2 : w5.cell? ⟨g4, 5, none⟩ = some (.int .i64 5) := (blk_cell hk 5).trans rfl;  clear hk) | ((with_reducible refine gate_store (t := 44) (p := 2) rfl ?_); refine fo_store (w := w) rfl 44 (.tmp 2) (.tmp 24) rfl rfl g2 #[.int .i64 97, .int .i64 5, .int .i64 5] rfl rfl 44 #[.int .i64 0, .int .i64 0, .int .i64 0] BK2.out (by kernel_rfl) (by kernel_rfl) (by kernel_rfl) HB.out GW2.out ?_; intro w6 hk hb5 hoth; have HB5 := Aside0.mk hb5; have BK2b := Aside0.mk hk; clear HB BK2 hb5 hoth hk; have HB := HB5; have BK2 := BK2b; clear HB5 BK2b))
  refine bodyPost_ret (results_ct rfl _ _ g2 44 #[.int .i64 97, .int .i64 5, .int .i64 5] (0, 0) _ rfl BK2.out Try.underlying44 rfl (by kernel_rfl)) rfl ?_
  exact ⟨rfl, HB.out⟩

set_option maxHeartbeats 8000000 in
set_option maxRecDepth 100000 in
theorem fo_2 (w : World)  :
    Calls Try.prog 101 #[.int .i64 2] w fun e w' => e = .returned (.tuple #[.agg #[.int .i64 193, .int .i64 5, .int .i64 6], .bool true]) ∧ Below w.heap.size w w' := by
  have HB := Aside0.mk (Below.refl w.heap.size w)
  go_enter Try.func101, Try.ntmps101
  go_wp2_with (first | ((with_reducible refine gate_dst (N := 2) rfl ?_); refine box_event ?hg (N := 2) ?hd (cs := #[.int .i64 0, .int .i64 0, .int .i64 0]) (t := 44) ?hr ?_; (case hd => rfl); (case hg => rfl); (case hr => first | (go_simp; done) | (go_simp; rfl)); intro g2 hg wb2 hbox hb; have HB2 := Aside0.mk (below_step HB.out hb); have BK2 := Aside0.mk hbox; have GW2 := Aside0.mk (hg ▸ below_size HB.out : w.heap.size ≤ g2); clear HB; have HB := HB2; clear HB2 hb hbox hg) | ((with_reducible refine gate_dst (N := 4) rfl ?_); refine box_event ?hg (N := 4) ?hd (cs := #[.int .i64 0, .int .i64 0, .int .i64 0, .int .i64 0, .int .i64 0, .int .i64 0, .int .i64 0, .int .i64 0, .int .i64 0, .int .i64 0, .int .i64 0, .int .i64 0, .int .i64 0, .int .i64 0, .int .i64 0, .int .i64 0, .int .i64 0, .int .i64 0, .int .i64 0, .int .i64 0, .int .i64 0, .int .i64 0, .int .i64 0, .int .i64 0, .int .i64 0, .int .i64 0, .int .i64 0]) (t := 69) ?hr ?_; (case hd => rfl); (case hg => rfl); (case hr => first | (go_simp; done) | (go_simp; rfl)); intro g4 hg wb4 hbox hb; have BK2b := Aside0.mk (blk_below BK2.out hb); have NE := Aside0.mk (by rw [hg]; exact Nat.ne_of_lt (blk_lt BK2.out) : g2 ≠ g4); have HB4 := Aside0.mk (below_step HB.out hb); have BK4 := Aside0.mk hbox; have GW4 := Aside0.mk (hg ▸ below_size HB.out : w.heap.size ≤ g4); clear HB BK2; have HB := HB4; have BK2 := BK2b; clear HB4 BK2b hb hbox hg) | ((with_reducible refine gate_store (t := 69) (p := 4) rfl ?_); refine fo_store (w := w) rfl 69 (.tmp 4) (.tmp 14) rfl rfl g4 #[.int .i64 17, .int .i64 3, .int .i64 4, .int .i64 97, .int .i64 5, .int .i64 5, .int .i64 193, .int .i64 5, .int .i64 6, .int .i64 257, .int .i64 3, .int .i64 8, .int .i64 7681, .int .i64 17, .int .i64 9, .int .i64 12289, .int .i64 11, .int .i64 12, .int .i64 998244353, .int .i64 3, .int .i64 23, .int .i64 469762049, .int .i64 3, .int .i64 26, .int .i64 1004535809, .int .i64 3, .int .i64 21] rfl rfl 69 #[.int .i64 0, .int .i64 0, .int .i64 0, .int .i64 0, .int .i64 0, .int .i64 0, .int .i64 0, .int .i64 0, .int .i64 0, .int .i64 0, .int .i64 0, .int .i64 0, .int .i64 0, .int .i64 0, .int .i64 0, .int .i64 0, .int .i64 0, .int .i64 0, .int .i64 0, .int .i64 0, .int .i64 0, .int .i64 0, .int .i64 0, .int .i64 0, .int .i64 0, .int .i64 0, .int .i64 0] BK4.out (by kernel_rfl) (by kernel_rfl) (by kernel_rfl) HB.out GW4.out ?_; intro w5 hk hb5 hoth; have HB5 := Aside0.mk hb5; have BK2b := Aside0.mk ((hoth g2 NE.out).trans BK2.out); clear HB BK2 hb5 hoth; have HB := HB5; have BK2 := BK2b; clear HB5 BK2b; have c0 : w5.cell? ⟨g4, 6, none⟩ = some (.int .i64 193) := (blk_cell hk 6).trans rfl; have c1 : w5.cell? ⟨g4, 7, none⟩ = some (.int .i64 5) := (blk_cell hk 7).trans rfl; have c2 : w5.cell? ⟨g4, 8, none⟩ = some (.int .i64 6) := (blk_cell hk 8).trans rfl;  clear hk) | ((with_reducible refine gate_store (t := 44) (p := 2) rfl ?_); refine fo_store (w := w) rfl 44 (.tmp 2) (.tmp 24) rfl rfl g2 #[.int .i64 193, .int .i64 5, .int .i64 6] rfl rfl 44 #[.int .i64 0, .int .i64 0, .int .i64 0] BK2.out (by kernel_rfl) (by kernel_rfl) (by kernel_rfl) HB.out GW2.out ?_; intro w6 hk hb5 hoth; have HB5 := Aside0.mk hb5; have BK2b := Aside0.mk hk; clear HB BK2 hb5 hoth hk; have HB := HB5; have BK2 := BK2b; clear HB5 BK2b))
  refine bodyPost_ret (results_ct rfl _ _ g2 44 #[.int .i64 193, .int .i64 5, .int .i64 6] (0, 0) _ rfl BK2.out Try.underlying44 rfl (by kernel_rfl)) rfl ?_
  exact ⟨rfl, HB.out⟩

set_option maxHeartbeats 8000000 in
set_option maxRecDepth 100000 in
theorem fo_3 (w : World)  :
    Calls Try.prog 101 #[.int .i64 3] w fun e w' => e = .returned (.tuple #[.agg #[.int .i64 257, .int .i64 3, .int .i64 8], .bool true]) ∧ Below w.heap.size w w' := by
  have HB := Aside0.mk (Below.refl w.heap.size w)
  go_enter Try.func101, Try.ntmps101
  go_wp2_with (first | ((with_reducible refine gate_dst (N := 2) rfl ?_); refine box_event ?hg (N := 2) ?hd (cs := #[.int .i64 0, .int .i64 0, .int .i64 0]) (t := 44) ?hr ?_; (case hd => rfl); (case hg => rfl); (case hr => first | (go_simp; done) | (go_simp; rfl)); intro g2 hg wb2 hbox hb; have HB2 := Aside0.mk (below_step HB.out hb); have BK2 := Aside0.mk hbox; have GW2 := Aside0.mk (hg ▸ below_size HB.out : w.heap.size ≤ g2); clear HB; have HB := HB2; clear HB2 hb hbox hg) | ((with_reducible refine gate_dst (N := 4) rfl ?_); refine box_event ?hg (N := 4) ?hd (cs := #[.int .i64 0, .int .i64 0, .int .i64 0, .int .i64 0, .int .i64 0, .int .i64 0, .int .i64 0, .int .i64 0, .int .i64 0, .int .i64 0, .int .i64 0, .int .i64 0, .int .i64 0, .int .i64 0, .int .i64 0, .int .i64 0, .int .i64 0, .int .i64 0, .int .i64 0, .int .i64 0, .int .i64 0, .int .i64 0, .int .i64 0, .int .i64 0, .int .i64 0, .int .i64 0, .int .i64 0]) (t := 69) ?hr ?_; (case hd => rfl); (case hg => rfl); (case hr => first | (go_simp; done) | (go_simp; rfl)); intro g4 hg wb4 hbox hb; have BK2b := Aside0.mk (blk_below BK2.out hb); have NE := Aside0.mk (by rw [hg]; exact Nat.ne_of_lt (blk_lt BK2.out) : g2 ≠ g4); have HB4 := Aside0.mk (below_step HB.out hb); have BK4 := Aside0.mk hbox; have GW4 := Aside0.mk (hg ▸ below_size HB.out : w.heap.size ≤ g4); clear HB BK2; have HB := HB4; have BK2 := BK2b; clear HB4 BK2b hb hbox hg) | ((with_reducible refine gate_store (t := 69) (p := 4) rfl ?_); refine fo_store (w := w) rfl 69 (.tmp 4) (.tmp 14) rfl rfl g4 #[.int .i64 17, .int .i64 3, .int .i64 4, .int .i64 97, .int .i64 5, .int .i64 5, .int .i64 193, .int .i64 5, .int .i64 6, .int .i64 257, .int .i64 3, .int .i64 8, .int .i64 7681, .int .i64 17, .int .i64 9, .int .i64 12289, .int .i64 11, .int .i64 12, .int .i64 998244353, .int .i64 3, .int .i64 23, .int .i64 469762049, .int .i64 3, .int .i64 26, .int .i64 1004535809, .int .i64 3, .int .i64 21] rfl rfl 69 #[.int .i64 0, .int .i64 0, .int .i64 0, .int .i64 0, .int .i64 0, .int .i64 0, .int .i64 0, .int .i64 0, .int .i64 0, .int .i64 0, .int .i64 0, .int .i64 0, .int .i64 0, .int .i64 0, .int .i64 0, .int .i64 0, .int .i64 0, .int .i64 0, .int .i64 0, .int .i64 0, .int .i64 0, .int .i64 0, .int .i64 0, .int .i64 0, .int .i64 0, .int .i64 0, .int .i64 0] BK4.out (by kernel_rfl) (by kernel_rfl) (by kernel_rfl) HB.out GW4.out ?_; intro w5 hk hb5 hoth; have HB5 := Aside0.mk hb5; have BK2b := Aside0.mk ((hoth g2 NE.out).trans BK2.out); clear HB BK2 hb5 hoth; have HB := HB5; have BK2 := BK2b; clear HB5 BK2b; have c0 : w5.cell? ⟨g4, 9, none⟩ = some (.int .i64 257) := (blk_cell hk 9).trans rfl; have c1 : w5.cell? ⟨g4, 10, none⟩ = some (.int .i64 3) := (blk_cell hk 10).trans rfl; have c2 : w5.cell? ⟨g4, 11, none⟩ = some (.int .i64 8) := (blk_cell hk 11).trans rfl;  clear hk) | ((with_reducible refine gate_store (t := 44) (p := 2) rfl ?_); refine fo_store (w := w) rfl 44 (.tmp 2) (.tmp 24) rfl rfl g2 #[.int .i64 257, .int .i64 3, .int .i64 8] rfl rfl 44 #[.int .i64 0, .int .i64 0, .int .i64 0] BK2.out (by kernel_rfl) (by kernel_rfl) (by kernel_rfl) HB.out GW2.out ?_; intro w6 hk hb5 hoth; have HB5 := Aside0.mk hb5; have BK2b := Aside0.mk hk; clear HB BK2 hb5 hoth hk; have HB := HB5; have BK2 := BK2b; clear HB5 BK2b))
  refine bodyPost_ret (results_ct rfl _ _ g2 44 #[.int .i64 257, .int .i64 3, .int .i64 8] (0, 0) _ rfl BK2.out Try.underlying44 rfl (by kernel_rfl)) rfl ?_
  exact ⟨rfl, HB.out⟩

set_option maxHeartbeats 8000000 in
set_option maxRecDepth 100000 in
theorem fo_4 (w : World)  :
    Calls Try.prog 101 #[.int .i64 4] w fun e w' => e = .returned (.tuple #[.agg #[.int .i64 7681, .int .i64 17, .int .i64 9], .bool true]) ∧ Below w.heap.size w w' := by
  have HB := Aside0.mk (Below.refl w.heap.size w)
  go_enter Try.func101, Try.ntmps101
  go_wp2_with (first | ((with_reducible refine gate_dst (N := 2) rfl ?_); refine box_event ?hg (N := 2) ?hd (cs := #[.int .i64 0, .int .i64 0, .int .i64 0]) (t := 44) ?hr ?_; (case hd => rfl); (case hg => rfl); (case hr => first | (go_simp; done) | (go_simp; rfl)); intro g2 hg wb2 hbox hb; have HB2 := Aside0.mk (below_step HB.out hb); have BK2 := Aside0.mk hbox; have GW2 := Aside0.mk (hg ▸ below_size HB.out : w.heap.size ≤ g2); clear HB; have HB := HB2; clear HB2 hb hbox hg) | ((with_reducible refine gate_dst (N := 4) rfl ?_); refine box_event ?hg (N := 4) ?hd (cs := #[.int .i64 0, .int .i64 0, .int .i64 0, .int .i64 0, .int .i64 0, .int .i64 0, .int .i64 0, .int .i64 0, .int .i64 0, .int .i64 0, .int .i64 0, .int .i64 0, .int .i64 0, .int .i64 0, .int .i64 0, .int .i64 0, .int .i64 0, .int .i64 0, .int .i64 0, .int .i64 0, .int .i64 0, .int .i64 0, .int .i64 0, .int .i64 0, .int .i64 0, .int .i64 0, .int .i64 0]) (t := 69) ?hr ?_; (case hd => rfl); (case hg => rfl); (case hr => first | (go_simp; done) | (go_simp; rfl)); intro g4 hg wb4 hbox hb; have BK2b := Aside0.mk (blk_below BK2.out hb); have NE := Aside0.mk (by rw [hg]; exact Nat.ne_of_lt (blk_lt BK2.out) : g2 ≠ g4); have HB4 := Aside0.mk (below_step HB.out hb); have BK4 := Aside0.mk hbox; have GW4 := Aside0.mk (hg ▸ below_size HB.out : w.heap.size ≤ g4); clear HB BK2; have HB := HB4; have BK2 := BK2b; clear HB4 BK2b hb hbox hg) | ((with_reducible refine gate_store (t := 69) (p := 4) rfl ?_); refine fo_store (w := w) rfl 69 (.tmp 4) (.tmp 14) rfl rfl g4 #[.int .i64 17, .int .i64 3, .int .i64 4, .int .i64 97, .int .i64 5, .int .i64 5, .int .i64 193, .int .i64 5, .int .i64 6, .int .i64 257, .int .i64 3, .int .i64 8, .int .i64 7681, .int .i64 17, .int .i64 9, .int .i64 12289, .int .i64 11, .int .i64 12, .int .i64 998244353, .int .i64 3, .int .i64 23, .int .i64 469762049, .int .i64 3, .int .i64 26, .int .i64 1004535809, .int .i64 3, .int .i64 21] rfl rfl 69 #[.int .i64 0, .int .i64 0, .int .i64 0, .int .i64 0, .int .i64 0, .int .i64 0, .int .i64 0, .int .i64 0, .int .i64 0, .int .i64 0, .int .i64 0, .int .i64 0, .int .i64 0, .int .i64 0, .int .i64 0, .int .i64 0, .int .i64 0, .int .i64 0, .int .i64 0, .int .i64 0, .int .i64 0, .int .i64 0, .int .i64 0, .int .i64 0, .int .i64 0, .int .i64 0, .int .i64 0] BK4.out (by kernel_rfl) (by kernel_rfl) (by kernel_rfl) HB.out GW4.out ?_; intro w5 hk hb5 hoth; have HB5 := Aside0.mk hb5; have BK2b := Aside0.mk ((hoth g2 NE.out).trans BK2.out); clear HB BK2 hb5 hoth; have HB := HB5; have BK2 := BK2b; clear HB5 BK2b; have c0 : w5.cell? ⟨g4, 12, none⟩ = some (.int .i64 7681) := (blk_cell hk 12).trans rfl; have c1 : w5.cell? ⟨g4, 13, none⟩ = some (.int .i64 17) := (blk_cell hk 13).trans rfl; have c2 : w5.cell? ⟨g4, 14, none⟩ = some (.int .i64 9) := (blk_cell hk 14).trans rfl;  clear hk) | ((with_reducible refine gate_store (t := 44) (p := 2) rfl ?_); refine fo_store (w := w) rfl 44 (.tmp 2) (.tmp 24) rfl rfl g2 #[.int .i64 7681, .int .i64 17, .int .i64 9] rfl rfl 44 #[.int .i64 0, .int .i64 0, .int .i64 0] BK2.out (by kernel_rfl) (by kernel_rfl) (by kernel_rfl) HB.out GW2.out ?_; intro w6 hk hb5 hoth; have HB5 := Aside0.mk hb5; have BK2b := Aside0.mk hk; clear HB BK2 hb5 hoth hk; have HB := HB5; have BK2 := BK2b; clear HB5 BK2b))
  refine bodyPost_ret (results_ct rfl _ _ g2 44 #[.int .i64 7681, .int .i64 17, .int .i64 9] (0, 0) _ rfl BK2.out Try.underlying44 rfl (by kernel_rfl)) rfl ?_
  exact ⟨rfl, HB.out⟩

set_option maxHeartbeats 8000000 in
set_option maxRecDepth 100000 in
theorem fo_5 (w : World)  :
    Calls Try.prog 101 #[.int .i64 5] w fun e w' => e = .returned (.tuple #[.agg #[.int .i64 12289, .int .i64 11, .int .i64 12], .bool true]) ∧ Below w.heap.size w w' := by
  have HB := Aside0.mk (Below.refl w.heap.size w)
  go_enter Try.func101, Try.ntmps101
  go_wp2_with (first | ((with_reducible refine gate_dst (N := 2) rfl ?_); refine box_event ?hg (N := 2) ?hd (cs := #[.int .i64 0, .int .i64 0, .int .i64 0]) (t := 44) ?hr ?_; (case hd => rfl); (case hg => rfl); (case hr => first | (go_simp; done) | (go_simp; rfl)); intro g2 hg wb2 hbox hb; have HB2 := Aside0.mk (below_step HB.out hb); have BK2 := Aside0.mk hbox; have GW2 := Aside0.mk (hg ▸ below_size HB.out : w.heap.size ≤ g2); clear HB; have HB := HB2; clear HB2 hb hbox hg) | ((with_reducible refine gate_dst (N := 4) rfl ?_); refine box_event ?hg (N := 4) ?hd (cs := #[.int .i64 0, .int .i64 0, .int .i64 0, .int .i64 0, .int .i64 0, .int .i64 0, .int .i64 0, .int .i64 0, .int .i64 0, .int .i64 0, .int .i64 0, .int .i64 0, .int .i64 0, .int .i64 0, .int .i64 0, .int .i64 0, .int .i64 0, .int .i64 0, .int .i64 0, .int .i64 0, .int .i64 0, .int .i64 0, .int .i64 0, .int .i64 0, .int .i64 0, .int .i64 0, .int .i64 0]) (t := 69) ?hr ?_; (case hd => rfl); (case hg => rfl); (case hr => first | (go_simp; done) | (go_simp; rfl)); intro g4 hg wb4 hbox hb; have BK2b := Aside0.mk (blk_below BK2.out hb); have NE := Aside0.mk (by rw [hg]; exact Nat.ne_of_lt (blk_lt BK2.out) : g2 ≠ g4); have HB4 := Aside0.mk (below_step HB.out hb); have BK4 := Aside0.mk hbox; have GW4 := Aside0.mk (hg ▸ below_size HB.out : w.heap.size ≤ g4); clear HB BK2; have HB := HB4; have BK2 := BK2b; clear HB4 BK2b hb hbox hg) | ((with_reducible refine gate_store (t := 69) (p := 4) rfl ?_); refine fo_store (w := w) rfl 69 (.tmp 4) (.tmp 14) rfl rfl g4 #[.int .i64 17, .int .i64 3, .int .i64 4, .int .i64 97, .int .i64 5, .int .i64 5, .int .i64 193, .int .i64 5, .int .i64 6, .int .i64 257, .int .i64 3, .int .i64 8, .int .i64 7681, .int .i64 17, .int .i64 9, .int .i64 12289, .int .i64 11, .int .i64 12, .int .i64 998244353, .int .i64 3, .int .i64 23, .int .i64 469762049, .int .i64 3, .int .i64 26, .int .i64 1004535809, .int .i64 3, .int .i64 21] rfl rfl 69 #[.int .i64 0, .int .i64 0, .int .i64 0, .int .i64 0, .int .i64 0, .int .i64 0, .int .i64 0, .int .i64 0, .int .i64 0, .int .i64 0, .int .i64 0, .int .i64 0, .int .i64 0, .int .i64 0, .int .i64 0, .int .i64 0, .int .i64 0, .int .i64 0, .int .i64 0, .int .i64 0, .int .i64 0, .int .i64 0, .int .i64 0, .int .i64 0, .int .i64 0, .int .i64 0, .int .i64 0] BK4.out (by kernel_rfl) (by kernel_rfl) (by kernel_rfl) HB.out GW4.out ?_; intro w5 hk hb5 hoth; have HB5 := Aside0.mk hb5; have BK2b := Aside0.mk ((hoth g2 NE.out).trans BK2.out); clear HB BK2 hb5 hoth; have HB := HB5; have BK2 := BK2b; clear HB5 BK2b; have c0 : w5.cell? ⟨g4, 15, none⟩ = some (.int .i64 12289) := (blk_cell hk 15).trans rfl; have c1 : w5.cell? ⟨g4, 16, none⟩ = some (.int .i64 11) := (blk_cell hk 16).trans rfl; have c2 : w5.cell? ⟨g4, 17, none⟩ = some (.int .i64 12) := (blk_cell hk 17).trans rfl;  clear hk) | ((with_reducible refine gate_store (t := 44) (p := 2) rfl ?_); refine fo_store (w := w) rfl 44 (.tmp 2) (.tmp 24) rfl rfl g2 #[.int .i64 12289, .int .i64 11, .int .i64 12] rfl rfl 44 #[.int .i64 0, .int .i64 0, .int .i64 0] BK2.out (by kernel_rfl) (by kernel_rfl) (by kernel_rfl) HB.out GW2.out ?_; intro w6 hk hb5 hoth; have HB5 := Aside0.mk hb5; have BK2b := Aside0.mk hk; clear HB BK2 hb5 hoth hk; have HB := HB5; have BK2 := BK2b; clear HB5 BK2b))
  refine bodyPost_ret (results_ct rfl _ _ g2 44 #[.int .i64 12289, .int .i64 11, .int .i64 12] (0, 0) _ rfl BK2.out Try.underlying44 rfl (by kernel_rfl)) rfl ?_
  exact ⟨rfl, HB.out⟩

set_option maxHeartbeats 8000000 in
set_option maxRecDepth 100000 in
theorem fo_6 (w : World)  :
    Calls Try.prog 101 #[.int .i64 6] w fun e w' => e = .returned (.tuple #[.agg #[.int .i64 998244353, .int .i64 3, .int .i64 23], .bool true]) ∧ Below w.heap.size w w' := by
  have HB := Aside0.mk (Below.refl w.heap.size w)
  go_enter Try.func101, Try.ntmps101
  go_wp2_with (first | ((with_reducible refine gate_dst (N := 2) rfl ?_); refine box_event ?hg (N := 2) ?hd (cs := #[.int .i64 0, .int .i64 0, .int .i64 0]) (t := 44) ?hr ?_; (case hd => rfl); (case hg => rfl); (case hr => first | (go_simp; done) | (go_simp; rfl)); intro g2 hg wb2 hbox hb; have HB2 := Aside0.mk (below_step HB.out hb); have BK2 := Aside0.mk hbox; have GW2 := Aside0.mk (hg ▸ below_size HB.out : w.heap.size ≤ g2); clear HB; have HB := HB2; clear HB2 hb hbox hg) | ((with_reducible refine gate_dst (N := 4) rfl ?_); refine box_event ?hg (N := 4) ?hd (cs := #[.int .i64 0, .int .i64 0, .int .i64 0, .int .i64 0, .int .i64 0, .int .i64 0, .int .i64 0, .int .i64 0, .int .i64 0, .int .i64 0, .int .i64 0, .int .i64 0, .int .i64 0, .int .i64 0, .int .i64 0, .int .i64 0, .int .i64 0, .int .i64 0, .int .i64 0, .int .i64 0, .int .i64 0, .int .i64 0, .int .i64 0, .int .i64 0, .int .i64 0, .int .i64 0, .int .i64 0]) (t := 69) ?hr ?_; (case hd => rfl); (case hg => rfl); (case hr => first | (go_simp; done) | (go_simp; rfl)); intro g4 hg wb4 hbox hb; have BK2b := Aside0.mk (blk_below BK2.out hb); have NE := Aside0.mk (by rw [hg]; exact Nat.ne_of_lt (blk_lt BK2.out) : g2 ≠ g4); have HB4 := Aside0.mk (below_step HB.out hb); have BK4 := Aside0.mk hbox; have GW4 := Aside0.mk (hg ▸ below_size HB.out : w.heap.size ≤ g4); clear HB BK2; have HB := HB4; have BK2 := BK2b; clear HB4 BK2b hb hbox hg) | ((with_reducible refine gate_store (t := 69) (p := 4) rfl ?_); refine fo_store (w := w) rfl 69 (.tmp 4) (.tmp 14) rfl rfl g4 #[.int .i64 17, .int .i64 3, .int .i64 4, .int .i64 97, .int .i64 5, .int .i64 5, .int .i64 193, .int .i64 5, .int .i64 6, .int .i64 257, .int .i64 3, .int .i64 8, .int .i64 7681, .int .i64 17, .int .i64 9, .int .i64 12289, .int .i64 11, .int .i64 12, .int .i64 998244353, .int .i64 3, .int .i64 23, .int .i64 469762049, .int .i64 3, .int .i64 26, .int .i64 1004535809, .int .i64 3, .int .i64 21] rfl rfl 69 #[.int .i64 0, .int .i64 0, .int .i64 0, .int .i64 0, .int .i64 0, .int .i64 0, .int .i64 0, .int .i64 0, .int .i64 0, .int .i64 0, .int .i64 0, .int .i64 0, .int .i64 0, .int .i64 0, .int .i64 0, .int .i64 0, .int .i64 0, .int .i64 0, .int .i64 0, .int .i64 0, .int .i64 0, .int .i64 0, .int .i64 0, .int .i64 0, .int .i64 0, .int .i64 0, .int .i64 0] BK4.out (by kernel_rfl) (by kernel_rfl) (by kernel_rfl) HB.out GW4.out ?_; intro w5 hk hb5 hoth; have HB5 := Aside0.mk hb5; have BK2b := Aside0.mk ((hoth g2 NE.out).trans BK2.out); clear HB BK2 hb5 hoth; have HB := HB5; have BK2 := BK2b; clear HB5 BK2b; have c0 : w5.cell? ⟨g4, 18, none⟩ = some (.int .i64 998244353) := (blk_cell hk 18).trans rfl; have c1 : w5.cell? ⟨g4, 19, none⟩ = some (.int .i64 3) := (blk_cell hk 19).trans rfl; have c2 : w5.cell? ⟨g4, 20, none⟩ = some (.int .i64 23) := (blk_cell hk 20).trans rfl;  clear hk) | ((with_reducible refine gate_store (t := 44) (p := 2) rfl ?_); refine fo_store (w := w) rfl 44 (.tmp 2) (.tmp 24) rfl rfl g2 #[.int .i64 998244353, .int .i64 3, .int .i64 23] rfl rfl 44 #[.int .i64 0, .int .i64 0, .int .i64 0] BK2.out (by kernel_rfl) (by kernel_rfl) (by kernel_rfl) HB.out GW2.out ?_; intro w6 hk hb5 hoth; have HB5 := Aside0.mk hb5; have BK2b := Aside0.mk hk; clear HB BK2 hb5 hoth hk; have HB := HB5; have BK2 := BK2b; clear HB5 BK2b))
  refine bodyPost_ret (results_ct rfl _ _ g2 44 #[.int .i64 998244353, .int .i64 3, .int .i64 23] (0, 0) _ rfl BK2.out Try.underlying44 rfl (by kernel_rfl)) rfl ?_
  exact ⟨rfl, HB.out⟩

set_option maxHeartbeats 8000000 in
set_option maxRecDepth 100000 in
theorem fo_7 (w : World)  :
    Calls Try.prog 101 #[.int .i64 7] w fun e w' => e = .returned (.tuple #[.agg #[.int .i64 469762049, .int .i64 3, .int .i64 26], .bool true]) ∧ Below w.heap.size w w' := by
  have HB := Aside0.mk (Below.refl w.heap.size w)
  go_enter Try.func101, Try.ntmps101
  go_wp2_with (first | ((with_reducible refine gate_dst (N := 2) rfl ?_); refine box_event ?hg (N := 2) ?hd (cs := #[.int .i64 0, .int .i64 0, .int .i64 0]) (t := 44) ?hr ?_; (case hd => rfl); (case hg => rfl); (case hr => first | (go_simp; done) | (go_simp; rfl)); intro g2 hg wb2 hbox hb; have HB2 := Aside0.mk (below_step HB.out hb); have BK2 := Aside0.mk hbox; have GW2 := Aside0.mk (hg ▸ below_size HB.out : w.heap.size ≤ g2); clear HB; have HB := HB2; clear HB2 hb hbox hg) | ((with_reducible refine gate_dst (N := 4) rfl ?_); refine box_event ?hg (N := 4) ?hd (cs := #[.int .i64 0, .int .i64 0, .int .i64 0, .int .i64 0, .int .i64 0, .int .i64 0, .int .i64 0, .int .i64 0, .int .i64 0, .int .i64 0, .int .i64 0, .int .i64 0, .int .i64 0, .int .i64 0, .int .i64 0, .int .i64 0, .int .i64 0, .int .i64 0, .int .i64 0, .int .i64 0, .int .i64 0, .int .i64 0, .int .i64 0, .int .i64 0, .int .i64 0, .int .i64 0, .int .i64 0]) (t := 69) ?hr ?_; (case hd => rfl); (case hg => rfl); (case hr => first | (go_simp; done) | (go_simp; rfl)); intro g4 hg wb4 hbox hb; have BK2b := Aside0.mk (blk_below BK2.out hb); have NE := Aside0.mk (by rw [hg]; exact Nat.ne_of_lt (blk_lt BK2.out) : g2 ≠ g4); have HB4 := Aside0.mk (below_step HB.out hb); have BK4 := Aside0.mk hbox; have GW4 := Aside0.mk (hg ▸ below_size HB.out : w.heap.size ≤ g4); clear HB BK2; have HB := HB4; have BK2 := BK2b; clear HB4 BK2b hb hbox hg) | ((with_reducible refine gate_store (t := 69) (p := 4) rfl ?_); refine fo_store (w := w) rfl 69 (.tmp 4) (.tmp 14) rfl rfl g4 #[.int .i64 17, .int .i64 3, .int .i64 4, .int .i64 97, .int .i64 5, .int .i64 5, .int .i64 193, .int .i64 5, .int .i64 6, .int .i64 257, .int .i64 3, .int .i64 8, .int .i64 7681, .int .i64 17, .int .i64 9, .int .i64 12289, .int .i64 11, .int .i64 12, .int .i64 998244353, .int .i64 3, .int .i64 23, .int .i64 469762049, .int .i64 3, .int .i64 26, .int .i64 1004535809, .int .i64 3, .int .i64 21] rfl rfl 69 #[.int .i64 0, .int .i64 0, .int .i64 0, .int .i64 0, .int .i64 0, .int .i64 0, .int .i64 0, .int .i64 0, .int .i64 0, .int .i64 0, .int .i64 0, .int .i64 0, .int .i64 0, .int .i64 0, .int .i64 0, .int .i64 0, .int .i64 0, .int .i64 0, .int .i64 0, .int .i64 0, .int .i64 0, .int .i64 0, .int .i64 0, .int .i64 0, .int .i64 0, .int .i64 0, .int .i64 0] BK4.out (by kernel_rfl) (by kernel_rfl) (by kernel_rfl) HB.out GW4.out ?_; intro w5 hk hb5 hoth; have HB5 := Aside0.mk hb5; have BK2b := Aside0.mk ((hoth g2 NE.out).trans BK2.out); clear HB BK2 hb5 hoth; have HB := HB5; have BK2 := BK2b; clear HB5 BK2b; have c0 : w5.cell? ⟨g4, 21, none⟩ = some (.int .i64 469762049) := (blk_cell hk 21).trans rfl; have c1 : w5.cell? ⟨g4, 22, none⟩ = some (.int .i64 3) := (blk_cell hk 22).trans rfl; have c2 : w5.cell? ⟨g4, 23, none⟩ = some (.int .i64 26) := (blk_cell hk 23).trans rfl;  clear hk) | ((with_reducible refine gate_store (t := 44) (p := 2) rfl ?_); refine fo_store (w := w) rfl 44 (.tmp 2) (.tmp 24) rfl rfl g2 #[.int .i64 469762049, .int .i64 3, .int .i64 26] rfl rfl 44 #[.int .i64 0, .int .i64 0, .int .i64 0] BK2.out (by kernel_rfl) (by kernel_rfl) (by kernel_rfl) HB.out GW2.out ?_; intro w6 hk hb5 hoth; have HB5 := Aside0.mk hb5; have BK2b := Aside0.mk hk; clear HB BK2 hb5 hoth hk; have HB := HB5; have BK2 := BK2b; clear HB5 BK2b))
  refine bodyPost_ret (results_ct rfl _ _ g2 44 #[.int .i64 469762049, .int .i64 3, .int .i64 26] (0, 0) _ rfl BK2.out Try.underlying44 rfl (by kernel_rfl)) rfl ?_
  exact ⟨rfl, HB.out⟩

set_option maxHeartbeats 8000000 in
set_option maxRecDepth 100000 in
theorem fo_8 (w : World)  :
    Calls Try.prog 101 #[.int .i64 8] w fun e w' => e = .returned (.tuple #[.agg #[.int .i64 1004535809, .int .i64 3, .int .i64 21], .bool true]) ∧ Below w.heap.size w w' := by
  have HB := Aside0.mk (Below.refl w.heap.size w)
  go_enter Try.func101, Try.ntmps101
  go_wp2_with (first | ((with_reducible refine gate_dst (N := 2) rfl ?_); refine box_event ?hg (N := 2) ?hd (cs := #[.int .i64 0, .int .i64 0, .int .i64 0]) (t := 44) ?hr ?_; (case hd => rfl); (case hg => rfl); (case hr => first | (go_simp; done) | (go_simp; rfl)); intro g2 hg wb2 hbox hb; have HB2 := Aside0.mk (below_step HB.out hb); have BK2 := Aside0.mk hbox; have GW2 := Aside0.mk (hg ▸ below_size HB.out : w.heap.size ≤ g2); clear HB; have HB := HB2; clear HB2 hb hbox hg) | ((with_reducible refine gate_dst (N := 4) rfl ?_); refine box_event ?hg (N := 4) ?hd (cs := #[.int .i64 0, .int .i64 0, .int .i64 0, .int .i64 0, .int .i64 0, .int .i64 0, .int .i64 0, .int .i64 0, .int .i64 0, .int .i64 0, .int .i64 0, .int .i64 0, .int .i64 0, .int .i64 0, .int .i64 0, .int .i64 0, .int .i64 0, .int .i64 0, .int .i64 0, .int .i64 0, .int .i64 0, .int .i64 0, .int .i64 0, .int .i64 0, .int .i64 0, .int .i64 0, .int .i64 0]) (t := 69) ?hr ?_; (case hd => rfl); (case hg => rfl); (case hr => first | (go_simp; done) | (go_simp; rfl)); intro g4 hg wb4 hbox hb; have BK2b := Aside0.mk (blk_below BK2.out hb); have NE := Aside0.mk (by rw [hg]; exact Nat.ne_of_lt (blk_lt BK2.out) : g2 ≠ g4); have HB4 := Aside0.mk (below_step HB.out hb); have BK4 := Aside0.mk hbox; have GW4 := Aside0.mk (hg ▸ below_size HB.out : w.heap.size ≤ g4); clear HB BK2; have HB := HB4; have BK2 := BK2b; clear HB4 BK2b hb hbox hg) | ((with_reducible refine gate_store (t := 69) (p := 4) rfl ?_); refine fo_store (w := w) rfl 69 (.tmp 4) (.tmp 14) rfl rfl g4 #[.int .i64 17, .int .i64 3, .int .i64 4, .int .i64 97, .int .i64 5, .int .i64 5, .int .i64 193, .int .i64 5, .int .i64 6, .int .i64 257, .int .i64 3, .int .i64 8, .int .i64 7681, .int .i64 17, .int .i64 9, .int .i64 12289, .int .i64 11, .int .i64 12, .int .i64 998244353, .int .i64 3, .int .i64 23, .int .i64 469762049, .int .i64 3, .int .i64 26, .int .i64 1004535809, .int .i64 3, .int .i64 21] rfl rfl 69 #[.int .i64 0, .int .i64 0, .int .i64 0, .int .i64 0, .int .i64 0, .int .i64 0, .int .i64 0, .int .i64 0, .int .i64 0, .int .i64 0, .int .i64 0, .int .i64 0, .int .i64 0, .int .i64 0, .int .i64 0, .int .i64 0, .int .i64 0, .int .i64 0, .int .i64 0, .int .i64 0, .int .i64 0, .int .i64 0, .int .i64 0, .int .i64 0, .int .i64 0, .int .i64 0, .int .i64 0] BK4.out (by kernel_rfl) (by kernel_rfl) (by kernel_rfl) HB.out GW4.out ?_; intro w5 hk hb5 hoth; have HB5 := Aside0.mk hb5; have BK2b := Aside0.mk ((hoth g2 NE.out).trans BK2.out); clear HB BK2 hb5 hoth; have HB := HB5; have BK2 := BK2b; clear HB5 BK2b; have c0 : w5.cell? ⟨g4, 24, none⟩ = some (.int .i64 1004535809) := (blk_cell hk 24).trans rfl; have c1 : w5.cell? ⟨g4, 25, none⟩ = some (.int .i64 3) := (blk_cell hk 25).trans rfl; have c2 : w5.cell? ⟨g4, 26, none⟩ = some (.int .i64 21) := (blk_cell hk 26).trans rfl;  clear hk) | ((with_reducible refine gate_store (t := 44) (p := 2) rfl ?_); refine fo_store (w := w) rfl 44 (.tmp 2) (.tmp 24) rfl rfl g2 #[.int .i64 1004535809, .int .i64 3, .int .i64 21] rfl rfl 44 #[.int .i64 0, .int .i64 0, .int .i64 0] BK2.out (by kernel_rfl) (by kernel_rfl) (by kernel_rfl) HB.out GW2.out ?_; intro w6 hk hb5 hoth; have HB5 := Aside0.mk hb5; have BK2b := Aside0.mk hk; clear HB BK2 hb5 hoth hk; have HB := HB5; have BK2 := BK2b; clear HB5 BK2b))
  refine bodyPost_ret (results_ct rfl _ _ g2 44 #[.int .i64 1004535809, .int .i64 3, .int .i64 21] (0, 0) _ rfl BK2.out Try.underlying44 rfl (by kernel_rfl)) rfl ?_
  exact ⟨rfl, HB.out⟩

set_option maxHeartbeats 8000000 in
set_option maxRecDepth 100000 in
theorem fo_neg (w : World) (a0 : Int) (h : a0 < 0) :
    Calls Try.prog 101 #[.int .i64 a0] w fun e w' => e = .returned (.tuple #[.agg #[.int .i64 0, .int .i64 0, .int .i64 0], .bool false]) ∧ Below w.heap.size w w' := by
  have HB := Aside0.mk (Below.refl w.heap.size w)
  have c2b0 : decide (a0 < 0) = true := decide_eq_true h
  go_enter Try.func101, Try.ntmps101
  go_wp2_with (first | ((with_reducible refine gate_dst (N := 2) rfl ?_); refine box_event ?hg (N := 2) ?hd (cs := #[.int .i64 0, .int .i64 0, .int .i64 0]) (t := 44) ?hr ?_; (case hd => rfl); (case hg => rfl); (case hr => first | (go_simp; done) | (go_simp; rfl)); intro g2 hg wb2 hbox hb; have HB2 := Aside0.mk (below_step HB.out hb); have BK2 := Aside0.mk hbox; have GW2 := Aside0.mk (hg ▸ below_size HB.out : w.heap.size ≤ g2); clear HB; have HB := HB2; clear HB2 hb hbox hg) | ((with_reducible refine gate_dst (N := 4) rfl ?_); refine box_event ?hg (N := 4) ?hd (cs := #[.int .i64 0, .int .i64 0, .int .i64 0, .int .i64 0, .int .i64 0, .int .i64 0, .int .i64 0, .int .i64 0, .int .i64 0, .int .i64 0, .int .i64 0, .int .i64 0, .int .i64 0, .int .i64 0, .int .i64 0, .int .i64 0, .int .i64 0, .int .i64 0, .int .i64 0, .int .i64 0, .int .i64 0, .int .i64 0, .int .i64 0, .int .i64 0, .int .i64 0, .int .i64 0, .int .i64 0]) (t := 69) ?hr ?_; (case hd => rfl); (case hg => rfl); (case hr => first | (go_simp; done) | (go_simp; rfl)); intro g4 hg wb4 hbox hb; have BK2b := Aside0.mk (blk_below BK2.out hb); have NE := Aside0.mk (by rw [hg]; exact Nat.ne_of_lt (blk_lt BK2.out) : g2 ≠ g4); have HB4 := Aside0.mk (below_step HB.out hb); have BK4 := Aside0.mk hbox; have GW4 := Aside0.mk (hg ▸ below_size HB.out : w.heap.size ≤ g4); clear HB BK2; have HB := HB4; have BK2 := BK2b; clear HB4 BK2b hb hbox hg) | ((with_reducible refine gate_store (t := 69) (p := 4) rfl ?_); refine fo_store (w := w) rfl 69 (.tmp 4) (.tmp 14) rfl rfl g4 #[.int .i64 17, .int .i64 3, .int .i64 4, .int .i64 97, .int .i64 5, .int .i64 5, .int .i64 193, .int .i64 5, .int .i64 6, .int .i64 257, .int .i64 3, .int .i64 8, .int .i64 7681, .int .i64 17, .int .i64 9, .int .i64 12289, .int .i64 11, .int .i64 12, .int .i64 998244353, .int .i64 3, .int .i64 23, .int .i64 469762049, .int .i64 3, .int .i64 26, .int .i64 1004535809, .int .i64 3, .int .i64 21] rfl rfl 69 #[.int .i64 0, .int .i64 0, .int .i64 0, .int .i64 0, .int .i64 0, .int .i64 0, .int .i64 0, .int .i64 0, .int .i64 0, .int .i64 0, .int .i64 0, .int .i64 0, .int .i64 0, .int .i64 0, .int .i64 0, .int .i64 0, .int .i64 0, .int .i64 0, .int .i64 0, .int .i64 0, .int .i64 0, .int .i64 0, .int .i64 0, .int .i64 0, .int .i64 0, .int .i64 0, .int .i64 0] BK4.out (by kernel_rfl) (by kernel_rfl) (by kernel_rfl) HB.out GW4.out ?_; intro w5 hk hb5 hoth; have HB5 := Aside0.mk hb5; have BK2b := Aside0.mk ((hoth g2 NE.out).trans BK2.out); clear HB BK2 hb5 hoth; have HB := HB5; have BK2 := BK2b; clear HB5 BK2b;  clear hk) | ((with_reducible refine gate_store (t := 44) (p := 2) rfl ?_); refine fo_store (w := w) rfl 44 (.tmp 2) (.tmp 21) rfl rfl g2 #[.int .i64 0, .int .i64 0, .int .i64 0] rfl rfl 44 #[.int .i64 0, .int .i64 0, .int .i64 0] BK2.out (by kernel_rfl) (by kernel_rfl) (by kernel_rfl) HB.out GW2.out ?_; intro w6 hk hb5 hoth; have HB5 := Aside0.mk hb5; have BK2b := Aside0.mk hk; clear HB BK2 hb5 hoth hk; have HB := HB5; have BK2 := BK2b; clear HB5 BK2b))
  refine bodyPost_ret (results_ct rfl _ _ g2 44 #[.int .i64 0, .int .i64 0, .int .i64 0] (0, 0) _ rfl BK2.out Try.underlying44 rfl (by kernel_rfl)) rfl ?_
  exact ⟨rfl, HB.out⟩

set_option maxHeartbeats 8000000 in
set_option maxRecDepth 100000 in
theorem fo_big (w : World) (a0 : Int) (h : a0 ≥ 9) :
    Calls Try.prog 101 #[.int .i64 a0] w fun e w' => e = .returned (.tuple #[.agg #[.int .i64 0, .int .i64 0, .int .i64 0], .bool false]) ∧ Below w.heap.size w w' := by
  have HB := Aside0.mk (Below.refl w.heap.size w)
  have c2b0 : decide (a0 < 0) = false := decide_eq_false (by omega)
  have c5b0 : decide (9 ≤ a0) = true := decide_eq_true h
  go_enter Try.func101, Try.ntmps101
  go_wp2_with (first | ((with_reducible refine gate_dst (N := 2) rfl ?_); refine box_event ?hg (N := 2) ?hd (cs := #[.int .i64 0, .int .i64 0, .int .i64 0]) (t := 44) ?hr ?_; (case hd => rfl); (case hg => rfl); (case hr => first | (go_simp; done) | (go_simp; rfl)); intro g2 hg wb2 hbox hb; have HB2 := Aside0.mk (below_step HB.out hb); have BK2 := Aside0.mk hbox; have GW2 := Aside0.mk (hg ▸ below_size HB.out : w.heap.size ≤ g2); clear HB; have HB := HB2; clear HB2 hb hbox hg) | ((with_reducible refine gate_dst (N := 4) rfl ?_); refine box_event ?hg (N := 4) ?hd (cs := #[.int .i64 0, .int .i64 0, .int .i64 0, .int .i64 0, .int .i64 0, .int .i64 0, .int .i64 0, .int .i64 0, .int .i64 0, .int .i64 0, .int .i64 0, .int .i64 0, .int .i64 0, .int .i64 0, .int .i64 0, .int .i64 0, .int .i64 0, .int .i64 0, .int .i64 0, .int .i64 0, .int .i64 0, .int .i64 0, .int .i64 0, .int .i64 0, .int .i64 0, .int .i64 0, .int .i64 0]) (t := 69) ?hr ?_; (case hd => rfl); (case hg => rfl); (case hr => first | (go_simp; done) | (go_simp; rfl)); intro g4 hg wb4 hbox hb; have BK2b := Aside0.mk (blk_below BK2.out hb); have NE := Aside0.mk (by rw [hg]; exact Nat.ne_of_lt (blk_lt BK2.out) : g2 ≠ g4); have HB4 := Aside0.mk (below_step HB.out hb); have BK4 := Aside0.mk hbox; have GW4 := Aside0.mk (hg ▸ below_size HB.out : w.heap.size ≤ g4); clear HB BK2; have HB := HB4; have BK2 := BK2b; clear HB4 BK2b hb hbox hg) | ((with_reducible refine gate_store (t := 69) (p := 4) rfl ?_); refine fo_store (w := w) rfl 69 (.tmp 4) (.tmp 14) rfl rfl g4 #[.int .i64 17, .int .i64 3, .int .i64 4, .int .i64 97, .int .i64 5, .int .i64 5, .int .i64 193, .int .i64 5, .int .i64 6, .int .i64 257, .int .i64 3, .int .i64 8, .int .i64 7681, .int .i64 17, .int .i64 9, .int .i64 12289, .int .i64 11, .int .i64 12, .int .i64 998244353, .int .i64 3, .int .i64 23, .int .i64 469762049, .int .i64 3, .int .i64 26, .int .i64 1004535809, .int .i64 3, .int .i64 21] rfl rfl 69 #[.int .i64 0, .int .i64 0, .int .i64 0, .int .i64 0, .int .i64 0, .int .i64 0, .int .i64 0, .int .i64 0, .int .i64 0, .int .i64 0, .int .i64 0, .int .i64 0, .int .i64 0, .int .i64 0, .int .i64 0, .int .i64 0, .int .i64 0, .int .i64 0, .int .i64 0, .int .i64 0, .int .i64 0, .int .i64 0, .int .i64 0, .int .i64 0, .int .i64 0, .int .i64 0, .int .i64 0] BK4.out (by kernel_rfl) (by kernel_rfl) (by kernel_rfl) HB.out GW4.out ?_; intro w5 hk hb5 hoth; have HB5 := Aside0.mk hb5; have BK2b := Aside0.mk ((hoth g2 NE.out).trans BK2.out); clear HB BK2 hb5 hoth; have HB := HB5; have BK2 := BK2b; clear HB5 BK2b;  clear hk) | ((with_reducible refine gate_store (t := 44) (p := 2) rfl ?_); refine fo_store (w := w) rfl 44 (.tmp 2) (.tmp 21) rfl rfl g2 #[.int .i64 0, .int .i64 0, .int .i64 0] rfl rfl 44 #[.int .i64 0, .int .i64 0, .int .i64 0] BK2.out (by kernel_rfl) (by kernel_rfl) (by kernel_rfl) HB.out GW2.out ?_; intro w6 hk hb5 hoth; have HB5 := Aside0.mk hb5; have BK2b := Aside0.mk hk; clear HB BK2 hb5 hoth hk; have HB := HB5; have BK2 := BK2b; clear HB5 BK2b))
  refine bodyPost_ret (results_ct rfl _ _ g2 44 #[.int .i64 0, .int .i64 0, .int .i64 0] (0, 0) _ rfl BK2.out Try.underlying44 rfl (by kernel_rfl)) rfl ?_
  exact ⟨rfl, HB.out⟩

theorem impl_fieldOf.calls (a0 : Int) (r1 : Int) (r2 : Int) (r3 : Int) (r4 : Bool) (w : World) (h : impl_fieldOf.f a0 = some (r1, r2, r3, r4)) :
    Calls Try.prog 101 #[.int .i64 a0] w fun e w' => e = .returned (.tuple #[.agg #[.int .i64 r1, .int .i64 r2, .int .i64 r3], .bool r4]) ∧ Below w.heap.size w w' := by
  unfold impl_fieldOf.f at h
  by_cases c : a0 < 0
  · rw [if_pos c] at h
    simp only [Option.some.injEq, Prod.mk.injEq] at h
    obtain ⟨rfl, rfl, rfl, rfl⟩ := h
    exact fo_neg w a0 c
  · rw [if_neg c] at h
    have n_fo_neg := c
    clear c
    by_cases c : a0 ≥ 9
    · rw [if_pos c] at h
      simp only [Option.some.injEq, Prod.mk.injEq] at h
      obtain ⟨rfl, rfl, rfl, rfl⟩ := h
      exact fo_big w a0 c
    · rw [if_neg c] at h
      have n_fo_big := c
      clear c
      by_cases c : a0 = 0
      · rw [if_pos c] at h
        simp only [Option.some.injEq, Prod.mk.injEq] at h
        obtain ⟨rfl, rfl, rfl, rfl⟩ := h
        subst c
        exact fo_0 w
      · rw [if_neg c] at h
        have n_fo_0 := c
        clear c
        by_cases c : a0 = 1
        · rw [if_pos c] at h
          simp only [Option.some.injEq, Prod.mk.injEq] at h
          obtain ⟨rfl, rfl, rfl, rfl⟩ := h
          subst c
          exact fo_1 w
        · rw [if_neg c] at h
          have n_fo_1 := c
          clear c
          by_cases c : a0 = 2
          · rw [if_pos c] at h
            simp only [Option.some.injEq, Prod.mk.injEq] at h
            obtain ⟨rfl, rfl, rfl, rfl⟩ := h
            subst c
            exact fo_2 w
          · rw [if_neg c] at h
            have n_fo_2 := c
            clear c
            by_cases c : a0 = 3
            · rw [if_pos c] at h
              simp only [Option.some.injEq, Prod.mk.injEq] at h
              obtain ⟨rfl, rfl, rfl, rfl⟩ := h
              subst c
              exact fo_3 w
            · rw [if_neg c] at h
              have n_fo_3 := c
              clear c
              by_cases c : a0 = 4
              · rw [if_pos c] at h
                simp only [Option.some.injEq, Prod.mk.injEq] at h
                obtain ⟨rfl, rfl, rfl, rfl⟩ := h
                subst c
                exact fo_4 w
              · rw [if_neg c] at h
                have n_fo_4 := c
                clear c
                by_cases c : a0 = 5
                · rw [if_pos c] at h
                  simp only [Option.some.injEq, Prod.mk.injEq] at h
                  obtain ⟨rfl, rfl, rfl, rfl⟩ := h
                  subst c
                  exact fo_5 w
                · rw [if_neg c] at h
                  have n_fo_5 := c
                  clear c
                  by_cases c : a0 = 6
                  · rw [if_pos c] at h
                    simp only [Option.some.injEq, Prod.mk.injEq] at h
                    obtain ⟨rfl, rfl, rfl, rfl⟩ := h
                    subst c
                    exact fo_6 w
                  · rw [if_neg c] at h
                    have n_fo_6 := c
                    clear c
                    by_cases c : a0 = 7
                    · rw [if_pos c] at h
                      simp only [Option.some.injEq, Prod.mk.injEq] at h
                      obtain ⟨rfl, rfl, rfl, rfl⟩ := h
                      subst c
                      exact fo_7 w
                    · rw [if_neg c] at h
                      have n_fo_7 := c
                      clear c
                      simp only [Option.some.injEq, Prod.mk.injEq] at h
                      obtain ⟨rfl, rfl, rfl, rfl⟩ := h
                      obtain rfl : a0 = 8 := by omega
                      exact fo_8 w

end Go.Proofs.Ytiihnfkflidddaa.PFnExactSeriesInto
