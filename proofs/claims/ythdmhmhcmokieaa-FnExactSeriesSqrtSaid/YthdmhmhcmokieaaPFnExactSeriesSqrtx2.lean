/- The machine side of this law: each Go function that it reaches as a Lean function, and the proof that the call comes to just its answer; printed by a program of this session out of the kit's print, with a contract of impl.fieldOf that is this session's own. No condition. -/
import Derived.Test.YthdmhmhcmokieaaPFnExactSeriesSqrtx0
import Derived.Test.YthdmhmhcmokieaaPFnExactSeriesSqrtx1
namespace Go.Proofs.Ythdmhmhcmokieaa.PFnExactSeriesSqrt
open Go.RowKit Go.Proofs.YthdmhmhcmokieaaW.PrintWords Go.Proofs.YthdmhmhcmokieaaW.PrintLast Go.Proofs.YthdmhmhcmokieaaW.PrintMore
attribute [local go_sem] max2_int min2_int max_two min_two max_three min_three max_four min_four   -- for this text's walks alone
set_option linter.unusedVariables false
set_option linter.unusedSimpArgs false

/-! ### spec_SeriesSqrt: function 15 -/
mutual
def spec_SeriesSqrt.j0 : Nat → Int → List Int → Bool → Option (List Int × Bool)
  | 0, _, _, _ => none
  | k + 1, x0, x1, x20 => if x20 = true then (some (([] : List Int), false)) else ((spec_Inverse.f k x0 2).bind fun t120 => (spec_SeriesSqrt.l0 k x0 x1 t120 (([1] : List Int)) 1))
def spec_SeriesSqrt.l0 : Nat → Int → List Int → Int → List Int → Int → Option (List Int × Bool)
  | 0, _, _, _, _, _ => none
  | k + 1, x0, x1, x6, x7, x8 => if x8 < (x1.length : Int) then (if 0 ≤ x8 then (spec_SeriesSqrt.l1 k x0 x1 x6 x7 x8 (rd x1 x8) 1) else (none)) else (some (x7, true))
def spec_SeriesSqrt.l1 : Nat → Int → List Int → Int → List Int → Int → Int → Int → Option (List Int × Bool)
  | 0, _, _, _, _, _, _, _ => none
  | k + 1, x0, x1, x6, x7, x8, x9, x10 => if x10 < x8 then (if 0 ≤ x10 then (if x10 < (x7.length : Int) then (if 0 ≤ (wrap64 (x8 - x10)) then (if (wrap64 (x8 - x10)) < (x7.length : Int) then ((spec_Mul.f x0 (rd x7 x10) (rd x7 (wrap64 (x8 - x10)))).bind fun t127 => ((spec_Sub.f x0 x9 t127).bind fun t128 => (spec_SeriesSqrt.l1 k x0 x1 x6 x7 x8 t128 (wrap64 (x10 + 1))))) else (none)) else (none)) else (none)) else (none)) else ((spec_Mul.f x0 x9 x6).bind fun t129 => (if x7.length < 17592186044416 then (spec_SeriesSqrt.l0 k x0 x1 x6 (x7 ++ [t129]) (wrap64 (x8 + 1))) else (none)))
end
def spec_SeriesSqrt.f (k : Nat) (a0 : Int) (l1 : List Int) : Option (List Int × Bool) := (spec_SeriesOk.f k a0 l1).bind fun t118 => (if t118 = true then (if 0 < (l1.length : Int) then (spec_SeriesSqrt.j0 k a0 l1 ((rd l1 0) != 1)) else (none)) else (spec_SeriesSqrt.j0 k a0 l1 true))
theorem spec_SeriesSqrt.mono_l : ∀ k, (∀ y0 y1 y2, LeO (spec_SeriesSqrt.j0 k y0 y1 y2) (spec_SeriesSqrt.j0 (k + 1) y0 y1 y2)) ∧ (∀ y0 y1 y2 y3 y4, LeO (spec_SeriesSqrt.l0 k y0 y1 y2 y3 y4) (spec_SeriesSqrt.l0 (k + 1) y0 y1 y2 y3 y4)) ∧ (∀ y0 y1 y2 y3 y4 y5 y6, LeO (spec_SeriesSqrt.l1 k y0 y1 y2 y3 y4 y5 y6) (spec_SeriesSqrt.l1 (k + 1) y0 y1 y2 y3 y4 y5 y6))
  | 0 => ⟨fun _ _ _ r h => by simp [spec_SeriesSqrt.j0] at h, fun _ _ _ _ _ r h => by simp [spec_SeriesSqrt.l0] at h, fun _ _ _ _ _ _ _ r h => by simp [spec_SeriesSqrt.l1] at h⟩
  | k + 1 => by
    obtain ⟨ih0, ih1, ih2⟩ := spec_SeriesSqrt.mono_l k
    refine ⟨?_, ?_, ?_⟩
    · intro y0 y1 y2
      unfold spec_SeriesSqrt.j0
      repeat' first
      | (with_reducible exact ih0 _ _ _)
      | (with_reducible exact ih1 _ _ _ _ _)
      | (with_reducible exact ih2 _ _ _ _ _ _ _)
      | (with_reducible exact spec_Inverse.mono _ _ _)
      | (with_reducible exact spec_SeriesOk.mono _ _ _)
      | (with_reducible exact LeO.refl _)
      | (with_reducible exact LeO.none _)
      | (with_reducible refine LeO.ite ?_ ?_)
      | (with_reducible refine LeO.bind ?_ (fun _ => ?_))
      | exact ih0 _ _ _
      | exact ih1 _ _ _ _ _
      | exact ih2 _ _ _ _ _ _ _
      | exact spec_Inverse.mono _ _ _
      | exact spec_SeriesOk.mono _ _ _
      | exact LeO.none _
      | refine LeO.ite ?_ ?_
      | refine LeO.bind ?_ (fun _ => ?_)
    · intro y0 y1 y2 y3 y4
      unfold spec_SeriesSqrt.l0
      repeat' first
      | (with_reducible exact ih0 _ _ _)
      | (with_reducible exact ih1 _ _ _ _ _)
      | (with_reducible exact ih2 _ _ _ _ _ _ _)
      | (with_reducible exact spec_Inverse.mono _ _ _)
      | (with_reducible exact spec_SeriesOk.mono _ _ _)
      | (with_reducible exact LeO.refl _)
      | (with_reducible exact LeO.none _)
      | (with_reducible refine LeO.ite ?_ ?_)
      | (with_reducible refine LeO.bind ?_ (fun _ => ?_))
      | exact ih0 _ _ _
      | exact ih1 _ _ _ _ _
      | exact ih2 _ _ _ _ _ _ _
      | exact spec_Inverse.mono _ _ _
      | exact spec_SeriesOk.mono _ _ _
      | exact LeO.none _
      | refine LeO.ite ?_ ?_
      | refine LeO.bind ?_ (fun _ => ?_)
    · intro y0 y1 y2 y3 y4 y5 y6
      unfold spec_SeriesSqrt.l1
      repeat' first
      | (with_reducible exact ih0 _ _ _)
      | (with_reducible exact ih1 _ _ _ _ _)
      | (with_reducible exact ih2 _ _ _ _ _ _ _)
      | (with_reducible exact spec_Inverse.mono _ _ _)
      | (with_reducible exact spec_SeriesOk.mono _ _ _)
      | (with_reducible exact LeO.refl _)
      | (with_reducible exact LeO.none _)
      | (with_reducible refine LeO.ite ?_ ?_)
      | (with_reducible refine LeO.bind ?_ (fun _ => ?_))
      | exact ih0 _ _ _
      | exact ih1 _ _ _ _ _
      | exact ih2 _ _ _ _ _ _ _
      | exact spec_Inverse.mono _ _ _
      | exact spec_SeriesOk.mono _ _ _
      | exact LeO.none _
      | refine LeO.ite ?_ ?_
      | refine LeO.bind ?_ (fun _ => ?_)
theorem spec_SeriesSqrt.mono : ∀ a0 a1 k, LeO (spec_SeriesSqrt.f k a0 a1) (spec_SeriesSqrt.f (k + 1) a0 a1) := by
  intro a0 a1 k
  obtain ⟨ih0, ih1, ih2⟩ := spec_SeriesSqrt.mono_l k
  unfold spec_SeriesSqrt.f
  repeat' first
      | (with_reducible exact ih0 _ _ _)
      | (with_reducible exact ih1 _ _ _ _ _)
      | (with_reducible exact ih2 _ _ _ _ _ _ _)
      | (with_reducible exact spec_Inverse.mono _ _ _)
      | (with_reducible exact spec_SeriesOk.mono _ _ _)
      | (with_reducible exact LeO.refl _)
      | (with_reducible exact LeO.none _)
      | (with_reducible refine LeO.ite ?_ ?_)
      | (with_reducible refine LeO.bind ?_ (fun _ => ?_))
      | exact ih0 _ _ _
      | exact ih1 _ _ _ _ _
      | exact ih2 _ _ _ _ _ _ _
      | exact spec_Inverse.mono _ _ _
      | exact spec_SeriesOk.mono _ _ _
      | exact LeO.none _
      | refine LeO.ite ?_ ?_
      | refine LeO.bind ?_ (fun _ => ?_)
set_option maxHeartbeats 8000000 in
set_option maxRecDepth 100000 in
theorem spec_SeriesSqrt.calls (k : Nat) (a0 : Int) (A1 : Option Addr) (c1 : Nat) (l1 : List Int) (r1 : List Int) (r2 : Bool) (w : World) (hr1 : Kd.C (Kd.int .i64) w A1 l1.length l1) (hc1 : l1.length ≤ c1) (h : spec_SeriesSqrt.f k a0 l1 = some (r1, r2)) :
    Calls Try.prog 15 #[.int .i64 a0, .slice A1 l1.length c1] w fun e w' => ∃ v0_ : Value, e = .returned (.tuple #[v0_, .bool r2]) ∧ Kd.R (Kd.int .i64) 3 w' w.heap.size (fun _ => True) v0_ r1 ∧ Below w.heap.size w w' := by
  have HR1 := Aside0.mk hr1
  have HC1 := Aside0.mk hc1
  clear hr1 hc1
  have HB := Aside0.mk (Below.refl w.heap.size w)
  have H : ((spec_SeriesOk.f k a0 l1).bind fun t118 => (if t118 = true then (if 0 < (l1.length : Int) then (spec_SeriesSqrt.j0 k a0 l1 ((rd l1 0) != 1)) else (none)) else (spec_SeriesSqrt.j0 k a0 l1 true))) = some (r1, r2) := h
  clear h
  have HC3 := Aside0.mk H
  clear H
  go_enter Try.func15, Try.ntmps15
  go_upto_region 1 with (fail)
  repeat (go_quiet (fail); go_upto_region 1 with (fail))
  go_cut [20] (fun v20 wc => ∃ (kq : Nat) (x20_2 : Bool), v20 = .bool x20_2 ∧ Aside0 (spec_SeriesSqrt.j0 kq a0 l1 x20_2 = some (r1, r2)) ∧ Aside0 (kq ≤ k) ∧ Aside0 (Below w.heap.size w wc))
  case first =>
    have H := HC3.out
    clear HC3
    replace H := Option.bind_eq_some_iff.mp H
    obtain ⟨t118, A40, H⟩ := H
    replace H : (if t118 = true then (if 0 < (l1.length : Int) then (spec_SeriesSqrt.j0 k a0 l1 ((rd l1 0) != 1)) else (none)) else (spec_SeriesSqrt.j0 k a0 l1 true)) = some (r1, r2) := H
    have A4 := Aside0.mk A40
    clear A40
    by_cases c5 : t118 = true
    · subst c5
      have H1 : (if 0 < (l1.length : Int) then (spec_SeriesSqrt.j0 k a0 l1 ((rd l1 0) != 1)) else (none)) = some (r1, r2) := by rw [if_pos rfl] at H; exact H
      clear H
      have H := H1
      clear H1
      by_cases c6 : 0 < (l1.length : Int)
      · rw [if_pos c6] at H
        have c6b0 : decide (0 < (l1.length : Int)) = true := decide_eq_true c6
        have c6b1 : decide (0 < l1.length) = true := decide_eq_true (by omega)
        clear c6
        (first | rw [c6b0] | (simp only [i64_w, i32_w]; rw [c6b0]) | skip)
        have H' := Aside0.mk H
        clear H
        go_wp2_with (first | (go_at_call 37; (with_reducible refine (spec_SeriesOk.calls k a0 _ _ l1 true _ ?side1 ?side2 A4.out).mono ?_); (case side1 => repeat (first | exact (Kd.C_below HR1.out HB.out) | (with_reducible refine Kd.C_alloc ?_ _) | (with_reducible refine Kd.C_drewN ?_ _) | (with_reducible refine Kd.C_drew ?_))); (case side2 => exact HC1.out); rintro e w' ⟨rfl, ⟨nd, rfl⟩⟩; (try first | exact ⟨rfl, _, World.drewN_drewN _ _ _⟩ | exact ⟨rfl, _, Eq.trans (World.drewN_drewN _ _ _) (congrArg (World.drewN _) (Nat.add_assoc _ _ _))⟩); have p119 : 0 ≤ (0 : Int) := (by omega); have q119 : 0 < (l1.length : Int) := of_decide_eq_true (by first | (with_reducible assumption) | assumption); obtain ⟨ad119, e119, hx119_0⟩ := Kd.at_int HR1.out 0 p119 q119; cases e119; have qi119 : (0 < l1.length) = True := eq_true (by omega); (try rw [show ((0 : Int)).toNat = 0 from rfl] at hx119_0); (try rw [Addr.add_zero'] at hx119_0); replace hx119_0 := (HB.out.cell (World.block_lt_of_cell? w _ hx119_0)).trans hx119_0; replace p119 := eq_true p119; replace q119 := eq_true q119))
        repeat (go_quiet (first | (go_at_call 37; (with_reducible refine (spec_SeriesOk.calls k a0 _ _ l1 true _ ?side1 ?side2 A4.out).mono ?_); (case side1 => repeat (first | exact (Kd.C_below HR1.out HB.out) | (with_reducible refine Kd.C_alloc ?_ _) | (with_reducible refine Kd.C_drewN ?_ _) | (with_reducible refine Kd.C_drew ?_))); (case side2 => exact HC1.out); rintro e w' ⟨rfl, ⟨nd, rfl⟩⟩; (try first | exact ⟨rfl, _, World.drewN_drewN _ _ _⟩ | exact ⟨rfl, _, Eq.trans (World.drewN_drewN _ _ _) (congrArg (World.drewN _) (Nat.add_assoc _ _ _))⟩); have p119 : 0 ≤ (0 : Int) := (by omega); have q119 : 0 < (l1.length : Int) := of_decide_eq_true (by first | (with_reducible assumption) | assumption); obtain ⟨ad119, e119, hx119_0⟩ := Kd.at_int HR1.out 0 p119 q119; cases e119; have qi119 : (0 < l1.length) = True := eq_true (by omega); (try rw [show ((0 : Int)).toNat = 0 from rfl] at hx119_0); (try rw [Addr.add_zero'] at hx119_0); replace hx119_0 := (HB.out.cell (World.block_lt_of_cell? w _ hx119_0)).trans hx119_0; replace p119 := eq_true p119; replace q119 := eq_true q119)); try go_wp2_with (first | (go_at_call 37; (with_reducible refine (spec_SeriesOk.calls k a0 _ _ l1 true _ ?side1 ?side2 A4.out).mono ?_); (case side1 => repeat (first | exact (Kd.C_below HR1.out HB.out) | (with_reducible refine Kd.C_alloc ?_ _) | (with_reducible refine Kd.C_drewN ?_ _) | (with_reducible refine Kd.C_drew ?_))); (case side2 => exact HC1.out); rintro e w' ⟨rfl, ⟨nd, rfl⟩⟩; (try first | exact ⟨rfl, _, World.drewN_drewN _ _ _⟩ | exact ⟨rfl, _, Eq.trans (World.drewN_drewN _ _ _) (congrArg (World.drewN _) (Nat.add_assoc _ _ _))⟩); have p119 : 0 ≤ (0 : Int) := (by omega); have q119 : 0 < (l1.length : Int) := of_decide_eq_true (by first | (with_reducible assumption) | assumption); obtain ⟨ad119, e119, hx119_0⟩ := Kd.at_int HR1.out 0 p119 q119; cases e119; have qi119 : (0 < l1.length) = True := eq_true (by omega); (try rw [show ((0 : Int)).toNat = 0 from rfl] at hx119_0); (try rw [Addr.add_zero'] at hx119_0); replace hx119_0 := (HB.out.cell (World.block_lt_of_cell? w _ hx119_0)).trans hx119_0; replace p119 := eq_true p119; replace q119 := eq_true q119)))
        go_meet
        case rel => exact ⟨_, (((rd l1 0) != 1)), (by first | rfl | (simp; done) | (simp [*]; done)), H', ⟨by first | omega | exact Nat.le_refl _⟩, ⟨by repeat (first | (with_reducible first | exact HB.out | apply below_alloc | apply pw_below_drewN | apply below_drew1) | exact HB.out)⟩⟩
      · rw [if_neg c6] at H
        exact absurd H (by simp)
    · replace c5 := Bool.eq_false_iff.mpr c5
      subst c5
      have H1 : (spec_SeriesSqrt.j0 k a0 l1 true) = some (r1, r2) := by rw [if_neg (show ¬ (false = true) by decide)] at H; exact H
      clear H
      have H := H1
      clear H1
      have H' := Aside0.mk H
      clear H
      go_wp2_with (first | (go_at_call 37; (with_reducible refine (spec_SeriesOk.calls k a0 _ _ l1 false _ ?side1 ?side2 A4.out).mono ?_); (case side1 => repeat (first | exact (Kd.C_below HR1.out HB.out) | (with_reducible refine Kd.C_alloc ?_ _) | (with_reducible refine Kd.C_drewN ?_ _) | (with_reducible refine Kd.C_drew ?_))); (case side2 => exact HC1.out); rintro e w' ⟨rfl, ⟨nd, rfl⟩⟩; (try first | exact ⟨rfl, _, World.drewN_drewN _ _ _⟩ | exact ⟨rfl, _, Eq.trans (World.drewN_drewN _ _ _) (congrArg (World.drewN _) (Nat.add_assoc _ _ _))⟩)))
      repeat (go_quiet (first | (go_at_call 37; (with_reducible refine (spec_SeriesOk.calls k a0 _ _ l1 false _ ?side1 ?side2 A4.out).mono ?_); (case side1 => repeat (first | exact (Kd.C_below HR1.out HB.out) | (with_reducible refine Kd.C_alloc ?_ _) | (with_reducible refine Kd.C_drewN ?_ _) | (with_reducible refine Kd.C_drew ?_))); (case side2 => exact HC1.out); rintro e w' ⟨rfl, ⟨nd, rfl⟩⟩; (try first | exact ⟨rfl, _, World.drewN_drewN _ _ _⟩ | exact ⟨rfl, _, Eq.trans (World.drewN_drewN _ _ _) (congrArg (World.drewN _) (Nat.add_assoc _ _ _))⟩))); try go_wp2_with (first | (go_at_call 37; (with_reducible refine (spec_SeriesOk.calls k a0 _ _ l1 false _ ?side1 ?side2 A4.out).mono ?_); (case side1 => repeat (first | exact (Kd.C_below HR1.out HB.out) | (with_reducible refine Kd.C_alloc ?_ _) | (with_reducible refine Kd.C_drewN ?_ _) | (with_reducible refine Kd.C_drew ?_))); (case side2 => exact HC1.out); rintro e w' ⟨rfl, ⟨nd, rfl⟩⟩; (try first | exact ⟨rfl, _, World.drewN_drewN _ _ _⟩ | exact ⟨rfl, _, Eq.trans (World.drewN_drewN _ _ _) (congrArg (World.drewN _) (Nat.add_assoc _ _ _))⟩))))
      go_meet
      case rel => exact ⟨_, (true), (by first | rfl | (simp; done) | (simp [*]; done)), H', ⟨by first | omega | exact Nat.le_refl _⟩, ⟨by repeat (first | (with_reducible first | exact HB.out | apply below_alloc | apply pw_below_drewN | apply below_drew1) | exact HB.out)⟩⟩
  case rest =>
    clear HC3
    try clear c1
    try clear p1
    try clear q1
    try clear hx1
    try clear qi1
    try clear p2
    try clear c5
    try clear c6
    try clear c6b0
    try clear c6b1
    try clear hx119_0
    try clear p119
    try clear q119
    obtain ⟨kq, x20_2, rfl, HA, HJ2, HB⟩ := hcut
    cases kq with
    | zero => exact absurd HA.out (by simp [spec_SeriesSqrt.j0])
    | succ kj2 =>
      have H := HA.out
      clear HA
      simp only [spec_SeriesSqrt.j0] at H
      by_cases c7 : x20_2 = true
      · subst c7
        have H1 : (some (([] : List Int), false)) = some (r1, r2) := by rw [if_pos rfl] at H; exact H
        clear H
        have H := H1
        clear H1
        simp only [Option.some.injEq, Prod.mk.injEq] at H
        obtain ⟨rfl, rfl⟩ := H
        go_wp2
        repeat (go_quiet (fail); try go_wp2)
        go_ret2
        exact ⟨_, by first | rfl | (simp [errW_none, errW_some] <;> rfl) | (simp [*, errW_none, errW_some] <;> rfl), by first | exact Kd.R_nil _ _ _ _ _ | exact Kd.N_nil _ _ _ _ _ | exact Kd.V_nil _ _ _ _ _ | exact Kd.Q_nil _ _ _ _ _ | exact Kd.S_nil _ _ _ _ _, by repeat (first | (with_reducible first | exact HB.out | apply below_alloc | apply pw_below_drewN | apply below_drew1) | exact HB.out)⟩
      · replace c7 := Bool.eq_false_iff.mpr c7
        subst c7
        have H1 : ((spec_Inverse.f kj2 a0 2).bind fun t120 => (spec_SeriesSqrt.l0 kj2 a0 l1 t120 (([1] : List Int)) 1)) = some (r1, r2) := by rw [if_neg (show ¬ (false = true) by decide)] at H; exact H
        clear H
        have H := H1
        clear H1
        replace H := Option.bind_eq_some_iff.mp H
        obtain ⟨t120, A80, H⟩ := H
        replace H : (spec_SeriesSqrt.l0 kj2 a0 l1 t120 (([1] : List Int)) 1) = some (r1, r2) := H
        have A8 := Aside0.mk A80
        clear A80
        obtain ⟨y121, hy121⟩ : ∃ y_ : List Int, y_ = (([1] : List Int)) := ⟨_, rfl⟩
        replace H : (spec_SeriesSqrt.l0 kj2 a0 l1 t120 y121 1) = some (r1, r2) := by first | (rw [hy121]; with_reducible exact H) | (have H2_ := (Option.bind_some _ _).symm.trans H; rw [hy121]; with_reducible exact H2_) | (have H2_ := (Option.bind_some _ _).symm.trans H; with_reducible exact H2_) | with_reducible exact H | (rw [hy121]; exact H) | exact H
        have Ny121 := Aside0.mk hy121
        clear hy121
        have H' := Aside0.mk H
        clear H
        go_wp2_with (first | (go_at_call 61; (with_reducible refine (spec_Inverse.calls kj2 a0 2 t120 _ A8.out).mono ?_); rintro e w' ⟨rfl, ⟨nd, rfl⟩⟩; (try first | exact ⟨rfl, _, World.drewN_drewN _ _ _⟩ | exact ⟨rfl, _, Eq.trans (World.drewN_drewN _ _ _) (congrArg (World.drewN _) (Nat.add_assoc _ _ _))⟩)) | ((with_reducible refine gate_dst (N := 23) rfl ?_); refine Kd.R_lit (Kd.int .i64) _ 3 ?hg (N := 23) ?hd (xs := ([1] : List Int)) (inner := [.int .i64 1]) (ok := fun _ => True) (okp := fun _ => True) ?hr ?hp (fun _ hk => hk) trivial (Below.refl _ _) (Nat.le_refl _) (by simp) ?_; (case hd => rfl); (case hg => rfl); (case hr => first | (go_simp; done) | (go_simp; rfl)); (case hp => exact (Reps.one (show Kd.M (Kd.int .i64) _ _ _ 1 [.int .i64 1] from rfl) (Reps.none _ _))); intro v122 w9 ho10 hb hg_ hnew_; clear hg_ hnew_; (first | rw [← Ny121.out] at ho10 | (simp only [Int.reduceToNat] at ho10; rw [← Ny121.out] at ho10)); have n0_ := Aside0.mk (Kd.R_lower ho10 (below_size (by repeat (first | (with_reducible first | exact HB.out | apply below_alloc | apply pw_below_drewN | apply below_drew1) | exact HB.out)))); have n1_ := Aside0.mk (below_step (by repeat (first | (with_reducible first | exact HB.out | apply below_alloc | apply pw_below_drewN | apply below_drew1) | exact HB.out)) hb); clear HB; have HO123 := n0_; have HB := n1_; clear n0_ n1_; clear hb ho10))
        repeat (go_quiet (first | (go_at_call 61; (with_reducible refine (spec_Inverse.calls kj2 a0 2 t120 _ A8.out).mono ?_); rintro e w' ⟨rfl, ⟨nd, rfl⟩⟩; (try first | exact ⟨rfl, _, World.drewN_drewN _ _ _⟩ | exact ⟨rfl, _, Eq.trans (World.drewN_drewN _ _ _) (congrArg (World.drewN _) (Nat.add_assoc _ _ _))⟩)) | ((with_reducible refine gate_dst (N := 23) rfl ?_); refine Kd.R_lit (Kd.int .i64) _ 3 ?hg (N := 23) ?hd (xs := ([1] : List Int)) (inner := [.int .i64 1]) (ok := fun _ => True) (okp := fun _ => True) ?hr ?hp (fun _ hk => hk) trivial (Below.refl _ _) (Nat.le_refl _) (by simp) ?_; (case hd => rfl); (case hg => rfl); (case hr => first | (go_simp; done) | (go_simp; rfl)); (case hp => exact (Reps.one (show Kd.M (Kd.int .i64) _ _ _ 1 [.int .i64 1] from rfl) (Reps.none _ _))); intro v122 w9 ho10 hb hg_ hnew_; clear hg_ hnew_; (first | rw [← Ny121.out] at ho10 | (simp only [Int.reduceToNat] at ho10; rw [← Ny121.out] at ho10)); have n0_ := Aside0.mk (Kd.R_lower ho10 (below_size (by repeat (first | (with_reducible first | exact HB.out | apply below_alloc | apply pw_below_drewN | apply below_drew1) | exact HB.out)))); have n1_ := Aside0.mk (below_step (by repeat (first | (with_reducible first | exact HB.out | apply below_alloc | apply pw_below_drewN | apply below_drew1) | exact HB.out)) hb); clear HB; have HO123 := n0_; have HB := n1_; clear n0_ n1_; clear hb ho10)); try go_wp2_with (first | (go_at_call 61; (with_reducible refine (spec_Inverse.calls kj2 a0 2 t120 _ A8.out).mono ?_); rintro e w' ⟨rfl, ⟨nd, rfl⟩⟩; (try first | exact ⟨rfl, _, World.drewN_drewN _ _ _⟩ | exact ⟨rfl, _, Eq.trans (World.drewN_drewN _ _ _) (congrArg (World.drewN _) (Nat.add_assoc _ _ _))⟩)) | ((with_reducible refine gate_dst (N := 23) rfl ?_); refine Kd.R_lit (Kd.int .i64) _ 3 ?hg (N := 23) ?hd (xs := ([1] : List Int)) (inner := [.int .i64 1]) (ok := fun _ => True) (okp := fun _ => True) ?hr ?hp (fun _ hk => hk) trivial (Below.refl _ _) (Nat.le_refl _) (by simp) ?_; (case hd => rfl); (case hg => rfl); (case hr => first | (go_simp; done) | (go_simp; rfl)); (case hp => exact (Reps.one (show Kd.M (Kd.int .i64) _ _ _ 1 [.int .i64 1] from rfl) (Reps.none _ _))); intro v122 w9 ho10 hb hg_ hnew_; clear hg_ hnew_; (first | rw [← Ny121.out] at ho10 | (simp only [Int.reduceToNat] at ho10; rw [← Ny121.out] at ho10)); have n0_ := Aside0.mk (Kd.R_lower ho10 (below_size (by repeat (first | (with_reducible first | exact HB.out | apply below_alloc | apply pw_below_drewN | apply below_drew1) | exact HB.out)))); have n1_ := Aside0.mk (below_step (by repeat (first | (with_reducible first | exact HB.out | apply below_alloc | apply pw_below_drewN | apply below_drew1) | exact HB.out)) hb); clear HB; have HO123 := n0_; have HB := n1_; clear n0_ n1_; clear hb ho10)))
        go_loopg [7, 8] kj2 (fun kq v7 v8 w' => ∃ (x7_2 : List Int) (x8_2 : Int), v8 = .int .i64 x8_2 ∧ Aside0 (spec_SeriesSqrt.l0 kq a0 l1 t120 x7_2 x8_2 = some (r1, r2)) ∧ Aside0 (kq ≤ kj2) ∧ Aside0 (Kd.R (Kd.int .i64) 3 w' w.heap.size (fun _ => True) v7 x7_2) ∧ Aside0 (Below w.heap.size w w'))
        case atStart => exact ⟨(y121), (1), (by first | rfl | (simp; done) | (simp [*]; done)), H', ⟨Nat.le_refl _⟩, ⟨by (with_reducible repeat (first | apply Kd.R_alloc | apply Kd.R_drewN | apply Kd.R_drew)); exact HO123.out⟩, ⟨by repeat (first | (with_reducible first | exact HB.out | apply below_alloc | apply pw_below_drewN | apply below_drew1) | exact HB.out)⟩⟩
        case round =>
          clear H'
          try clear c1
          try clear p1
          try clear q1
          try clear hx1
          try clear qi1
          try clear p2
          try clear c5
          try clear c6
          try clear c6b0
          try clear c6b1
          try clear c7
          try clear hx119_0
          try clear p1
          try clear p119
          try clear p2
          try clear q1
          try clear q119
          obtain ⟨x7_2, x8_2, rfl, HA, HK2, HO_7, HB⟩ := hrel
          cases gk with
          | zero => exact absurd HA.out (by simp [spec_SeriesSqrt.l0])
          | succ k2 =>
            have H := HA.out
            clear HA
            simp only [spec_SeriesSqrt.l0] at H
            by_cases c11 : x8_2 < (l1.length : Int)
            · rw [if_pos c11] at H
              have c11b0 : decide (x8_2 < (l1.length : Int)) = true := decide_eq_true c11
              clear c11
              by_cases c12 : 0 ≤ x8_2
              · rw [if_pos c12] at H
                have c12b0 : decide (0 ≤ x8_2) = true := decide_eq_true c12
                clear c12
                have H' := Aside0.mk H
                clear H
                have p124 : 0 ≤ (x8_2 : Int) := of_decide_eq_true (by first | (with_reducible assumption) | assumption)
                have q124 : x8_2 < (l1.length : Int) := of_decide_eq_true (by first | (with_reducible assumption) | assumption)
                obtain ⟨ad124, e124, hx124_0⟩ := Kd.at_int HR1.out x8_2 p124 q124
                cases e124
                replace hx124_0 := (HB.out.cell (World.block_lt_of_cell? w _ hx124_0)).trans hx124_0
                replace p124 := eq_true p124
                replace q124 := eq_true q124
                go_wp2
                repeat (go_quiet (fail); try go_wp2)
                go_loopg [9, 10] k2 (fun kq v9 v10 w' => ∃ (x9_3 : Int) (x10_3 : Int), v9 = .int .i64 x9_3 ∧ v10 = .int .i64 x10_3 ∧ Aside0 (spec_SeriesSqrt.l1 kq a0 l1 t120 x7_2 x8_2 x9_3 x10_3 = some (r1, r2)) ∧ Aside0 (kq ≤ k2) ∧ Aside0 (Kd.R (Kd.int .i64) 3 w' w.heap.size (fun _ => True) u7 x7_2) ∧ Aside0 (Below w.heap.size w w'))
                case atStart => exact ⟨(rd l1 x8_2), (1), (by first | rfl | (simp; done) | (simp [*]; done)), (by first | rfl | (simp; done) | (simp [*]; done)), H', ⟨Nat.le_refl _⟩, ⟨by (with_reducible repeat (first | apply Kd.R_alloc | apply Kd.R_drewN | apply Kd.R_drew)); exact HO_7.out⟩, ⟨by repeat (first | (with_reducible first | exact HB.out | apply below_alloc | apply pw_below_drewN | apply below_drew1) | exact HB.out)⟩⟩
                case round =>
                  clear H'
                  try clear c1
                  try clear p1
                  try clear q1
                  try clear hx1
                  try clear qi1
                  try clear p2
                  try clear c5
                  try clear c6
                  try clear c6b0
                  try clear c6b1
                  try clear c7
                  try clear c11
                  try clear c11b0
                  try clear p11
                  try clear q11
                  try clear hx11
                  try clear qi11
                  try clear c12
                  try clear c12b0
                  try clear p12
                  try clear q12
                  try clear hx12
                  try clear hx119_0
                  try clear hx124_0
                  try clear p1
                  try clear p119
                  try clear p124
                  try clear p2
                  try clear q1
                  try clear q119
                  try clear q124
                  obtain ⟨x9_3, x10_3, rfl, rfl, HA, HK3, HO_7, HB⟩ := hrel
                  cases gk with
                  | zero => exact absurd HA.out (by simp [spec_SeriesSqrt.l1])
                  | succ k3 =>
                    have H := HA.out
                    clear HA
                    simp only [spec_SeriesSqrt.l1] at H
                    by_cases c13 : x10_3 < x8_2
                    · rw [if_pos c13] at H
                      have c13b0 : decide (x10_3 < x8_2) = true := decide_eq_true c13
                      clear c13
                      by_cases c14 : 0 ≤ x10_3
                      · rw [if_pos c14] at H
                        have c14b0 : decide (0 ≤ x10_3) = true := decide_eq_true c14
                        clear c14
                        by_cases c15 : x10_3 < (x7_2.length : Int)
                        · rw [if_pos c15] at H
                          have c15b0 : decide (x10_3 < (x7_2.length : Int)) = true := decide_eq_true c15
                          clear c15
                          obtain ⟨ji16, hji16⟩ : ∃ j_ : Int, (wrap64 (x8_2 - x10_3)) = j_ := ⟨_, rfl⟩
                          replace H : (if 0 ≤ (ji16) then (if (ji16) < (x7_2.length : Int) then ((spec_Mul.f a0 (rd x7_2 x10_3) (rd x7_2 (ji16))).bind fun t127 => ((spec_Sub.f a0 x9_3 t127).bind fun t128 => (spec_SeriesSqrt.l1 k3 a0 l1 t120 x7_2 x8_2 t128 (wrap64 (x10_3 + 1))))) else (none)) else (none)) = some (r1, r2) := by first | (rw [hji16] at H; exact H) | (simp only [hji16] at H ⊢; exact H)
                          have hji16w : (IntKind.i64.wrap (x8_2 - x10_3)) = ji16 := (i64_w _).trans hji16
                          by_cases c17 : 0 ≤ (ji16)
                          · rw [if_pos c17] at H
                            have c17b0 : decide (0 ≤ (ji16)) = true := decide_eq_true c17
                            clear c17
                            by_cases c18 : (ji16) < (x7_2.length : Int)
                            · rw [if_pos c18] at H
                              have c18b0 : decide ((ji16) < (x7_2.length : Int)) = true := decide_eq_true c18
                              clear c18
                              replace H := Option.bind_eq_some_iff.mp H
                              obtain ⟨t127, A190, H⟩ := H
                              replace H : ((spec_Sub.f a0 x9_3 t127).bind fun t128 => (spec_SeriesSqrt.l1 k3 a0 l1 t120 x7_2 x8_2 t128 (wrap64 (x10_3 + 1)))) = some (r1, r2) := H
                              have A19 := Aside0.mk A190
                              clear A190
                              replace H := Option.bind_eq_some_iff.mp H
                              obtain ⟨t128, A200, H⟩ := H
                              replace H : (spec_SeriesSqrt.l1 k3 a0 l1 t120 x7_2 x8_2 t128 (wrap64 (x10_3 + 1))) = some (r1, r2) := H
                              have A20 := Aside0.mk A200
                              clear A200
                              have H' := Aside0.mk H
                              clear H
                              obtain ⟨Ao21, co21, eo21⟩ := Kd.R_slice HO_7.out
                              subst eo21
                              have p125 : 0 ≤ (x10_3 : Int) := of_decide_eq_true (by first | (with_reducible assumption) | assumption)
                              have q125 : x10_3 < (x7_2.length : Int) := of_decide_eq_true (by first | (with_reducible assumption) | assumption)
                              obtain ⟨ad125, e125, hx125_0⟩ := Kd.at_int (Kd.R_reads' HO_7.out).2.2 x10_3 p125 q125
                              cases e125
                              replace p125 := eq_true p125
                              replace q125 := eq_true q125
                              have p126 : 0 ≤ ((ji16) : Int) := of_decide_eq_true (by first | (with_reducible assumption) | assumption)
                              have q126 : (ji16) < (x7_2.length : Int) := of_decide_eq_true (by first | (with_reducible assumption) | assumption)
                              obtain ⟨ad126, e126, hx126_0⟩ := Kd.at_int (Kd.R_reads' HO_7.out).2.2 (ji16) p126 q126
                              obtain rfl : ad125 = ad126 := (by injection e126)
                              replace p126 := eq_true p126
                              replace q126 := eq_true q126
                              go_wp2_with (first | (go_at_call 47; (with_reducible refine (spec_Mul.calls a0 (rd x7_2 x10_3) (rd x7_2 (ji16)) t127 _ A19.out).mono ?_); rintro e w' ⟨rfl, ⟨nd, rfl⟩⟩; (try first | exact ⟨rfl, _, World.drewN_drewN _ _ _⟩ | exact ⟨rfl, _, Eq.trans (World.drewN_drewN _ _ _) (congrArg (World.drewN _) (Nat.add_assoc _ _ _))⟩)) | (go_at_call 62; (with_reducible refine (spec_Sub.calls a0 x9_3 t127 t128 _ A20.out).mono ?_); rintro e w' ⟨rfl, ⟨nd, rfl⟩⟩; (try first | exact ⟨rfl, _, World.drewN_drewN _ _ _⟩ | exact ⟨rfl, _, Eq.trans (World.drewN_drewN _ _ _) (congrArg (World.drewN _) (Nat.add_assoc _ _ _))⟩)))
                              repeat (go_quiet (first | (go_at_call 47; (with_reducible refine (spec_Mul.calls a0 (rd x7_2 x10_3) (rd x7_2 (ji16)) t127 _ A19.out).mono ?_); rintro e w' ⟨rfl, ⟨nd, rfl⟩⟩; (try first | exact ⟨rfl, _, World.drewN_drewN _ _ _⟩ | exact ⟨rfl, _, Eq.trans (World.drewN_drewN _ _ _) (congrArg (World.drewN _) (Nat.add_assoc _ _ _))⟩)) | (go_at_call 62; (with_reducible refine (spec_Sub.calls a0 x9_3 t127 t128 _ A20.out).mono ?_); rintro e w' ⟨rfl, ⟨nd, rfl⟩⟩; (try first | exact ⟨rfl, _, World.drewN_drewN _ _ _⟩ | exact ⟨rfl, _, Eq.trans (World.drewN_drewN _ _ _) (congrArg (World.drewN _) (Nat.add_assoc _ _ _))⟩))); try go_wp2_with (first | (go_at_call 47; (with_reducible refine (spec_Mul.calls a0 (rd x7_2 x10_3) (rd x7_2 (ji16)) t127 _ A19.out).mono ?_); rintro e w' ⟨rfl, ⟨nd, rfl⟩⟩; (try first | exact ⟨rfl, _, World.drewN_drewN _ _ _⟩ | exact ⟨rfl, _, Eq.trans (World.drewN_drewN _ _ _) (congrArg (World.drewN _) (Nat.add_assoc _ _ _))⟩)) | (go_at_call 62; (with_reducible refine (spec_Sub.calls a0 x9_3 t127 t128 _ A20.out).mono ?_); rintro e w' ⟨rfl, ⟨nd, rfl⟩⟩; (try first | exact ⟨rfl, _, World.drewN_drewN _ _ _⟩ | exact ⟨rfl, _, Eq.trans (World.drewN_drewN _ _ _) (congrArg (World.drewN _) (Nat.add_assoc _ _ _))⟩))))
                              go_roundg k3
                              case measure => have := HJ2.out; have := HK2.out; have := HK3.out; omega
                              case rel => exact ⟨(t128), (wrap64 (x10_3 + 1)), (by first | rfl | (simp; done) | (simp [*]; done)), (by first | rfl | (simp; done) | (simp [*]; done)), H', ⟨by have := HJ2.out; have := HK2.out; have := HK3.out; omega⟩, ⟨by (with_reducible repeat (first | apply Kd.R_alloc | apply Kd.R_drewN | apply Kd.R_drew)); exact HO_7.out⟩, ⟨by repeat (first | (with_reducible first | exact HB.out | apply below_alloc | apply pw_below_drewN | apply below_drew1) | exact HB.out)⟩⟩
                            · rw [if_neg c18] at H
                              exact absurd H (by simp)
                          · rw [if_neg c17] at H
                            exact absurd H (by simp)
                        · rw [if_neg c15] at H
                          exact absurd H (by simp)
                      · rw [if_neg c14] at H
                        exact absurd H (by simp)
                    · rw [if_neg c13] at H
                      have c13b0 : decide (x10_3 < x8_2) = false := decide_eq_false c13
                      clear c13
                      replace H := Option.bind_eq_some_iff.mp H
                      obtain ⟨t129, A220, H⟩ := H
                      replace H : (if x7_2.length < 17592186044416 then (spec_SeriesSqrt.l0 k3 a0 l1 t120 (x7_2 ++ [t129]) (wrap64 (x8_2 + 1))) else (none)) = some (r1, r2) := H
                      have A22 := Aside0.mk A220
                      clear A220
                      by_cases c23 : x7_2.length < 17592186044416
                      · rw [if_pos c23] at H
                        have LMc23 := Aside0.mk c23
                        clear c23
                        obtain ⟨y130, hy130⟩ : ∃ y_ : List Int, y_ = (x7_2 ++ [t129]) := ⟨_, rfl⟩
                        replace H : (spec_SeriesSqrt.l0 k3 a0 l1 t120 y130 (wrap64 (x8_2 + 1))) = some (r1, r2) := by first | (rw [hy130]; with_reducible exact H) | (have H2_ := (Option.bind_some _ _).symm.trans H; rw [hy130]; with_reducible exact H2_) | (have H2_ := (Option.bind_some _ _).symm.trans H; with_reducible exact H2_) | with_reducible exact H | (rw [hy130]; exact H) | exact H
                        have Ny130 := Aside0.mk hy130
                        clear hy130
                        have H' := Aside0.mk H
                        clear H
                        go_wp2_with (first | (go_at_call 47; (with_reducible refine (spec_Mul.calls a0 x9_3 t120 t129 _ A22.out).mono ?_); rintro e w' ⟨rfl, ⟨nd, rfl⟩⟩; (try first | exact ⟨rfl, _, World.drewN_drewN _ _ _⟩ | exact ⟨rfl, _, Eq.trans (World.drewN_drewN _ _ _) (congrArg (World.drewN _) (Nat.add_assoc _ _ _))⟩)) | ((with_reducible refine gate_builtin (b := .append) (xs := #[.tmp 54, .tmp 59]) rfl ?_); at_builtin; refine Kd.R_append (Kd.int .i64) (w0 := w) w.heap.size rfl (.tmp 54) (.tmp 59) 22 3 (.int .i64 0) 8 rfl Try.underlying22 info3 rfl (by decide) (by omega) u7 x7_2 t129 [.int .i64 t129] (fun _ => True) (fun _ => False) rfl rfl ?aP (fun _ hk => hk.elim) ?aF ?aO ?aB ?aS ?aL ?_; (case aP => exact rfl); (case aB => exact (by repeat (first | (with_reducible first | exact HB.out | apply below_alloc | apply pw_below_drewN | apply below_drew1) | exact HB.out))); (case aF => exact (fun _ _ => trivial)); (case aO => exact (by (with_reducible repeat (first | apply Kd.R_alloc | apply Kd.R_drewN | apply Kd.R_drew)); exact HO_7.out)); (case aS => exact (below_size (by repeat (first | (with_reducible first | exact HB.out | apply below_alloc | apply pw_below_drewN | apply below_drew1) | exact HB.out)))); (case aL => have := LMc23.out; omega); intro v131 w24 ho hb hg hat; rw [← Ny130.out] at ho; have n0_ := Aside0.mk (hb); have n1_ := Aside0.mk (ho); clear HB; clear HO_7; have HB := n0_; have HO132 := n1_; clear n0_ n1_; clear ho hb hg hat))
                        repeat (go_quiet (first | (go_at_call 47; (with_reducible refine (spec_Mul.calls a0 x9_3 t120 t129 _ A22.out).mono ?_); rintro e w' ⟨rfl, ⟨nd, rfl⟩⟩; (try first | exact ⟨rfl, _, World.drewN_drewN _ _ _⟩ | exact ⟨rfl, _, Eq.trans (World.drewN_drewN _ _ _) (congrArg (World.drewN _) (Nat.add_assoc _ _ _))⟩)) | ((with_reducible refine gate_builtin (b := .append) (xs := #[.tmp 54, .tmp 59]) rfl ?_); at_builtin; refine Kd.R_append (Kd.int .i64) (w0 := w) w.heap.size rfl (.tmp 54) (.tmp 59) 22 3 (.int .i64 0) 8 rfl Try.underlying22 info3 rfl (by decide) (by omega) u7 x7_2 t129 [.int .i64 t129] (fun _ => True) (fun _ => False) rfl rfl ?aP (fun _ hk => hk.elim) ?aF ?aO ?aB ?aS ?aL ?_; (case aP => exact rfl); (case aB => exact (by repeat (first | (with_reducible first | exact HB.out | apply below_alloc | apply pw_below_drewN | apply below_drew1) | exact HB.out))); (case aF => exact (fun _ _ => trivial)); (case aO => exact (by (with_reducible repeat (first | apply Kd.R_alloc | apply Kd.R_drewN | apply Kd.R_drew)); exact HO_7.out)); (case aS => exact (below_size (by repeat (first | (with_reducible first | exact HB.out | apply below_alloc | apply pw_below_drewN | apply below_drew1) | exact HB.out)))); (case aL => have := LMc23.out; omega); intro v131 w24 ho hb hg hat; rw [← Ny130.out] at ho; have n0_ := Aside0.mk (hb); have n1_ := Aside0.mk (ho); clear HB; clear HO_7; have HB := n0_; have HO132 := n1_; clear n0_ n1_; clear ho hb hg hat)); try go_wp2_with (first | (go_at_call 47; (with_reducible refine (spec_Mul.calls a0 x9_3 t120 t129 _ A22.out).mono ?_); rintro e w' ⟨rfl, ⟨nd, rfl⟩⟩; (try first | exact ⟨rfl, _, World.drewN_drewN _ _ _⟩ | exact ⟨rfl, _, Eq.trans (World.drewN_drewN _ _ _) (congrArg (World.drewN _) (Nat.add_assoc _ _ _))⟩)) | ((with_reducible refine gate_builtin (b := .append) (xs := #[.tmp 54, .tmp 59]) rfl ?_); at_builtin; refine Kd.R_append (Kd.int .i64) (w0 := w) w.heap.size rfl (.tmp 54) (.tmp 59) 22 3 (.int .i64 0) 8 rfl Try.underlying22 info3 rfl (by decide) (by omega) u7 x7_2 t129 [.int .i64 t129] (fun _ => True) (fun _ => False) rfl rfl ?aP (fun _ hk => hk.elim) ?aF ?aO ?aB ?aS ?aL ?_; (case aP => exact rfl); (case aB => exact (by repeat (first | (with_reducible first | exact HB.out | apply below_alloc | apply pw_below_drewN | apply below_drew1) | exact HB.out))); (case aF => exact (fun _ _ => trivial)); (case aO => exact (by (with_reducible repeat (first | apply Kd.R_alloc | apply Kd.R_drewN | apply Kd.R_drew)); exact HO_7.out)); (case aS => exact (below_size (by repeat (first | (with_reducible first | exact HB.out | apply below_alloc | apply pw_below_drewN | apply below_drew1) | exact HB.out)))); (case aL => have := LMc23.out; omega); intro v131 w24 ho hb hg hat; rw [← Ny130.out] at ho; have n0_ := Aside0.mk (hb); have n1_ := Aside0.mk (ho); clear HB; clear HO_7; have HB := n0_; have HO132 := n1_; clear n0_ n1_; clear ho hb hg hat)))
                        go_roundg k3
                        case measure => have := HJ2.out; have := HK2.out; have := HK3.out; omega
                        case rel => exact ⟨(y130), (wrap64 (x8_2 + 1)), (by first | rfl | (simp; done) | (simp [*]; done)), H', ⟨by have := HJ2.out; have := HK2.out; have := HK3.out; omega⟩, ⟨by (with_reducible repeat (first | apply Kd.R_alloc | apply Kd.R_drewN | apply Kd.R_drew)); exact HO132.out⟩, ⟨by repeat (first | (with_reducible first | exact HB.out | apply below_alloc | apply pw_below_drewN | apply below_drew1) | exact HB.out)⟩⟩
                      · rw [if_neg c23] at H
                        exact absurd H (by simp)
              · rw [if_neg c12] at H
                exact absurd H (by simp)
            · rw [if_neg c11] at H
              have c11b0 : decide (x8_2 < (l1.length : Int)) = false := decide_eq_false c11
              clear c11
              simp only [Option.some.injEq, Prod.mk.injEq] at H
              obtain ⟨rfl, rfl⟩ := H
              go_wp2
              repeat (go_quiet (fail); try go_wp2)
              go_ret2
              exact ⟨_, by first | rfl | (simp [errW_none, errW_some] <;> rfl) | (simp [*, errW_none, errW_some] <;> rfl), by (with_reducible repeat (first | apply Kd.R_alloc | apply Kd.R_drewN | apply Kd.R_drew)); exact HO_7.out, by repeat (first | (with_reducible first | exact HB.out | apply below_alloc | apply pw_below_drewN | apply below_drew1) | exact HB.out)⟩

/-! ### laws_toIntS: function 16 -/
def laws_toIntS.l0 : Nat → List Int → List Int → Int → Option (List Int)
  | 0, _, _, _ => none
  | k + 1, x0, x3, x4 => if x4 < (x0.length : Int) then (if 0 ≤ x4 then (if x4 < (x3.length : Int) then (laws_toIntS.l0 k x0 (x3.set (x4 : Int).toNat (rd x0 x4)) (wrap64 (x4 + 1))) else (none)) else (none)) else (some x3)
def laws_toIntS.f (k : Nat) (l0 : List Int) : Option (List Int) := if 0 ≤ (l0.length : Int) then (if ((l0.length : Int) : Int).toNat ≤ 35184372088832 then (laws_toIntS.l0 k l0 (List.replicate ((l0.length : Int) : Int).toNat 0) 0) else (none)) else (none)
theorem laws_toIntS.mono_l : ∀ k, (∀ y0 y1 y2, LeO (laws_toIntS.l0 k y0 y1 y2) (laws_toIntS.l0 (k + 1) y0 y1 y2))
  | 0 => fun _ _ _ r h => by simp [laws_toIntS.l0] at h
  | k + 1 => by
    have ih0 := laws_toIntS.mono_l k
    · intro y0 y1 y2
      unfold laws_toIntS.l0
      repeat' first
      | (with_reducible exact ih0 _ _ _)
      | (with_reducible exact LeO.refl _)
      | (with_reducible exact LeO.none _)
      | (with_reducible refine LeO.ite ?_ ?_)
      | (with_reducible refine LeO.bind ?_ (fun _ => ?_))
      | exact ih0 _ _ _
      | exact LeO.none _
      | refine LeO.ite ?_ ?_
      | refine LeO.bind ?_ (fun _ => ?_)
theorem laws_toIntS.mono : ∀ a0 k, LeO (laws_toIntS.f k a0) (laws_toIntS.f (k + 1) a0) := by
  intro a0 k
  have ih0 := laws_toIntS.mono_l k
  unfold laws_toIntS.f
  repeat' first
      | (with_reducible exact ih0 _ _ _)
      | (with_reducible exact LeO.refl _)
      | (with_reducible exact LeO.none _)
      | (with_reducible refine LeO.ite ?_ ?_)
      | (with_reducible refine LeO.bind ?_ (fun _ => ?_))
      | exact ih0 _ _ _
      | exact LeO.none _
      | refine LeO.ite ?_ ?_
      | refine LeO.bind ?_ (fun _ => ?_)
set_option maxHeartbeats 8000000 in
set_option maxRecDepth 100000 in
theorem laws_toIntS.calls (k : Nat) (A0 : Option Addr) (c0 : Nat) (l0 : List Int) (r : List Int) (w : World) (hr0 : Kd.C (Kd.int .i64) w A0 l0.length l0) (hc0 : l0.length ≤ c0) (h : laws_toIntS.f k l0 = some r) :
    Calls Try.prog 16 #[.slice A0 l0.length c0] w fun e w' => ∃ v0_ : Value, e = .returned (v0_) ∧ Kd.R (Kd.int .i64) 3 w' w.heap.size (fun _ => True) v0_ r ∧ Below w.heap.size w w' := by
  have HR0 := Aside0.mk hr0
  have HC0 := Aside0.mk hc0
  clear hr0 hc0
  have HB := Aside0.mk (Below.refl w.heap.size w)
  have H : (if 0 ≤ (l0.length : Int) then (if ((l0.length : Int) : Int).toNat ≤ 35184372088832 then (laws_toIntS.l0 k l0 (List.replicate ((l0.length : Int) : Int).toNat 0) 0) else (none)) else (none)) = some r := h
  clear h
  by_cases c2 : 0 ≤ (l0.length : Int)
  · rw [if_pos c2] at H
    have c2b0 := eq_true c2
    have c2b1 : decide (0 ≤ (l0.length : Int)) = true := decide_eq_true c2
    have HLE_0 := Aside0.mk c2
    clear c2
    by_cases c3 : ((l0.length : Int) : Int).toNat ≤ 35184372088832
    · rw [if_pos c3] at H
      have c3b0 := eq_true c3
      have c3b1 : decide (((l0.length : Int) : Int).toNat ≤ 35184372088832) = true := decide_eq_true c3
      clear c3
      obtain ⟨y133, hy133⟩ : ∃ y_ : List Int, y_ = (List.replicate ((l0.length : Int) : Int).toNat 0) := ⟨_, rfl⟩
      replace H : (laws_toIntS.l0 k l0 y133 0) = some r := by first | (rw [hy133]; with_reducible exact H) | (have H2_ := (Option.bind_some _ _).symm.trans H; rw [hy133]; with_reducible exact H2_) | (have H2_ := (Option.bind_some _ _).symm.trans H; with_reducible exact H2_) | with_reducible exact H | (rw [hy133]; exact H) | exact H
      have Ny133 := Aside0.mk hy133
      clear hy133
      have H' := Aside0.mk H
      clear H
      go_enter Try.func16, Try.ntmps16
      go_wp2_with (first | ((with_reducible refine gate_dst (N := 7) rfl ?_); refine Kd.R_make (Kd.int .i64) _ 3 rfl (N := 7) rfl 22 _ _ rfl (l0.length : Int) rfl rfl Try.underlying22 (.int .i64 0) 8 info3 rfl (by decide) (by omega) 0 (ok := fun _ => True) (okp := fun _ => True) rfl (fun _ hk => hk) trivial (of_decide_eq_true (by first | (with_reducible assumption) | assumption)) (Nat.le_trans (Nat.mul_le_mul_right _ (of_decide_eq_true (by first | (with_reducible assumption) | assumption) : (l0.length : Int).toNat ≤ 35184372088832)) (by omega)) (Below.refl _ _) (Nat.le_refl _) ?_; intro v134 w4 ho5 hb hg_ hnew_; clear hg_ hnew_; (first | rw [← Ny133.out] at ho5 | (simp only [Int.reduceToNat] at ho5; rw [← Ny133.out] at ho5)); have n0_ := Aside0.mk (Kd.R_lower ho5 (below_size (by repeat (first | (with_reducible first | exact HB.out | apply below_alloc | apply pw_below_drewN | apply below_drew1) | exact HB.out)))); have n1_ := Aside0.mk (below_step (by repeat (first | (with_reducible first | exact HB.out | apply below_alloc | apply pw_below_drewN | apply below_drew1) | exact HB.out)) hb); clear HB; have HO135 := n0_; have HB := n1_; clear n0_ n1_; clear hb ho5))
      go_loopg [4] k (fun kq v4 w' => ∃ (x3_1 : List Int) (x4_1 : Int), v4 = .int .i64 x4_1 ∧ Aside0 (laws_toIntS.l0 kq l0 x3_1 x4_1 = some r) ∧ Aside0 (kq ≤ k) ∧ Aside0 (Kd.R (Kd.int .i64) 3 w' w.heap.size (fun _ => True) v134 x3_1) ∧ Aside0 (Below w.heap.size w w'))
      case atStart => exact ⟨(y133), (0), (by first | rfl | (simp; done) | (simp [*]; done)), H', ⟨Nat.le_refl _⟩, ⟨by (with_reducible repeat (first | apply Kd.R_alloc | apply Kd.R_drewN | apply Kd.R_drew)); exact HO135.out⟩, ⟨by repeat (first | (with_reducible first | exact HB.out | apply below_alloc | apply pw_below_drewN | apply below_drew1) | exact HB.out)⟩⟩
      case round =>
        clear H'
        try clear c1
        try clear c2
        try clear c2b0
        try clear c2b1
        try clear p2
        try clear c3
        try clear c3b0
        try clear c3b1
        obtain ⟨x3_1, x4_1, rfl, HA, HK1, HO_3, HB⟩ := hrel
        cases gk with
        | zero => exact absurd HA.out (by simp [laws_toIntS.l0])
        | succ k1 =>
          have H := HA.out
          clear HA
          simp only [laws_toIntS.l0] at H
          by_cases c6 : x4_1 < (l0.length : Int)
          · rw [if_pos c6] at H
            have c6b0 : decide (x4_1 < (l0.length : Int)) = true := decide_eq_true c6
            clear c6
            by_cases c7 : 0 ≤ x4_1
            · rw [if_pos c7] at H
              have c7b0 : decide (0 ≤ x4_1) = true := decide_eq_true c7
              clear c7
              by_cases c8 : x4_1 < (x3_1.length : Int)
              · rw [if_pos c8] at H
                have c8b0 : decide (x4_1 < (x3_1.length : Int)) = true := decide_eq_true c8
                clear c8
                obtain ⟨y137, hy137⟩ : ∃ y_ : List Int, y_ = (x3_1.set (x4_1 : Int).toNat (rd l0 x4_1)) := ⟨_, rfl⟩
                replace H : (laws_toIntS.l0 k1 l0 y137 (wrap64 (x4_1 + 1))) = some r := by first | (rw [hy137]; with_reducible exact H) | (have H2_ := (Option.bind_some _ _).symm.trans H; rw [hy137]; with_reducible exact H2_) | (have H2_ := (Option.bind_some _ _).symm.trans H; with_reducible exact H2_) | with_reducible exact H | (rw [hy137]; exact H) | exact H
                have Ny137 := Aside0.mk hy137
                clear hy137
                have H' := Aside0.mk H
                clear H
                have p136 : 0 ≤ (x4_1 : Int) := of_decide_eq_true (by first | (with_reducible assumption) | assumption)
                have q136 : x4_1 < (l0.length : Int) := of_decide_eq_true (by first | (with_reducible assumption) | assumption)
                obtain ⟨ad136, e136, hx136_0⟩ := Kd.at_int HR0.out x4_1 p136 q136
                cases e136
                replace hx136_0 := (HB.out.cell (World.block_lt_of_cell? w _ hx136_0)).trans hx136_0
                replace p136 := eq_true p136
                replace q136 := eq_true q136
                have p9 : 0 ≤ (x4_1 : Int) := of_decide_eq_true (by first | (with_reducible assumption) | assumption)
                have q9 : (x4_1 : Int) < ((x3_1.length : Int) : Int) := of_decide_eq_true (by first | (with_reducible assumption) | assumption)
                obtain ⟨go9, co9, eo9, gb9, gl9, cl9, HG9⟩ := Kd.R_form HO_3.out (by omega)
                (first | cases eo9 | (injection eo9 with ea_ en_ ec_; (first | subst ea_ | (injection ea_ with ea_; subst ea_)); subst ec_; clear en_))
                have GB9 := Aside0.mk gb9
                have GG9 := Aside0.mk HG9
                clear gb9 gl9 HG9
                obtain ⟨hx9_0, hf9_0⟩ := Kd.R_celln 0 HO_3.out (x4_1 : Int) p9 q9
                replace p9 := eq_true p9
                replace q9 := eq_true q9
                have HP10 := Kd.R_putg HO_3.out (x4_1 : Int) (rd l0 x4_1)
                go_wp2_with (first | ((with_reducible refine gate_store (t := 3) (p := 20) rfl ?_); refine store_event (t := 3) (p := 20) (v := ?vo_w11) (w1 := (wr.setCell ⟨go9, (x4_1 : Int).toNat, none⟩ (.int .i64 (rd l0 x4_1)))) ?hg ?ho ?hn ?hr ?_; (case ho => rfl); (case hg => rfl); (case hn => rfl); (case hr => first | (go_simp; done) | (go_simp; rfl)); intro w11 hw; have hg : wr.grownBy w11 (some go9) := (by rw [hw]; exact HP10.2); have hp_ : Kd.R (Kd.int .i64) 3 w11 w.heap.size (fun _ => True) (.slice (some ⟨go9, 0, none⟩) x3_1.length co9) y137 := (by rw [hw, Ny137.out]; exact HP10.1); clear HP10; have n0_ := Aside0.mk (hp_); have n1_ := Aside0.mk ((by rw [hw]; exact below_set (HB.out) GB9.out : Below w.heap.size w w11)); clear HO_3; clear HB; have HO_3 := n0_; have HB := n1_; clear n0_ n1_; clear hg hw hp_))
                go_roundg k1
                case measure => have := HK1.out; omega
                case rel => exact ⟨(y137), (wrap64 (x4_1 + 1)), (by first | rfl | (simp; done) | (simp [*]; done)), H', ⟨by have := HK1.out; omega⟩, ⟨by (with_reducible repeat (first | apply Kd.R_alloc | apply Kd.R_drewN | apply Kd.R_drew)); exact HO_3.out⟩, ⟨by repeat (first | (with_reducible first | exact HB.out | apply below_alloc | apply pw_below_drewN | apply below_drew1) | exact HB.out)⟩⟩
              · rw [if_neg c8] at H
                exact absurd H (by simp)
            · rw [if_neg c7] at H
              exact absurd H (by simp)
          · rw [if_neg c6] at H
            have c6b0 : decide (x4_1 < (l0.length : Int)) = false := decide_eq_false c6
            clear c6
            obtain rfl := Option.some.inj H
            go_wp2
            go_ret
            exact ⟨_, by first | rfl | (simp [errW_none, errW_some] <;> rfl) | (simp [*, errW_none, errW_some] <;> rfl), by (with_reducible repeat (first | apply Kd.R_alloc | apply Kd.R_drewN | apply Kd.R_drew)); exact HO_3.out, by repeat (first | (with_reducible first | exact HB.out | apply below_alloc | apply pw_below_drewN | apply below_drew1) | exact HB.out)⟩
    · rw [if_neg c3] at H
      exact absurd H (by simp)
  · rw [if_neg c2] at H
    exact absurd H (by simp)

/-! ### impl_field_areElements: function 96 -/
def impl_field_areElements.l0 : Nat → List Int → Int → Int → Int → Int → Int → Option (Bool)
  | 0, _, _, _, _, _, _ => none
  | k + 1, x7, x8, x9, x139000, x139001, x139002 => if x9 < x8 then (if 0 ≤ x9 then (if x9 < (x7.length : Int) then (if (rd x7 x9) < 0 then (some false) else (if (rd x7 x9) ≥ x139000 then (some false) else (impl_field_areElements.l0 k x7 x8 (wrap64 (x9 + 1)) x139000 x139001 x139002))) else (none)) else (none)) else (some true)
def impl_field_areElements.f (k : Nat) (a0_0 : Int) (a0_1 : Int) (a0_2 : Int) (l1 : List Int) : Option (Bool) := impl_field_areElements.l0 k l1 (l1.length : Int) 0 a0_0 a0_1 a0_2
theorem impl_field_areElements.mono_l : ∀ k, (∀ y0 y1 y2 y3 y4 y5, LeO (impl_field_areElements.l0 k y0 y1 y2 y3 y4 y5) (impl_field_areElements.l0 (k + 1) y0 y1 y2 y3 y4 y5))
  | 0 => fun _ _ _ _ _ _ r h => by simp [impl_field_areElements.l0] at h
  | k + 1 => by
    have ih0 := impl_field_areElements.mono_l k
    · intro y0 y1 y2 y3 y4 y5
      unfold impl_field_areElements.l0
      repeat' first
      | (with_reducible exact ih0 _ _ _ _ _ _)
      | (with_reducible exact LeO.refl _)
      | (with_reducible exact LeO.none _)
      | (with_reducible refine LeO.ite ?_ ?_)
      | (with_reducible refine LeO.bind ?_ (fun _ => ?_))
      | exact ih0 _ _ _ _ _ _
      | exact LeO.none _
      | refine LeO.ite ?_ ?_
      | refine LeO.bind ?_ (fun _ => ?_)
theorem impl_field_areElements.mono : ∀ a0 a1 a2 a3 k, LeO (impl_field_areElements.f k a0 a1 a2 a3) (impl_field_areElements.f (k + 1) a0 a1 a2 a3) := by
  intro a0 a1 a2 a3 k
  have ih0 := impl_field_areElements.mono_l k
  unfold impl_field_areElements.f
  repeat' first
      | (with_reducible exact ih0 _ _ _ _ _ _)
      | (with_reducible exact LeO.refl _)
      | (with_reducible exact LeO.none _)
      | (with_reducible refine LeO.ite ?_ ?_)
      | (with_reducible refine LeO.bind ?_ (fun _ => ?_))
      | exact ih0 _ _ _ _ _ _
      | exact LeO.none _
      | refine LeO.ite ?_ ?_
      | refine LeO.bind ?_ (fun _ => ?_)
set_option maxHeartbeats 8000000 in
set_option maxRecDepth 100000 in
theorem impl_field_areElements.calls (k : Nat) (a0_0 : Int) (a0_1 : Int) (a0_2 : Int) (A1 : Option Addr) (c1 : Nat) (l1 : List Int) (r : Bool) (w : World) (hr1 : Kd.C (Kd.int .i64) w A1 l1.length l1) (hc1 : l1.length ≤ c1) (h : impl_field_areElements.f k a0_0 a0_1 a0_2 l1 = some r) :
    Calls Try.prog 96 #[.agg #[.int .i64 a0_0, .int .i64 a0_1, .int .i64 a0_2], .slice A1 l1.length c1] w fun e w' => e = .returned (.bool r) ∧ Below w.heap.size w w' := by
  have hu56 := Try.underlying56
  have HR1 := Aside0.mk hr1
  have HC1 := Aside0.mk hc1
  clear hr1 hc1
  have HB := Aside0.mk (Below.refl w.heap.size w)
  have H : (impl_field_areElements.l0 k l1 (l1.length : Int) 0 a0_0 a0_1 a0_2) = some r := h
  clear h
  have H' := Aside0.mk H
  clear H
  go_enter Try.func96, Try.ntmps96
  go_wp2_with (first | ((with_reducible refine gate_dst (N := 2) rfl ?_); refine box_event ?hg (N := 2) ?hd (cs := #[.int .i64 a0_0, .int .i64 a0_1, .int .i64 a0_2]) (t := 56) ?hr ?_; (case hd => rfl); (case hg => rfl); (case hr => first | (go_simp; done) | (go_simp; rfl)); intro gb138 hg w3 hbox hb; have n0_ := Aside0.mk (below_step (by repeat (first | (with_reducible first | exact HB.out | apply below_alloc | apply pw_below_drewN | apply below_drew1) | exact HB.out)) hb); have n1_ := Aside0.mk (hbox); have n2_ := Aside0.mk ((by rw [hg]; exact (below_size (by repeat (first | (with_reducible first | exact HB.out | apply below_alloc | apply pw_below_drewN | apply below_drew1) | exact HB.out))) : w.heap.size ≤ gb138)); have n3_ := Aside0.mk ((by rw [hg]; exact (below_size (by repeat (first | (with_reducible first | exact HB.out | apply below_alloc | apply pw_below_drewN | apply below_drew1) | exact HB.out))) : w.heap.size ≤ gb138)); clear HB; have HB := n0_; have BK138 := n1_; have GW138 := n2_; have GE138 := n3_; clear n0_ n1_ n2_ n3_; clear hb hbox hg))
  go_loopg [9] k (fun kq v9 w' => ∃ (x9_1 : Int), v9 = .int .i64 x9_1 ∧ Aside0 (impl_field_areElements.l0 kq l1 (l1.length : Int) x9_1 a0_0 a0_1 a0_2 = some r) ∧ Aside0 (kq ≤ k) ∧ Aside0 (w'.heap[gb138]? = some (.cells #[.int .i64 a0_0, .int .i64 a0_1, .int .i64 a0_2] 56 (0, 0))) ∧ Aside0 (Below w.heap.size w w'))
  case atStart => exact ⟨(0), (by first | rfl | (simp; done) | (simp [*]; done)), H', ⟨Nat.le_refl _⟩, ⟨by (with_reducible repeat (first | refine blk_drewN ?_ _ | refine blk_drew ?_ | refine blk_alloc ?_ _)); exact BK138.out⟩, ⟨by repeat (first | (with_reducible first | exact HB.out | apply below_alloc | apply pw_below_drewN | apply below_drew1 | refine below_set ?_ GE138.out) | exact HB.out)⟩⟩
  case round =>
    clear H'
    try clear c1
    try clear p2
    obtain ⟨x9_1, rfl, HA, HK1, BK138, HB⟩ := hrel
    cases gk with
    | zero => exact absurd HA.out (by simp [impl_field_areElements.l0])
    | succ k1 =>
      have H := HA.out
      clear HA
      simp only [impl_field_areElements.l0] at H
      by_cases c4 : x9_1 < (l1.length : Int)
      · rw [if_pos c4] at H
        have c4b0 : decide (x9_1 < (l1.length : Int)) = true := decide_eq_true c4
        clear c4
        by_cases c5 : 0 ≤ x9_1
        · rw [if_pos c5] at H
          have c5b0 : decide (0 ≤ x9_1) = true := decide_eq_true c5
          clear c5
          by_cases c6 : x9_1 < (l1.length : Int)
          · rw [if_pos c6] at H
            have c6b0 : decide (x9_1 < (l1.length : Int)) = true := decide_eq_true c6
            clear c6
            by_cases c7 : (rd l1 x9_1) < 0
            · rw [if_pos c7] at H
              have c7b0 : decide ((rd l1 x9_1) < 0) = true := decide_eq_true c7
              clear c7
              obtain rfl := Option.some.inj H
              have p139 : 0 ≤ (x9_1 : Int) := of_decide_eq_true (by first | (with_reducible assumption) | assumption)
              have q139 : x9_1 < (l1.length : Int) := of_decide_eq_true (by first | (with_reducible assumption) | assumption)
              obtain ⟨ad139, e139, hx139_0⟩ := Kd.at_int HR1.out x9_1 p139 q139
              cases e139
              replace hx139_0 := (HB.out.cell (World.block_lt_of_cell? w _ hx139_0)).trans hx139_0
              replace p139 := eq_true p139
              replace q139 := eq_true q139
              go_wp2
              go_ret
              exact ⟨by first | rfl | (simp [errW_none, errW_some] <;> rfl) | (simp [*, errW_none, errW_some] <;> rfl), by repeat (first | (with_reducible first | exact HB.out | apply below_alloc | apply pw_below_drewN | apply below_drew1 | refine below_set ?_ GE138.out) | exact HB.out)⟩
            · rw [if_neg c7] at H
              have c7b0 : decide ((rd l1 x9_1) < 0) = false := decide_eq_false c7
              clear c7
              by_cases c8 : (rd l1 x9_1) ≥ a0_0
              · rw [if_pos c8] at H
                have c8b0 : decide (a0_0 ≤ (rd l1 x9_1)) = true := decide_eq_true c8
                clear c8
                obtain rfl := Option.some.inj H
                have p139 : 0 ≤ (x9_1 : Int) := of_decide_eq_true (by first | (with_reducible assumption) | assumption)
                have q139 : x9_1 < (l1.length : Int) := of_decide_eq_true (by first | (with_reducible assumption) | assumption)
                obtain ⟨ad139, e139, hx139_0⟩ := Kd.at_int HR1.out x9_1 p139 q139
                cases e139
                replace hx139_0 := (HB.out.cell (World.block_lt_of_cell? w _ hx139_0)).trans hx139_0
                replace p139 := eq_true p139
                replace q139 := eq_true q139
                have hcz9_0 : wr.cell? ⟨gb138, 0, none⟩ = some (.int .i64 a0_0) := (blk_cell BK138.out 0).trans rfl
                have hcz9_1 : wr.cell? ⟨gb138, 1, none⟩ = some (.int .i64 a0_1) := (blk_cell BK138.out 1).trans rfl
                have hcz9_2 : wr.cell? ⟨gb138, 2, none⟩ = some (.int .i64 a0_2) := (blk_cell BK138.out 2).trans rfl
                have hfz9_0 := blk_frozen BK138.out 0
                have hfz9_1 := blk_frozen BK138.out 1
                have hfz9_2 := blk_frozen BK138.out 2
                go_wp2
                go_ret
                exact ⟨by first | rfl | (simp [errW_none, errW_some] <;> rfl) | (simp [*, errW_none, errW_some] <;> rfl), by repeat (first | (with_reducible first | exact HB.out | apply below_alloc | apply pw_below_drewN | apply below_drew1 | refine below_set ?_ GE138.out) | exact HB.out)⟩
              · rw [if_neg c8] at H
                have c8b0 : decide (a0_0 ≤ (rd l1 x9_1)) = false := decide_eq_false c8
                clear c8
                have H' := Aside0.mk H
                clear H
                have p139 : 0 ≤ (x9_1 : Int) := of_decide_eq_true (by first | (with_reducible assumption) | assumption)
                have q139 : x9_1 < (l1.length : Int) := of_decide_eq_true (by first | (with_reducible assumption) | assumption)
                obtain ⟨ad139, e139, hx139_0⟩ := Kd.at_int HR1.out x9_1 p139 q139
                cases e139
                replace hx139_0 := (HB.out.cell (World.block_lt_of_cell? w _ hx139_0)).trans hx139_0
                replace p139 := eq_true p139
                replace q139 := eq_true q139
                have hcz10_0 : wr.cell? ⟨gb138, 0, none⟩ = some (.int .i64 a0_0) := (blk_cell BK138.out 0).trans rfl
                have hcz10_1 : wr.cell? ⟨gb138, 1, none⟩ = some (.int .i64 a0_1) := (blk_cell BK138.out 1).trans rfl
                have hcz10_2 : wr.cell? ⟨gb138, 2, none⟩ = some (.int .i64 a0_2) := (blk_cell BK138.out 2).trans rfl
                have hfz10_0 := blk_frozen BK138.out 0
                have hfz10_1 := blk_frozen BK138.out 1
                have hfz10_2 := blk_frozen BK138.out 2
                go_wp2
                go_roundg k1
                case measure => have := HK1.out; omega
                case rel => exact ⟨(wrap64 (x9_1 + 1)), (by first | rfl | (simp; done) | (simp [*]; done)), H', ⟨by have := HK1.out; omega⟩, ⟨by (with_reducible repeat (first | refine blk_drewN ?_ _ | refine blk_drew ?_ | refine blk_alloc ?_ _)); exact BK138.out⟩, ⟨by repeat (first | (with_reducible first | exact HB.out | apply below_alloc | apply pw_below_drewN | apply below_drew1 | refine below_set ?_ GE138.out) | exact HB.out)⟩⟩
          · rw [if_neg c6] at H
            exact absurd H (by simp)
        · rw [if_neg c5] at H
          exact absurd H (by simp)
      · rw [if_neg c4] at H
        have c4b0 : decide (x9_1 < (l1.length : Int)) = false := decide_eq_false c4
        clear c4
        obtain rfl := Option.some.inj H
        go_wp2
        go_ret
        exact ⟨by first | rfl | (simp [errW_none, errW_some] <;> rfl) | (simp [*, errW_none, errW_some] <;> rfl), by repeat (first | (with_reducible first | exact HB.out | apply below_alloc | apply pw_below_drewN | apply below_drew1 | refine below_set ?_ GE138.out) | exact HB.out)⟩

/-! ### impl_fieldOf: function 109 -/
def impl_fieldOf.f (a0 : Int) : Option (Int × Int × Int × Bool) := if a0 < 0 then (some (0, 0, 0, false)) else (if a0 ≥ 9 then (some (0, 0, 0, false)) else (if a0 = 0 then (some (17, 3, 4, true)) else (if a0 = 1 then (some (97, 5, 5, true)) else (if a0 = 2 then (some (193, 5, 6, true)) else (if a0 = 3 then (some (257, 3, 8, true)) else (if a0 = 4 then (some (7681, 17, 9, true)) else (if a0 = 5 then (some (12289, 11, 12, true)) else (if a0 = 6 then (some (998244353, 3, 23, true)) else (if a0 = 7 then (some (469762049, 3, 26, true)) else (some (1004535809, 3, 21, true)))))))))))
/- impl.fieldOf: its table is an array; one walk for each field, one for no field. -/
theorem fo_setRow {w : World} {g : Nat} {t : TypeId} {old cs : Array Value} (h : w.heap[g]? = some (.cells old t (0, 0))) : (w.setRow g cs).heap[g]? = some (.cells cs t (0, 0)) := setRow_heap w g old cs t (0, 0) h
theorem fo_setRow_ne {w : World} {g j : Nat} {cs : Array Value} (h : j ≠ g) : (w.setRow g cs).heap[j]? = w.heap[j]? := setRow_other w g j cs h
theorem fo_below {w W : World} {g : Nat} {cs : Array Value} (h : Below w.heap.size w W) (hg : w.heap.size ≤ g) : Below w.heap.size w (W.setRow g cs) :=
  h.trans ⟨rfl, rfl, rfl, by simp [World.setRow], fun k hk => fo_setRow_ne (by omega)⟩
theorem fo_store {P : Program} {ops : Array Oper} {rest : List Oper} {o : Oper} {a : Act} {Q : Exit → Act → World → Prop} {w W : World} (hgd : o.guard = none) (ty : TypeId) (x y : Operand) (ho : o.op = .store ty x y)
    (hd : o.dst = none) (g : Nat) (cells : Array Value) (hx : a.eval x = .pointer (some ⟨g, 0, none⟩)) (hy : a.eval y = .agg cells)
    (t : TypeId) (old : Array Value) (hg : W.heap[g]? = some (.cells old t (0, 0))) (hi : (P.info? ty).map (·.size) = some cells.size)
    (hold : old.size = cells.size) (h1 : cells.all (·.oneCell') = true) (hb : Below w.heap.size w W) (hgw : w.heap.size ≤ g)
    (h : ∀ w1 : World, w1.heap[g]? = some (.cells cells t (0, 0)) → Below w.heap.size w w1 → (∀ j, j ≠ g → w1.heap[j]? = W.heap[j]?) → wpList P ops Q rest a w1) : wpList P ops Q (o :: rest) a W :=
  wpList_store_row hgd ty x y ho g cells hx hy t old hg hi hold h1 (by rw [hd]; exact h _ (fo_setRow hg) (fo_below hb hgw) (fun j hj => fo_setRow_ne hj))

set_option maxHeartbeats 8000000 in
set_option maxRecDepth 100000 in
theorem fo_0 (w : World)  :
    Calls Try.prog 109 #[.int .i64 0] w fun e w' => e = .returned (.tuple #[.agg #[.int .i64 17, .int .i64 3, .int .i64 4], .bool true]) ∧ Below w.heap.size w w' := by
  have HB := Aside0.mk (Below.refl w.heap.size w)
  go_enter Try.func109, Try.ntmps109
  go_wp2_with (first | ((with_reducible refine gate_dst (N := 2) rfl ?_); refine box_event ?hg (N := 2) ?hd (cs := #[.int .i64 0, .int .i64 0, .int .i64 0]) (t := 56) ?hr ?_; (case hd => rfl); (case hg => rfl); (case hr => first | (go_simp; done) | (go_simp; rfl)); intro g2 hg wb2 hbox hb; have HB2 := Aside0.mk (below_step HB.out hb); have BK2 := Aside0.mk hbox; have GW2 := Aside0.mk (hg ▸ below_size HB.out : w.heap.size ≤ g2); clear HB; have HB := HB2; clear HB2 hb hbox hg) | ((with_reducible refine gate_dst (N := 4) rfl ?_); refine box_event ?hg (N := 4) ?hd (cs := #[.int .i64 0, .int .i64 0, .int .i64 0, .int .i64 0, .int .i64 0, .int .i64 0, .int .i64 0, .int .i64 0, .int .i64 0, .int .i64 0, .int .i64 0, .int .i64 0, .int .i64 0, .int .i64 0, .int .i64 0, .int .i64 0, .int .i64 0, .int .i64 0, .int .i64 0, .int .i64 0, .int .i64 0, .int .i64 0, .int .i64 0, .int .i64 0, .int .i64 0, .int .i64 0, .int .i64 0]) (t := 86) ?hr ?_; (case hd => rfl); (case hg => rfl); (case hr => first | (go_simp; done) | (go_simp; rfl)); intro g4 hg wb4 hbox hb; have BK2b := Aside0.mk (blk_below BK2.out hb); have NE := Aside0.mk (by rw [hg]; exact Nat.ne_of_lt (blk_lt BK2.out) : g2 ≠ g4); have HB4 := Aside0.mk (below_step HB.out hb); have BK4 := Aside0.mk hbox; have GW4 := Aside0.mk (hg ▸ below_size HB.out : w.heap.size ≤ g4); clear HB BK2; have HB := HB4; have BK2 := BK2b; clear HB4 BK2b hb hbox hg) | ((with_reducible refine gate_store (t := 86) (p := 4) rfl ?_); refine fo_store (w := w) rfl 86 (.tmp 4) (.tmp 14) rfl rfl g4 #[.int .i64 17, .int .i64 3, .int .i64 4, .int .i64 97, .int .i64 5, .int .i64 5, .int .i64 193, .int .i64 5, .int .i64 6, .int .i64 257, .int .i64 3, .int .i64 8, .int .i64 7681, .int .i64 17, .int .i64 9, .int .i64 12289, .int .i64 11, .int .i64 12, .int .i64 998244353, .int .i64 3, .int .i64 23, .int .i64 469762049, .int .i64 3, .int .i64 26, .int .i64 1004535809, .int .i64 3, .int .i64 21] rfl rfl 86 #[.int .i64 0, .int .i64 0, .int .i64 0, .int .i64 0, .int .i64 0, .int .i64 0, .int .i64 0, .int .i64 0, .int .i64 0, .int .i64 0, .int .i64 0, .int .i64 0, .int .i64 0, .int .i64 0, .int .i64 0, .int .i64 0, .int .i64 0, .int .i64 0, .int .i64 0, .int .i64 0, .int .i64 0, .int .i64 0, .int .i64 0, .int .i64 0, .int .i64 0, .int .i64 0, .int .i64 0] BK4.out (by kernel_rfl) (by kernel_rfl) (by kernel_rfl) HB.out GW4.out ?_; intro w5 hk hb5 hoth; have HB5 := Aside0.mk hb5; have BK2b := Aside0.mk ((hoth g2 NE.out).trans BK2.out); clear HB BK2 hb5 hoth; have HB := HB5; have BK2 := BK2b; clear HB5 BK2b; have c0 : w5.cell? ⟨g4, 0, none⟩ = some (.int .i64 17) := (blk_cell hk 0).trans rfl; have c1 : w5.cell? ⟨g4, 1, none⟩ = some (.int .i64 3) := (blk_cell hk 1).trans rfl; have c2 : w5.cell? ⟨g4, 2, none⟩ = some (.int .i64 4) := (blk_cell hk 2).trans rfl;  clear hk) | ((with_reducible refine gate_store (t := 56) (p := 2) rfl ?_); refine fo_store (w := w) rfl 56 (.tmp 2) (.tmp 24) rfl rfl g2 #[.int .i64 17, .int .i64 3, .int .i64 4] rfl rfl 56 #[.int .i64 0, .int .i64 0, .int .i64 0] BK2.out (by kernel_rfl) (by kernel_rfl) (by kernel_rfl) HB.out GW2.out ?_; intro w6 hk hb5 hoth; have HB5 := Aside0.mk hb5; have BK2b := Aside0.mk hk; clear HB BK2 hb5 hoth hk; have HB := HB5; have BK2 := BK2b; clear HB5 BK2b))
  refine bodyPost_ret (results_ct rfl _ _ g2 56 #[.int .i64 17, .int .i64 3, .int .i64 4] (0, 0) _ rfl BK2.out Try.underlying56 rfl (by kernel_rfl)) rfl ?_
  exact ⟨rfl, HB.out⟩

set_option maxHeartbeats 8000000 in
set_option maxRecDepth 100000 in
theorem fo_1 (w : World)  :
    Calls Try.prog 109 #[.int .i64 1] w fun e w' => e = .returned (.tuple #[.agg #[.int .i64 97, .int .i64 5, .int .i64 5], .bool true]) ∧ Below w.heap.size w w' := by
  have HB := Aside0.mk (Below.refl w.heap.size w)
  go_enter Try.func109, Try.ntmps109
  go_wp2_with (first | ((with_reducible refine gate_dst (N := 2) rfl ?_); refine box_event ?hg (N := 2) ?hd (cs := #[.int .i64 0, .int .i64 0, .int .i64 0]) (t := 56) ?hr ?_; (case hd => rfl); (case hg => rfl); (case hr => first | (go_simp; done) | (go_simp; rfl)); intro g2 hg wb2 hbox hb; have HB2 := Aside0.mk (below_step HB.out hb); have BK2 := Aside0.mk hbox; have GW2 := Aside0.mk (hg ▸ below_size HB.out : w.heap.size ≤ g2); clear HB; have HB := HB2; clear HB2 hb hbox hg) | ((with_reducible refine gate_dst (N := 4) rfl ?_); refine box_event ?hg (N := 4) ?hd (cs := #[.int .i64 0, .int .i64 0, .int .i64 0, .int .i64 0, .int .i64 0, .int .i64 0, .int .i64 0, .int .i64 0, .int .i64 0, .int .i64 0, .int .i64 0, .int .i64 0, .int .i64 0, .int .i64 0, .int .i64 0, .int .i64 0, .int .i64 0, .int .i64 0, .int .i64 0, .int .i64 0, .int .i64 0, .int .i64 0, .int .i64 0, .int .i64 0, .int .i64 0, .int .i64 0, .int .i64 0]) (t := 86) ?hr ?_; (case hd => rfl); (case hg => rfl); (case hr => first | (go_simp; done) | (go_simp; rfl)); intro g4 hg wb4 hbox hb; have BK2b := Aside0.mk (blk_below BK2.out hb); have NE := Aside0.mk (by rw [hg]; exact Nat.ne_of_lt (blk_lt BK2.out) : g2 ≠ g4); have HB4 := Aside0.mk (below_step HB.out hb); have BK4 := Aside0.mk hbox; have GW4 := Aside0.mk (hg ▸ below_size HB.out : w.heap.size ≤ g4); clear HB BK2; have HB := HB4; have BK2 := BK2b; clear HB4 BK2b hb hbox hg) | ((with_reducible refine gate_store (t := 86) (p := 4) rfl ?_); refine fo_store (w := w) rfl 86 (.tmp 4) (.tmp 14) rfl rfl g4 #[.int .i64 17, .int .i64 3, .int .i64 4, .int .i64 97, .int .i64 5, .int .i64 5, .int .i64 193, .int .i64 5, .int .i64 6, .int .i64 257, .int .i64 3, .int .i64 8, .int .i64 7681, .int .i64 17, .int .i64 9, .int .i64 12289, .int .i64 11, .int .i64 12, .int .i64 998244353, .int .i64 3, .int .i64 23, .int .i64 469762049, .int .i64 3, .int .i64 26, .int .i64 1004535809, .int .i64 3, .int .i64 21] rfl rfl 86 #[.int .i64 0, .int .i64 0, .int .i64 0, .int .i64 0, .int .i64 0, .int .i64 0, .int .i64 0, .int .i64 0, .int .i64 0, .int .i64 0, .int .i64 0, .int .i64 0, .int .i64 0, .int .i64 0, .int .i64 0, .int .i64 0, .int .i64 0, .int .i64 0, .int .i64 0, .int .i64 0, .int .i64 0, .int .i64 0, .int .i64 0, .int .i64 0, .int .i64 0, .int .i64 0, .int .i64 0] BK4.out (by kernel_rfl) (by kernel_rfl) (by kernel_rfl) HB.out GW4.out ?_; intro w5 hk hb5 hoth; have HB5 := Aside0.mk hb5; have BK2b := Aside0.mk ((hoth g2 NE.out).trans BK2.out); clear HB BK2 hb5 hoth; have HB := HB5; have BK2 := BK2b; clear HB5 BK2b; have c0 : w5.cell? ⟨g4, 3, none⟩ = some (.int .i64 97) := (blk_cell hk 3).trans rfl; have c1 : w5.cell? ⟨g4, 4, none⟩ = some (.int .i64 5) := (blk_cell hk 4).trans rfl; have c2 : w5.cell? ⟨g4, 5, none⟩ = some (.int .i64 5) := (blk_cell hk 5).trans rfl;  clear hk) | ((with_reducible refine gate_store (t := 56) (p := 2) rfl ?_); refine fo_store (w := w) rfl 56 (.tmp 2) (.tmp 24) rfl rfl g2 #[.int .i64 97, .int .i64 5, .int .i64 5] rfl rfl 56 #[.int .i64 0, .int .i64 0, .int .i64 0] BK2.out (by kernel_rfl) (by kernel_rfl) (by kernel_rfl) HB.out GW2.out ?_; intro w6 hk hb5 hoth; have HB5 := Aside0.mk hb5; have BK2b := Aside0.mk hk; clear HB BK2 hb5 hoth hk; have HB := HB5; have BK2 := BK2b; clear HB5 BK2b))
  refine bodyPost_ret (results_ct rfl _ _ g2 56 #[.int .i64 97, .int .i64 5, .int .i64 5] (0, 0) _ rfl BK2.out Try.underlying56 rfl (by kernel_rfl)) rfl ?_
  exact ⟨rfl, HB.out⟩

set_option maxHeartbeats 8000000 in
set_option maxRecDepth 100000 in
theorem fo_2 (w : World)  :
    Calls Try.prog 109 #[.int .i64 2] w fun e w' => e = .returned (.tuple #[.agg #[.int .i64 193, .int .i64 5, .int .i64 6], .bool true]) ∧ Below w.heap.size w w' := by
  have HB := Aside0.mk (Below.refl w.heap.size w)
  go_enter Try.func109, Try.ntmps109
  go_wp2_with (first | ((with_reducible refine gate_dst (N := 2) rfl ?_); refine box_event ?hg (N := 2) ?hd (cs := #[.int .i64 0, .int .i64 0, .int .i64 0]) (t := 56) ?hr ?_; (case hd => rfl); (case hg => rfl); (case hr => first | (go_simp; done) | (go_simp; rfl)); intro g2 hg wb2 hbox hb; have HB2 := Aside0.mk (below_step HB.out hb); have BK2 := Aside0.mk hbox; have GW2 := Aside0.mk (hg ▸ below_size HB.out : w.heap.size ≤ g2); clear HB; have HB := HB2; clear HB2 hb hbox hg) | ((with_reducible refine gate_dst (N := 4) rfl ?_); refine box_event ?hg (N := 4) ?hd (cs := #[.int .i64 0, .int .i64 0, .int .i64 0, .int .i64 0, .int .i64 0, .int .i64 0, .int .i64 0, .int .i64 0, .int .i64 0, .int .i64 0, .int .i64 0, .int .i64 0, .int .i64 0, .int .i64 0, .int .i64 0, .int .i64 0, .int .i64 0, .int .i64 0, .int .i64 0, .int .i64 0, .int .i64 0, .int .i64 0, .int .i64 0, .int .i64 0, .int .i64 0, .int .i64 0, .int .i64 0]) (t := 86) ?hr ?_; (case hd => rfl); (case hg => rfl); (case hr => first | (go_simp; done) | (go_simp; rfl)); intro g4 hg wb4 hbox hb; have BK2b := Aside0.mk (blk_below BK2.out hb); have NE := Aside0.mk (by rw [hg]; exact Nat.ne_of_lt (blk_lt BK2.out) : g2 ≠ g4); have HB4 := Aside0.mk (below_step HB.out hb); have BK4 := Aside0.mk hbox; have GW4 := Aside0.mk (hg ▸ below_size HB.out : w.heap.size ≤ g4); clear HB BK2; have HB := HB4; have BK2 := BK2b; clear HB4 BK2b hb hbox hg) | ((with_reducible refine gate_store (t := 86) (p := 4) rfl ?_); refine fo_store (w := w) rfl 86 (.tmp 4) (.tmp 14) rfl rfl g4 #[.int .i64 17, .int .i64 3, .int .i64 4, .int .i64 97, .int .i64 5, .int .i64 5, .int .i64 193, .int .i64 5, .int .i64 6, .int .i64 257, .int .i64 3, .int .i64 8, .int .i64 7681, .int .i64 17, .int .i64 9, .int .i64 12289, .int .i64 11, .int .i64 12, .int .i64 998244353, .int .i64 3, .int .i64 23, .int .i64 469762049, .int .i64 3, .int .i64 26, .int .i64 1004535809, .int .i64 3, .int .i64 21] rfl rfl 86 #[.int .i64 0, .int .i64 0, .int .i64 0, .int .i64 0, .int .i64 0, .int .i64 0, .int .i64 0, .int .i64 0, .int .i64 0, .int .i64 0, .int .i64 0, .int .i64 0, .int .i64 0, .int .i64 0, .int .i64 0, .int .i64 0, .int .i64 0, .int .i64 0, .int .i64 0, .int .i64 0, .int .i64 0, .int .i64 0, .int .i64 0, .int .i64 0, .int .i64 0, .int .i64 0, .int .i64 0] BK4.out (by kernel_rfl) (by kernel_rfl) (by kernel_rfl) HB.out GW4.out ?_; intro w5 hk hb5 hoth; have HB5 := Aside0.mk hb5; have BK2b := Aside0.mk ((hoth g2 NE.out).trans BK2.out); clear HB BK2 hb5 hoth; have HB := HB5; have BK2 := BK2b; clear HB5 BK2b; have c0 : w5.cell? ⟨g4, 6, none⟩ = some (.int .i64 193) := (blk_cell hk 6).trans rfl; have c1 : w5.cell? ⟨g4, 7, none⟩ = some (.int .i64 5) := (blk_cell hk 7).trans rfl; have c2 : w5.cell? ⟨g4, 8, none⟩ = some (.int .i64 6) := (blk_cell hk 8).trans rfl;  clear hk) | ((with_reducible refine gate_store (t := 56) (p := 2) rfl ?_); refine fo_store (w := w) rfl 56 (.tmp 2) (.tmp 24) rfl rfl g2 #[.int .i64 193, .int .i64 5, .int .i64 6] rfl rfl 56 #[.int .i64 0, .int .i64 0, .int .i64 0] BK2.out (by kernel_rfl) (by kernel_rfl) (by kernel_rfl) HB.out GW2.out ?_; intro w6 hk hb5 hoth; have HB5 := Aside0.mk hb5; have BK2b := Aside0.mk hk; clear HB BK2 hb5 hoth hk; have HB := HB5; have BK2 := BK2b; clear HB5 BK2b))
  refine bodyPost_ret (results_ct rfl _ _ g2 56 #[.int .i64 193, .int .i64 5, .int .i64 6] (0, 0) _ rfl BK2.out Try.underlying56 rfl (by kernel_rfl)) rfl ?_
  exact ⟨rfl, HB.out⟩

set_option maxHeartbeats 8000000 in
set_option maxRecDepth 100000 in
theorem fo_3 (w : World)  :
    Calls Try.prog 109 #[.int .i64 3] w fun e w' => e = .returned (.tuple #[.agg #[.int .i64 257, .int .i64 3, .int .i64 8], .bool true]) ∧ Below w.heap.size w w' := by
  have HB := Aside0.mk (Below.refl w.heap.size w)
  go_enter Try.func109, Try.ntmps109
  go_wp2_with (first | ((with_reducible refine gate_dst (N := 2) rfl ?_); refine box_event ?hg (N := 2) ?hd (cs := #[.int .i64 0, .int .i64 0, .int .i64 0]) (t := 56) ?hr ?_; (case hd => rfl); (case hg => rfl); (case hr => first | (go_simp; done) | (go_simp; rfl)); intro g2 hg wb2 hbox hb; have HB2 := Aside0.mk (below_step HB.out hb); have BK2 := Aside0.mk hbox; have GW2 := Aside0.mk (hg ▸ below_size HB.out : w.heap.size ≤ g2); clear HB; have HB := HB2; clear HB2 hb hbox hg) | ((with_reducible refine gate_dst (N := 4) rfl ?_); refine box_event ?hg (N := 4) ?hd (cs := #[.int .i64 0, .int .i64 0, .int .i64 0, .int .i64 0, .int .i64 0, .int .i64 0, .int .i64 0, .int .i64 0, .int .i64 0, .int .i64 0, .int .i64 0, .int .i64 0, .int .i64 0, .int .i64 0, .int .i64 0, .int .i64 0, .int .i64 0, .int .i64 0, .int .i64 0, .int .i64 0, .int .i64 0, .int .i64 0, .int .i64 0, .int .i64 0, .int .i64 0, .int .i64 0, .int .i64 0]) (t := 86) ?hr ?_; (case hd => rfl); (case hg => rfl); (case hr => first | (go_simp; done) | (go_simp; rfl)); intro g4 hg wb4 hbox hb; have BK2b := Aside0.mk (blk_below BK2.out hb); have NE := Aside0.mk (by rw [hg]; exact Nat.ne_of_lt (blk_lt BK2.out) : g2 ≠ g4); have HB4 := Aside0.mk (below_step HB.out hb); have BK4 := Aside0.mk hbox; have GW4 := Aside0.mk (hg ▸ below_size HB.out : w.heap.size ≤ g4); clear HB BK2; have HB := HB4; have BK2 := BK2b; clear HB4 BK2b hb hbox hg) | ((with_reducible refine gate_store (t := 86) (p := 4) rfl ?_); refine fo_store (w := w) rfl 86 (.tmp 4) (.tmp 14) rfl rfl g4 #[.int .i64 17, .int .i64 3, .int .i64 4, .int .i64 97, .int .i64 5, .int .i64 5, .int .i64 193, .int .i64 5, .int .i64 6, .int .i64 257, .int .i64 3, .int .i64 8, .int .i64 7681, .int .i64 17, .int .i64 9, .int .i64 12289, .int .i64 11, .int .i64 12, .int .i64 998244353, .int .i64 3, .int .i64 23, .int .i64 469762049, .int .i64 3, .int .i64 26, .int .i64 1004535809, .int .i64 3, .int .i64 21] rfl rfl 86 #[.int .i64 0, .int .i64 0, .int .i64 0, .int .i64 0, .int .i64 0, .int .i64 0, .int .i64 0, .int .i64 0, .int .i64 0, .int .i64 0, .int .i64 0, .int .i64 0, .int .i64 0, .int .i64 0, .int .i64 0, .int .i64 0, .int .i64 0, .int .i64 0, .int .i64 0, .int .i64 0, .int .i64 0, .int .i64 0, .int .i64 0, .int .i64 0, .int .i64 0, .int .i64 0, .int .i64 0] BK4.out (by kernel_rfl) (by kernel_rfl) (by kernel_rfl) HB.out GW4.out ?_; intro w5 hk hb5 hoth; have HB5 := Aside0.mk hb5; have BK2b := Aside0.mk ((hoth g2 NE.out).trans BK2.out); clear HB BK2 hb5 hoth; have HB := HB5; have BK2 := BK2b; clear HB5 BK2b; have c0 : w5.cell? ⟨g4, 9, none⟩ = some (.int .i64 257) := (blk_cell hk 9).trans rfl; have c1 : w5.cell? ⟨g4, 10, none⟩ = some (.int .i64 3) := (blk_cell hk 10).trans rfl; have c2 : w5.cell? ⟨g4, 11, none⟩ = some (.int .i64 8) := (blk_cell hk 11).trans rfl;  clear hk) | ((with_reducible refine gate_store (t := 56) (p := 2) rfl ?_); refine fo_store (w := w) rfl 56 (.tmp 2) (.tmp 24) rfl rfl g2 #[.int .i64 257, .int .i64 3, .int .i64 8] rfl rfl 56 #[.int .i64 0, .int .i64 0, .int .i64 0] BK2.out (by kernel_rfl) (by kernel_rfl) (by kernel_rfl) HB.out GW2.out ?_; intro w6 hk hb5 hoth; have HB5 := Aside0.mk hb5; have BK2b := Aside0.mk hk; clear HB BK2 hb5 hoth hk; have HB := HB5; have BK2 := BK2b; clear HB5 BK2b))
  refine bodyPost_ret (results_ct rfl _ _ g2 56 #[.int .i64 257, .int .i64 3, .int .i64 8] (0, 0) _ rfl BK2.out Try.underlying56 rfl (by kernel_rfl)) rfl ?_
  exact ⟨rfl, HB.out⟩

set_option maxHeartbeats 8000000 in
set_option maxRecDepth 100000 in
theorem fo_4 (w : World)  :
    Calls Try.prog 109 #[.int .i64 4] w fun e w' => e = .returned (.tuple #[.agg #[.int .i64 7681, .int .i64 17, .int .i64 9], .bool true]) ∧ Below w.heap.size w w' := by
  have HB := Aside0.mk (Below.refl w.heap.size w)
  go_enter Try.func109, Try.ntmps109
  go_wp2_with (first | ((with_reducible refine gate_dst (N := 2) rfl ?_); refine box_event ?hg (N := 2) ?hd (cs := #[.int .i64 0, .int .i64 0, .int .i64 0]) (t := 56) ?hr ?_; (case hd => rfl); (case hg => rfl); (case hr => first | (go_simp; done) | (go_simp; rfl)); intro g2 hg wb2 hbox hb; have HB2 := Aside0.mk (below_step HB.out hb); have BK2 := Aside0.mk hbox; have GW2 := Aside0.mk (hg ▸ below_size HB.out : w.heap.size ≤ g2); clear HB; have HB := HB2; clear HB2 hb hbox hg) | ((with_reducible refine gate_dst (N := 4) rfl ?_); refine box_event ?hg (N := 4) ?hd (cs := #[.int .i64 0, .int .i64 0, .int .i64 0, .int .i64 0, .int .i64 0, .int .i64 0, .int .i64 0, .int .i64 0, .int .i64 0, .int .i64 0, .int .i64 0, .int .i64 0, .int .i64 0, .int .i64 0, .int .i64 0, .int .i64 0, .int .i64 0, .int .i64 0, .int .i64 0, .int .i64 0, .int .i64 0, .int .i64 0, .int .i64 0, .int .i64 0, .int .i64 0, .int .i64 0, .int .i64 0]) (t := 86) ?hr ?_; (case hd => rfl); (case hg => rfl); (case hr => first | (go_simp; done) | (go_simp; rfl)); intro g4 hg wb4 hbox hb; have BK2b := Aside0.mk (blk_below BK2.out hb); have NE := Aside0.mk (by rw [hg]; exact Nat.ne_of_lt (blk_lt BK2.out) : g2 ≠ g4); have HB4 := Aside0.mk (below_step HB.out hb); have BK4 := Aside0.mk hbox; have GW4 := Aside0.mk (hg ▸ below_size HB.out : w.heap.size ≤ g4); clear HB BK2; have HB := HB4; have BK2 := BK2b; clear HB4 BK2b hb hbox hg) | ((with_reducible refine gate_store (t := 86) (p := 4) rfl ?_); refine fo_store (w := w) rfl 86 (.tmp 4) (.tmp 14) rfl rfl g4 #[.int .i64 17, .int .i64 3, .int .i64 4, .int .i64 97, .int .i64 5, .int .i64 5, .int .i64 193, .int .i64 5, .int .i64 6, .int .i64 257, .int .i64 3, .int .i64 8, .int .i64 7681, .int .i64 17, .int .i64 9, .int .i64 12289, .int .i64 11, .int .i64 12, .int .i64 998244353, .int .i64 3, .int .i64 23, .int .i64 469762049, .int .i64 3, .int .i64 26, .int .i64 1004535809, .int .i64 3, .int .i64 21] rfl rfl 86 #[.int .i64 0, .int .i64 0, .int .i64 0, .int .i64 0, .int .i64 0, .int .i64 0, .int .i64 0, .int .i64 0, .int .i64 0, .int .i64 0, .int .i64 0, .int .i64 0, .int .i64 0, .int .i64 0, .int .i64 0, .int .i64 0, .int .i64 0, .int .i64 0, .int .i64 0, .int .i64 0, .int .i64 0, .int .i64 0, .int .i64 0, .int .i64 0, .int .i64 0, .int .i64 0, .int .i64 0] BK4.out (by kernel_rfl) (by kernel_rfl) (by kernel_rfl) HB.out GW4.out ?_; intro w5 hk hb5 hoth; have HB5 := Aside0.mk hb5; have BK2b := Aside0.mk ((hoth g2 NE.out).trans BK2.out); clear HB BK2 hb5 hoth; have HB := HB5; have BK2 := BK2b; clear HB5 BK2b; have c0 : w5.cell? ⟨g4, 12, none⟩ = some (.int .i64 7681) := (blk_cell hk 12).trans rfl; have c1 : w5.cell? ⟨g4, 13, none⟩ = some (.int .i64 17) := (blk_cell hk 13).trans rfl; have c2 : w5.cell? ⟨g4, 14, none⟩ = some (.int .i64 9) := (blk_cell hk 14).trans rfl;  clear hk) | ((with_reducible refine gate_store (t := 56) (p := 2) rfl ?_); refine fo_store (w := w) rfl 56 (.tmp 2) (.tmp 24) rfl rfl g2 #[.int .i64 7681, .int .i64 17, .int .i64 9] rfl rfl 56 #[.int .i64 0, .int .i64 0, .int .i64 0] BK2.out (by kernel_rfl) (by kernel_rfl) (by kernel_rfl) HB.out GW2.out ?_; intro w6 hk hb5 hoth; have HB5 := Aside0.mk hb5; have BK2b := Aside0.mk hk; clear HB BK2 hb5 hoth hk; have HB := HB5; have BK2 := BK2b; clear HB5 BK2b))
  refine bodyPost_ret (results_ct rfl _ _ g2 56 #[.int .i64 7681, .int .i64 17, .int .i64 9] (0, 0) _ rfl BK2.out Try.underlying56 rfl (by kernel_rfl)) rfl ?_
  exact ⟨rfl, HB.out⟩

set_option maxHeartbeats 8000000 in
set_option maxRecDepth 100000 in
theorem fo_5 (w : World)  :
    Calls Try.prog 109 #[.int .i64 5] w fun e w' => e = .returned (.tuple #[.agg #[.int .i64 12289, .int .i64 11, .int .i64 12], .bool true]) ∧ Below w.heap.size w w' := by
  have HB := Aside0.mk (Below.refl w.heap.size w)
  go_enter Try.func109, Try.ntmps109
  go_wp2_with (first | ((with_reducible refine gate_dst (N := 2) rfl ?_); refine box_event ?hg (N := 2) ?hd (cs := #[.int .i64 0, .int .i64 0, .int .i64 0]) (t := 56) ?hr ?_; (case hd => rfl); (case hg => rfl); (case hr => first | (go_simp; done) | (go_simp; rfl)); intro g2 hg wb2 hbox hb; have HB2 := Aside0.mk (below_step HB.out hb); have BK2 := Aside0.mk hbox; have GW2 := Aside0.mk (hg ▸ below_size HB.out : w.heap.size ≤ g2); clear HB; have HB := HB2; clear HB2 hb hbox hg) | ((with_reducible refine gate_dst (N := 4) rfl ?_); refine box_event ?hg (N := 4) ?hd (cs := #[.int .i64 0, .int .i64 0, .int .i64 0, .int .i64 0, .int .i64 0, .int .i64 0, .int .i64 0, .int .i64 0, .int .i64 0, .int .i64 0, .int .i64 0, .int .i64 0, .int .i64 0, .int .i64 0, .int .i64 0, .int .i64 0, .int .i64 0, .int .i64 0, .int .i64 0, .int .i64 0, .int .i64 0, .int .i64 0, .int .i64 0, .int .i64 0, .int .i64 0, .int .i64 0, .int .i64 0]) (t := 86) ?hr ?_; (case hd => rfl); (case hg => rfl); (case hr => first | (go_simp; done) | (go_simp; rfl)); intro g4 hg wb4 hbox hb; have BK2b := Aside0.mk (blk_below BK2.out hb); have NE := Aside0.mk (by rw [hg]; exact Nat.ne_of_lt (blk_lt BK2.out) : g2 ≠ g4); have HB4 := Aside0.mk (below_step HB.out hb); have BK4 := Aside0.mk hbox; have GW4 := Aside0.mk (hg ▸ below_size HB.out : w.heap.size ≤ g4); clear HB BK2; have HB := HB4; have BK2 := BK2b; clear HB4 BK2b hb hbox hg) | ((with_reducible refine gate_store (t := 86) (p := 4) rfl ?_); refine fo_store (w := w) rfl 86 (.tmp 4) (.tmp 14) rfl rfl g4 #[.int .i64 17, .int .i64 3, .int .i64 4, .int .i64 97, .int .i64 5, .int .i64 5, .int .i64 193, .int .i64 5, .int .i64 6, .int .i64 257, .int .i64 3, .int .i64 8, .int .i64 7681, .int .i64 17, .int .i64 9, .int .i64 12289, .int .i64 11, .int .i64 12, .int .i64 998244353, .int .i64 3, .int .i64 23, .int .i64 469762049, .int .i64 3, .int .i64 26, .int .i64 1004535809, .int .i64 3, .int .i64 21] rfl rfl 86 #[.int .i64 0, .int .i64 0, .int .i64 0, .int .i64 0, .int .i64 0, .int .i64 0, .int .i64 0, .int .i64 0, .int .i64 0, .int .i64 0, .int .i64 0, .int .i64 0, .int .i64 0, .int .i64 0, .int .i64 0, .int .i64 0, .int .i64 0, .int .i64 0, .int .i64 0, .int .i64 0, .int .i64 0, .int .i64 0, .int .i64 0, .int .i64 0, .int .i64 0, .int .i64 0, .int .i64 0] BK4.out (by kernel_rfl) (by kernel_rfl) (by kernel_rfl) HB.out GW4.out ?_; intro w5 hk hb5 hoth; have HB5 := Aside0.mk hb5; have BK2b := Aside0.mk ((hoth g2 NE.out).trans BK2.out); clear HB BK2 hb5 hoth; have HB := HB5; have BK2 := BK2b; clear HB5 BK2b; have c0 : w5.cell? ⟨g4, 15, none⟩ = some (.int .i64 12289) := (blk_cell hk 15).trans rfl; have c1 : w5.cell? ⟨g4, 16, none⟩ = some (.int .i64 11) := (blk_cell hk 16).trans rfl; have c2 : w5.cell? ⟨g4, 17, none⟩ = some (.int .i64 12) := (blk_cell hk 17).trans rfl;  clear hk) | ((with_reducible refine gate_store (t := 56) (p := 2) rfl ?_); refine fo_store (w := w) rfl 56 (.tmp 2) (.tmp 24) rfl rfl g2 #[.int .i64 12289, .int .i64 11, .int .i64 12] rfl rfl 56 #[.int .i64 0, .int .i64 0, .int .i64 0] BK2.out (by kernel_rfl) (by kernel_rfl) (by kernel_rfl) HB.out GW2.out ?_; intro w6 hk hb5 hoth; have HB5 := Aside0.mk hb5; have BK2b := Aside0.mk hk; clear HB BK2 hb5 hoth hk; have HB := HB5; have BK2 := BK2b; clear HB5 BK2b))
  refine bodyPost_ret (results_ct rfl _ _ g2 56 #[.int .i64 12289, .int .i64 11, .int .i64 12] (0, 0) _ rfl BK2.out Try.underlying56 rfl (by kernel_rfl)) rfl ?_
  exact ⟨rfl, HB.out⟩

set_option maxHeartbeats 8000000 in
set_option maxRecDepth 100000 in
theorem fo_6 (w : World)  :
    Calls Try.prog 109 #[.int .i64 6] w fun e w' => e = .returned (.tuple #[.agg #[.int .i64 998244353, .int .i64 3, .int .i64 23], .bool true]) ∧ Below w.heap.size w w' := by
  have HB := Aside0.mk (Below.refl w.heap.size w)
  go_enter Try.func109, Try.ntmps109
  go_wp2_with (first | ((with_reducible refine gate_dst (N := 2) rfl ?_); refine box_event ?hg (N := 2) ?hd (cs := #[.int .i64 0, .int .i64 0, .int .i64 0]) (t := 56) ?hr ?_; (case hd => rfl); (case hg => rfl); (case hr => first | (go_simp; done) | (go_simp; rfl)); intro g2 hg wb2 hbox hb; have HB2 := Aside0.mk (below_step HB.out hb); have BK2 := Aside0.mk hbox; have GW2 := Aside0.mk (hg ▸ below_size HB.out : w.heap.size ≤ g2); clear HB; have HB := HB2; clear HB2 hb hbox hg) | ((with_reducible refine gate_dst (N := 4) rfl ?_); refine box_event ?hg (N := 4) ?hd (cs := #[.int .i64 0, .int .i64 0, .int .i64 0, .int .i64 0, .int .i64 0, .int .i64 0, .int .i64 0, .int .i64 0, .int .i64 0, .int .i64 0, .int .i64 0, .int .i64 0, .int .i64 0, .int .i64 0, .int .i64 0, .int .i64 0, .int .i64 0, .int .i64 0, .int .i64 0, .int .i64 0, .int .i64 0, .int .i64 0, .int .i64 0, .int .i64 0, .int .i64 0, .int .i64 0, .int .i64 0]) (t := 86) ?hr ?_; (case hd => rfl); (case hg => rfl); (case hr => first | (go_simp; done) | (go_simp; rfl)); intro g4 hg wb4 hbox hb; have BK2b := Aside0.mk (blk_below BK2.out hb); have NE := Aside0.mk (by rw [hg]; exact Nat.ne_of_lt (blk_lt BK2.out) : g2 ≠ g4); have HB4 := Aside0.mk (below_step HB.out hb); have BK4 := Aside0.mk hbox; have GW4 := Aside0.mk (hg ▸ below_size HB.out : w.heap.size ≤ g4); clear HB BK2; have HB := HB4; have BK2 := BK2b; clear HB4 BK2b hb hbox hg) | ((with_reducible refine gate_store (t := 86) (p := 4) rfl ?_); refine fo_store (w := w) rfl 86 (.tmp 4) (.tmp 14) rfl rfl g4 #[.int .i64 17, .int .i64 3, .int .i64 4, .int .i64 97, .int .i64 5, .int .i64 5, .int .i64 193, .int .i64 5, .int .i64 6, .int .i64 257, .int .i64 3, .int .i64 8, .int .i64 7681, .int .i64 17, .int .i64 9, .int .i64 12289, .int .i64 11, .int .i64 12, .int .i64 998244353, .int .i64 3, .int .i64 23, .int .i64 469762049, .int .i64 3, .int .i64 26, .int .i64 1004535809, .int .i64 3, .int .i64 21] rfl rfl 86 #[.int .i64 0, .int .i64 0, .int .i64 0, .int .i64 0, .int .i64 0, .int .i64 0, .int .i64 0, .int .i64 0, .int .i64 0, .int .i64 0, .int .i64 0, .int .i64 0, .int .i64 0, .int .i64 0, .int .i64 0, .int .i64 0, .int .i64 0, .int .i64 0, .int .i64 0, .int .i64 0, .int .i64 0, .int .i64 0, .int .i64 0, .int .i64 0, .int .i64 0, .int .i64 0, .int .i64 0] BK4.out (by kernel_rfl) (by kernel_rfl) (by kernel_rfl) HB.out GW4.out ?_; intro w5 hk hb5 hoth; have HB5 := Aside0.mk hb5; have BK2b := Aside0.mk ((hoth g2 NE.out).trans BK2.out); clear HB BK2 hb5 hoth; have HB := HB5; have BK2 := BK2b; clear HB5 BK2b; have c0 : w5.cell? ⟨g4, 18, none⟩ = some (.int .i64 998244353) := (blk_cell hk 18).trans rfl; have c1 : w5.cell? ⟨g4, 19, none⟩ = some (.int .i64 3) := (blk_cell hk 19).trans rfl; have c2 : w5.cell? ⟨g4, 20, none⟩ = some (.int .i64 23) := (blk_cell hk 20).trans rfl;  clear hk) | ((with_reducible refine gate_store (t := 56) (p := 2) rfl ?_); refine fo_store (w := w) rfl 56 (.tmp 2) (.tmp 24) rfl rfl g2 #[.int .i64 998244353, .int .i64 3, .int .i64 23] rfl rfl 56 #[.int .i64 0, .int .i64 0, .int .i64 0] BK2.out (by kernel_rfl) (by kernel_rfl) (by kernel_rfl) HB.out GW2.out ?_; intro w6 hk hb5 hoth; have HB5 := Aside0.mk hb5; have BK2b := Aside0.mk hk; clear HB BK2 hb5 hoth hk; have HB := HB5; have BK2 := BK2b; clear HB5 BK2b))
  refine bodyPost_ret (results_ct rfl _ _ g2 56 #[.int .i64 998244353, .int .i64 3, .int .i64 23] (0, 0) _ rfl BK2.out Try.underlying56 rfl (by kernel_rfl)) rfl ?_
  exact ⟨rfl, HB.out⟩

set_option maxHeartbeats 8000000 in
set_option maxRecDepth 100000 in
theorem fo_7 (w : World)  :
    Calls Try.prog 109 #[.int .i64 7] w fun e w' => e = .returned (.tuple #[.agg #[.int .i64 469762049, .int .i64 3, .int .i64 26], .bool true]) ∧ Below w.heap.size w w' := by
  have HB := Aside0.mk (Below.refl w.heap.size w)
  go_enter Try.func109, Try.ntmps109
  go_wp2_with (first | ((with_reducible refine gate_dst (N := 2) rfl ?_); refine box_event ?hg (N := 2) ?hd (cs := #[.int .i64 0, .int .i64 0, .int .i64 0]) (t := 56) ?hr ?_; (case hd => rfl); (case hg => rfl); (case hr => first | (go_simp; done) | (go_simp; rfl)); intro g2 hg wb2 hbox hb; have HB2 := Aside0.mk (below_step HB.out hb); have BK2 := Aside0.mk hbox; have GW2 := Aside0.mk (hg ▸ below_size HB.out : w.heap.size ≤ g2); clear HB; have HB := HB2; clear HB2 hb hbox hg) | ((with_reducible refine gate_dst (N := 4) rfl ?_); refine box_event ?hg (N := 4) ?hd (cs := #[.int .i64 0, .int .i64 0, .int .i64 0, .int .i64 0, .int .i64 0, .int .i64 0, .int .i64 0, .int .i64 0, .int .i64 0, .int .i64 0, .int .i64 0, .int .i64 0, .int .i64 0, .int .i64 0, .int .i64 0, .int .i64 0, .int .i64 0, .int .i64 0, .int .i64 0, .int .i64 0, .int .i64 0, .int .i64 0, .int .i64 0, .int .i64 0, .int .i64 0, .int .i64 0, .int .i64 0]) (t := 86) ?hr ?_; (case hd => rfl); (case hg => rfl); (case hr => first | (go_simp; done) | (go_simp; rfl)); intro g4 hg wb4 hbox hb; have BK2b := Aside0.mk (blk_below BK2.out hb); have NE := Aside0.mk (by rw [hg]; exact Nat.ne_of_lt (blk_lt BK2.out) : g2 ≠ g4); have HB4 := Aside0.mk (below_step HB.out hb); have BK4 := Aside0.mk hbox; have GW4 := Aside0.mk (hg ▸ below_size HB.out : w.heap.size ≤ g4); clear HB BK2; have HB := HB4; have BK2 := BK2b; clear HB4 BK2b hb hbox hg) | ((with_reducible refine gate_store (t := 86) (p := 4) rfl ?_); refine fo_store (w := w) rfl 86 (.tmp 4) (.tmp 14) rfl rfl g4 #[.int .i64 17, .int .i64 3, .int .i64 4, .int .i64 97, .int .i64 5, .int .i64 5, .int .i64 193, .int .i64 5, .int .i64 6, .int .i64 257, .int .i64 3, .int .i64 8, .int .i64 7681, .int .i64 17, .int .i64 9, .int .i64 12289, .int .i64 11, .int .i64 12, .int .i64 998244353, .int .i64 3, .int .i64 23, .int .i64 469762049, .int .i64 3, .int .i64 26, .int .i64 1004535809, .int .i64 3, .int .i64 21] rfl rfl 86 #[.int .i64 0, .int .i64 0, .int .i64 0, .int .i64 0, .int .i64 0, .int .i64 0, .int .i64 0, .int .i64 0, .int .i64 0, .int .i64 0, .int .i64 0, .int .i64 0, .int .i64 0, .int .i64 0, .int .i64 0, .int .i64 0, .int .i64 0, .int .i64 0, .int .i64 0, .int .i64 0, .int .i64 0, .int .i64 0, .int .i64 0, .int .i64 0, .int .i64 0, .int .i64 0, .int .i64 0] BK4.out (by kernel_rfl) (by kernel_rfl) (by kernel_rfl) HB.out GW4.out ?_; intro w5 hk hb5 hoth; have HB5 := Aside0.mk hb5; have BK2b := Aside0.mk ((hoth g2 NE.out).trans BK2.out); clear HB BK2 hb5 hoth; have HB := HB5; have BK2 := BK2b; clear HB5 BK2b; have c0 : w5.cell? ⟨g4, 21, none⟩ = some (.int .i64 469762049) := (blk_cell hk 21).trans rfl; have c1 : w5.cell? ⟨g4, 22, none⟩ = some (.int .i64 3) := (blk_cell hk 22).trans rfl; have c2 : w5.cell? ⟨g4, 23, none⟩ = some (.int .i64 26) := (blk_cell hk 23).trans rfl;  clear hk) | ((with_reducible refine gate_store (t := 56) (p := 2) rfl ?_); refine fo_store (w := w) rfl 56 (.tmp 2) (.tmp 24) rfl rfl g2 #[.int .i64 469762049, .int .i64 3, .int .i64 26] rfl rfl 56 #[.int .i64 0, .int .i64 0, .int .i64 0] BK2.out (by kernel_rfl) (by kernel_rfl) (by kernel_rfl) HB.out GW2.out ?_; intro w6 hk hb5 hoth; have HB5 := Aside0.mk hb5; have BK2b := Aside0.mk hk; clear HB BK2 hb5 hoth hk; have HB := HB5; have BK2 := BK2b; clear HB5 BK2b))
  refine bodyPost_ret (results_ct rfl _ _ g2 56 #[.int .i64 469762049, .int .i64 3, .int .i64 26] (0, 0) _ rfl BK2.out Try.underlying56 rfl (by kernel_rfl)) rfl ?_
  exact ⟨rfl, HB.out⟩

set_option maxHeartbeats 8000000 in
set_option maxRecDepth 100000 in
theorem fo_8 (w : World)  :
    Calls Try.prog 109 #[.int .i64 8] w fun e w' => e = .returned (.tuple #[.agg #[.int .i64 1004535809, .int .i64 3, .int .i64 21], .bool true]) ∧ Below w.heap.size w w' := by
  have HB := Aside0.mk (Below.refl w.heap.size w)
  go_enter Try.func109, Try.ntmps109
  go_wp2_with (first | ((with_reducible refine gate_dst (N := 2) rfl ?_); refine box_event ?hg (N := 2) ?hd (cs := #[.int .i64 0, .int .i64 0, .int .i64 0]) (t := 56) ?hr ?_; (case hd => rfl); (case hg => rfl); (case hr => first | (go_simp; done) | (go_simp; rfl)); intro g2 hg wb2 hbox hb; have HB2 := Aside0.mk (below_step HB.out hb); have BK2 := Aside0.mk hbox; have GW2 := Aside0.mk (hg ▸ below_size HB.out : w.heap.size ≤ g2); clear HB; have HB := HB2; clear HB2 hb hbox hg) | ((with_reducible refine gate_dst (N := 4) rfl ?_); refine box_event ?hg (N := 4) ?hd (cs := #[.int .i64 0, .int .i64 0, .int .i64 0, .int .i64 0, .int .i64 0, .int .i64 0, .int .i64 0, .int .i64 0, .int .i64 0, .int .i64 0, .int .i64 0, .int .i64 0, .int .i64 0, .int .i64 0, .int .i64 0, .int .i64 0, .int .i64 0, .int .i64 0, .int .i64 0, .int .i64 0, .int .i64 0, .int .i64 0, .int .i64 0, .int .i64 0, .int .i64 0, .int .i64 0, .int .i64 0]) (t := 86) ?hr ?_; (case hd => rfl); (case hg => rfl); (case hr => first | (go_simp; done) | (go_simp; rfl)); intro g4 hg wb4 hbox hb; have BK2b := Aside0.mk (blk_below BK2.out hb); have NE := Aside0.mk (by rw [hg]; exact Nat.ne_of_lt (blk_lt BK2.out) : g2 ≠ g4); have HB4 := Aside0.mk (below_step HB.out hb); have BK4 := Aside0.mk hbox; have GW4 := Aside0.mk (hg ▸ below_size HB.out : w.heap.size ≤ g4); clear HB BK2; have HB := HB4; have BK2 := BK2b; clear HB4 BK2b hb hbox hg) | ((with_reducible refine gate_store (t := 86) (p := 4) rfl ?_); refine fo_store (w := w) rfl 86 (.tmp 4) (.tmp 14) rfl rfl g4 #[.int .i64 17, .int .i64 3, .int .i64 4, .int .i64 97, .int .i64 5, .int .i64 5, .int .i64 193, .int .i64 5, .int .i64 6, .int .i64 257, .int .i64 3, .int .i64 8, .int .i64 7681, .int .i64 17, .int .i64 9, .int .i64 12289, .int .i64 11, .int .i64 12, .int .i64 998244353, .int .i64 3, .int .i64 23, .int .i64 469762049, .int .i64 3, .int .i64 26, .int .i64 1004535809, .int .i64 3, .int .i64 21] rfl rfl 86 #[.int .i64 0, .int .i64 0, .int .i64 0, .int .i64 0, .int .i64 0, .int .i64 0, .int .i64 0, .int .i64 0, .int .i64 0, .int .i64 0, .int .i64 0, .int .i64 0, .int .i64 0, .int .i64 0, .int .i64 0, .int .i64 0, .int .i64 0, .int .i64 0, .int .i64 0, .int .i64 0, .int .i64 0, .int .i64 0, .int .i64 0, .int .i64 0, .int .i64 0, .int .i64 0, .int .i64 0] BK4.out (by kernel_rfl) (by kernel_rfl) (by kernel_rfl) HB.out GW4.out ?_; intro w5 hk hb5 hoth; have HB5 := Aside0.mk hb5; have BK2b := Aside0.mk ((hoth g2 NE.out).trans BK2.out); clear HB BK2 hb5 hoth; have HB := HB5; have BK2 := BK2b; clear HB5 BK2b; have c0 : w5.cell? ⟨g4, 24, none⟩ = some (.int .i64 1004535809) := (blk_cell hk 24).trans rfl; have c1 : w5.cell? ⟨g4, 25, none⟩ = some (.int .i64 3) := (blk_cell hk 25).trans rfl; have c2 : w5.cell? ⟨g4, 26, none⟩ = some (.int .i64 21) := (blk_cell hk 26).trans rfl;  clear hk) | ((with_reducible refine gate_store (t := 56) (p := 2) rfl ?_); refine fo_store (w := w) rfl 56 (.tmp 2) (.tmp 24) rfl rfl g2 #[.int .i64 1004535809, .int .i64 3, .int .i64 21] rfl rfl 56 #[.int .i64 0, .int .i64 0, .int .i64 0] BK2.out (by kernel_rfl) (by kernel_rfl) (by kernel_rfl) HB.out GW2.out ?_; intro w6 hk hb5 hoth; have HB5 := Aside0.mk hb5; have BK2b := Aside0.mk hk; clear HB BK2 hb5 hoth hk; have HB := HB5; have BK2 := BK2b; clear HB5 BK2b))
  refine bodyPost_ret (results_ct rfl _ _ g2 56 #[.int .i64 1004535809, .int .i64 3, .int .i64 21] (0, 0) _ rfl BK2.out Try.underlying56 rfl (by kernel_rfl)) rfl ?_
  exact ⟨rfl, HB.out⟩

set_option maxHeartbeats 8000000 in
set_option maxRecDepth 100000 in
theorem fo_neg (w : World) (a0 : Int) (h : a0 < 0) :
    Calls Try.prog 109 #[.int .i64 a0] w fun e w' => e = .returned (.tuple #[.agg #[.int .i64 0, .int .i64 0, .int .i64 0], .bool false]) ∧ Below w.heap.size w w' := by
  have HB := Aside0.mk (Below.refl w.heap.size w)
  have c2b0 : decide (a0 < 0) = true := decide_eq_true h
  go_enter Try.func109, Try.ntmps109
  go_wp2_with (first | ((with_reducible refine gate_dst (N := 2) rfl ?_); refine box_event ?hg (N := 2) ?hd (cs := #[.int .i64 0, .int .i64 0, .int .i64 0]) (t := 56) ?hr ?_; (case hd => rfl); (case hg => rfl); (case hr => first | (go_simp; done) | (go_simp; rfl)); intro g2 hg wb2 hbox hb; have HB2 := Aside0.mk (below_step HB.out hb); have BK2 := Aside0.mk hbox; have GW2 := Aside0.mk (hg ▸ below_size HB.out : w.heap.size ≤ g2); clear HB; have HB := HB2; clear HB2 hb hbox hg) | ((with_reducible refine gate_dst (N := 4) rfl ?_); refine box_event ?hg (N := 4) ?hd (cs := #[.int .i64 0, .int .i64 0, .int .i64 0, .int .i64 0, .int .i64 0, .int .i64 0, .int .i64 0, .int .i64 0, .int .i64 0, .int .i64 0, .int .i64 0, .int .i64 0, .int .i64 0, .int .i64 0, .int .i64 0, .int .i64 0, .int .i64 0, .int .i64 0, .int .i64 0, .int .i64 0, .int .i64 0, .int .i64 0, .int .i64 0, .int .i64 0, .int .i64 0, .int .i64 0, .int .i64 0]) (t := 86) ?hr ?_; (case hd => rfl); (case hg => rfl); (case hr => first | (go_simp; done) | (go_simp; rfl)); intro g4 hg wb4 hbox hb; have BK2b := Aside0.mk (blk_below BK2.out hb); have NE := Aside0.mk (by rw [hg]; exact Nat.ne_of_lt (blk_lt BK2.out) : g2 ≠ g4); have HB4 := Aside0.mk (below_step HB.out hb); have BK4 := Aside0.mk hbox; have GW4 := Aside0.mk (hg ▸ below_size HB.out : w.heap.size ≤ g4); clear HB BK2; have HB := HB4; have BK2 := BK2b; clear HB4 BK2b hb hbox hg) | ((with_reducible refine gate_store (t := 86) (p := 4) rfl ?_); refine fo_store (w := w) rfl 86 (.tmp 4) (.tmp 14) rfl rfl g4 #[.int .i64 17, .int .i64 3, .int .i64 4, .int .i64 97, .int .i64 5, .int .i64 5, .int .i64 193, .int .i64 5, .int .i64 6, .int .i64 257, .int .i64 3, .int .i64 8, .int .i64 7681, .int .i64 17, .int .i64 9, .int .i64 12289, .int .i64 11, .int .i64 12, .int .i64 998244353, .int .i64 3, .int .i64 23, .int .i64 469762049, .int .i64 3, .int .i64 26, .int .i64 1004535809, .int .i64 3, .int .i64 21] rfl rfl 86 #[.int .i64 0, .int .i64 0, .int .i64 0, .int .i64 0, .int .i64 0, .int .i64 0, .int .i64 0, .int .i64 0, .int .i64 0, .int .i64 0, .int .i64 0, .int .i64 0, .int .i64 0, .int .i64 0, .int .i64 0, .int .i64 0, .int .i64 0, .int .i64 0, .int .i64 0, .int .i64 0, .int .i64 0, .int .i64 0, .int .i64 0, .int .i64 0, .int .i64 0, .int .i64 0, .int .i64 0] BK4.out (by kernel_rfl) (by kernel_rfl) (by kernel_rfl) HB.out GW4.out ?_; intro w5 hk hb5 hoth; have HB5 := Aside0.mk hb5; have BK2b := Aside0.mk ((hoth g2 NE.out).trans BK2.out); clear HB BK2 hb5 hoth; have HB := HB5; have BK2 := BK2b; clear HB5 BK2b;  clear hk) | ((with_reducible refine gate_store (t := 56) (p := 2) rfl ?_); refine fo_store (w := w) rfl 56 (.tmp 2) (.tmp 21) rfl rfl g2 #[.int .i64 0, .int .i64 0, .int .i64 0] rfl rfl 56 #[.int .i64 0, .int .i64 0, .int .i64 0] BK2.out (by kernel_rfl) (by kernel_rfl) (by kernel_rfl) HB.out GW2.out ?_; intro w6 hk hb5 hoth; have HB5 := Aside0.mk hb5; have BK2b := Aside0.mk hk; clear HB BK2 hb5 hoth hk; have HB := HB5; have BK2 := BK2b; clear HB5 BK2b))
  refine bodyPost_ret (results_ct rfl _ _ g2 56 #[.int .i64 0, .int .i64 0, .int .i64 0] (0, 0) _ rfl BK2.out Try.underlying56 rfl (by kernel_rfl)) rfl ?_
  exact ⟨rfl, HB.out⟩

set_option maxHeartbeats 8000000 in
set_option maxRecDepth 100000 in
theorem fo_big (w : World) (a0 : Int) (h : a0 ≥ 9) :
    Calls Try.prog 109 #[.int .i64 a0] w fun e w' => e = .returned (.tuple #[.agg #[.int .i64 0, .int .i64 0, .int .i64 0], .bool false]) ∧ Below w.heap.size w w' := by
  have HB := Aside0.mk (Below.refl w.heap.size w)
  have c2b0 : decide (a0 < 0) = false := decide_eq_false (by omega)
  have c5b0 : decide (9 ≤ a0) = true := decide_eq_true h
  go_enter Try.func109, Try.ntmps109
  go_wp2_with (first | ((with_reducible refine gate_dst (N := 2) rfl ?_); refine box_event ?hg (N := 2) ?hd (cs := #[.int .i64 0, .int .i64 0, .int .i64 0]) (t := 56) ?hr ?_; (case hd => rfl); (case hg => rfl); (case hr => first | (go_simp; done) | (go_simp; rfl)); intro g2 hg wb2 hbox hb; have HB2 := Aside0.mk (below_step HB.out hb); have BK2 := Aside0.mk hbox; have GW2 := Aside0.mk (hg ▸ below_size HB.out : w.heap.size ≤ g2); clear HB; have HB := HB2; clear HB2 hb hbox hg) | ((with_reducible refine gate_dst (N := 4) rfl ?_); refine box_event ?hg (N := 4) ?hd (cs := #[.int .i64 0, .int .i64 0, .int .i64 0, .int .i64 0, .int .i64 0, .int .i64 0, .int .i64 0, .int .i64 0, .int .i64 0, .int .i64 0, .int .i64 0, .int .i64 0, .int .i64 0, .int .i64 0, .int .i64 0, .int .i64 0, .int .i64 0, .int .i64 0, .int .i64 0, .int .i64 0, .int .i64 0, .int .i64 0, .int .i64 0, .int .i64 0, .int .i64 0, .int .i64 0, .int .i64 0]) (t := 86) ?hr ?_; (case hd => rfl); (case hg => rfl); (case hr => first | (go_simp; done) | (go_simp; rfl)); intro g4 hg wb4 hbox hb; have BK2b := Aside0.mk (blk_below BK2.out hb); have NE := Aside0.mk (by rw [hg]; exact Nat.ne_of_lt (blk_lt BK2.out) : g2 ≠ g4); have HB4 := Aside0.mk (below_step HB.out hb); have BK4 := Aside0.mk hbox; have GW4 := Aside0.mk (hg ▸ below_size HB.out : w.heap.size ≤ g4); clear HB BK2; have HB := HB4; have BK2 := BK2b; clear HB4 BK2b hb hbox hg) | ((with_reducible refine gate_store (t := 86) (p := 4) rfl ?_); refine fo_store (w := w) rfl 86 (.tmp 4) (.tmp 14) rfl rfl g4 #[.int .i64 17, .int .i64 3, .int .i64 4, .int .i64 97, .int .i64 5, .int .i64 5, .int .i64 193, .int .i64 5, .int .i64 6, .int .i64 257, .int .i64 3, .int .i64 8, .int .i64 7681, .int .i64 17, .int .i64 9, .int .i64 12289, .int .i64 11, .int .i64 12, .int .i64 998244353, .int .i64 3, .int .i64 23, .int .i64 469762049, .int .i64 3, .int .i64 26, .int .i64 1004535809, .int .i64 3, .int .i64 21] rfl rfl 86 #[.int .i64 0, .int .i64 0, .int .i64 0, .int .i64 0, .int .i64 0, .int .i64 0, .int .i64 0, .int .i64 0, .int .i64 0, .int .i64 0, .int .i64 0, .int .i64 0, .int .i64 0, .int .i64 0, .int .i64 0, .int .i64 0, .int .i64 0, .int .i64 0, .int .i64 0, .int .i64 0, .int .i64 0, .int .i64 0, .int .i64 0, .int .i64 0, .int .i64 0, .int .i64 0, .int .i64 0] BK4.out (by kernel_rfl) (by kernel_rfl) (by kernel_rfl) HB.out GW4.out ?_; intro w5 hk hb5 hoth; have HB5 := Aside0.mk hb5; have BK2b := Aside0.mk ((hoth g2 NE.out).trans BK2.out); clear HB BK2 hb5 hoth; have HB := HB5; have BK2 := BK2b; clear HB5 BK2b;  clear hk) | ((with_reducible refine gate_store (t := 56) (p := 2) rfl ?_); refine fo_store (w := w) rfl 56 (.tmp 2) (.tmp 21) rfl rfl g2 #[.int .i64 0, .int .i64 0, .int .i64 0] rfl rfl 56 #[.int .i64 0, .int .i64 0, .int .i64 0] BK2.out (by kernel_rfl) (by kernel_rfl) (by kernel_rfl) HB.out GW2.out ?_; intro w6 hk hb5 hoth; have HB5 := Aside0.mk hb5; have BK2b := Aside0.mk hk; clear HB BK2 hb5 hoth hk; have HB := HB5; have BK2 := BK2b; clear HB5 BK2b))
  refine bodyPost_ret (results_ct rfl _ _ g2 56 #[.int .i64 0, .int .i64 0, .int .i64 0] (0, 0) _ rfl BK2.out Try.underlying56 rfl (by kernel_rfl)) rfl ?_
  exact ⟨rfl, HB.out⟩

theorem impl_fieldOf.calls (a0 : Int) (r1 : Int) (r2 : Int) (r3 : Int) (r4 : Bool) (w : World) (h : impl_fieldOf.f a0 = some (r1, r2, r3, r4)) :
    Calls Try.prog 109 #[.int .i64 a0] w fun e w' => e = .returned (.tuple #[.agg #[.int .i64 r1, .int .i64 r2, .int .i64 r3], .bool r4]) ∧ Below w.heap.size w w' := by
  unfold impl_fieldOf.f at h
  by_cases c : a0 < 0
  · rw [if_pos c] at h
    simp only [Option.some.injEq, Prod.mk.injEq] at h
    obtain ⟨rfl, rfl, rfl, rfl⟩ := h
    exact fo_neg w a0 c
  · rw [if_neg c] at h
    have n_fo_neg := c
    clear c
    by_cases c : a0 ≥ 9
    · rw [if_pos c] at h
      simp only [Option.some.injEq, Prod.mk.injEq] at h
      obtain ⟨rfl, rfl, rfl, rfl⟩ := h
      exact fo_big w a0 c
    · rw [if_neg c] at h
      have n_fo_big := c
      clear c
      by_cases c : a0 = 0
      · rw [if_pos c] at h
        simp only [Option.some.injEq, Prod.mk.injEq] at h
        obtain ⟨rfl, rfl, rfl, rfl⟩ := h
        subst c
        exact fo_0 w
      · rw [if_neg c] at h
        have n_fo_0 := c
        clear c
        by_cases c : a0 = 1
        · rw [if_pos c] at h
          simp only [Option.some.injEq, Prod.mk.injEq] at h
          obtain ⟨rfl, rfl, rfl, rfl⟩ := h
          subst c
          exact fo_1 w
        · rw [if_neg c] at h
          have n_fo_1 := c
          clear c
          by_cases c : a0 = 2
          · rw [if_pos c] at h
            simp only [Option.some.injEq, Prod.mk.injEq] at h
            obtain ⟨rfl, rfl, rfl, rfl⟩ := h
            subst c
            exact fo_2 w
          · rw [if_neg c] at h
            have n_fo_2 := c
            clear c
            by_cases c : a0 = 3
            · rw [if_pos c] at h
              simp only [Option.some.injEq, Prod.mk.injEq] at h
              obtain ⟨rfl, rfl, rfl, rfl⟩ := h
              subst c
              exact fo_3 w
            · rw [if_neg c] at h
              have n_fo_3 := c
              clear c
              by_cases c : a0 = 4
              · rw [if_pos c] at h
                simp only [Option.some.injEq, Prod.mk.injEq] at h
                obtain ⟨rfl, rfl, rfl, rfl⟩ := h
                subst c
                exact fo_4 w
              · rw [if_neg c] at h
                have n_fo_4 := c
                clear c
                by_cases c : a0 = 5
                · rw [if_pos c] at h
                  simp only [Option.some.injEq, Prod.mk.injEq] at h
                  obtain ⟨rfl, rfl, rfl, rfl⟩ := h
                  subst c
                  exact fo_5 w
                · rw [if_neg c] at h
                  have n_fo_5 := c
                  clear c
                  by_cases c : a0 = 6
                  · rw [if_pos c] at h
                    simp only [Option.some.injEq, Prod.mk.injEq] at h
                    obtain ⟨rfl, rfl, rfl, rfl⟩ := h
                    subst c
                    exact fo_6 w
                  · rw [if_neg c] at h
                    have n_fo_6 := c
                    clear c
                    by_cases c : a0 = 7
                    · rw [if_pos c] at h
                      simp only [Option.some.injEq, Prod.mk.injEq] at h
                      obtain ⟨rfl, rfl, rfl, rfl⟩ := h
                      subst c
                      exact fo_7 w
                    · rw [if_neg c] at h
                      have n_fo_7 := c
                      clear c
                      simp only [Option.some.injEq, Prod.mk.injEq] at h
                      obtain ⟨rfl, rfl, rfl, rfl⟩ := h
                      obtain rfl : a0 = 8 := by omega
                      exact fo_8 w

end Go.Proofs.Ythdmhmhcmokieaa.PFnExactSeriesSqrt
