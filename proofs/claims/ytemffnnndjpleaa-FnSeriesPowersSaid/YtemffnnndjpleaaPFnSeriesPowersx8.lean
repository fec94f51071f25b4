/- The machine side of this law: each Go function that it reaches as a Lean function, and the proof that the call comes to just its answer; printed by a program of this session out of the kit's print, with a contract of impl.fieldOf that is this session's own. No condition. -/
import Derived.Test.YtemffnnndjpleaaPFnSeriesPowersx0
import Derived.Test.YtemffnnndjpleaaPFnSeriesPowersx4
import Derived.Test.YtemffnnndjpleaaPFnSeriesPowersx6
import Derived.Test.YtemffnnndjpleaaPFnSeriesPowersx7
namespace Go.Proofs.Ytemffnnndjpleaa.PFnSeriesPowers
open Go.RowKit Go.Proofs.YtemffnnndjpleaaW.PrintWords Go.Proofs.YtemffnnndjpleaaW.PrintLast Go.Proofs.YtemffnnndjpleaaW.PrintMore
attribute [local go_sem] max2_int min2_int max_two min_two max_three min_three max_four min_four   -- for this text's walks alone
set_option linter.unusedVariables false
set_option linter.unusedSimpArgs false

/-! ### laws_FnSeriesPowers: function 7 -/
mutual
def laws_FnSeriesPowers.j0 : Nat → List Int → Int → List Int → Bool → Option (Bool)
  | 0, _, _, _, _ => none
  | k + 1, x0, x3, x4, x32 => if x32 = true then (some true) else ((laws_at.f x0 0).bind fun t348 => ((laws_at.f x0 1).bind fun t349 => (if (wrap64 ((wrap64 (t348 * 8)) - 1000)) > 1000 then (laws_FnSeriesPowers.j1 k x3 x4 (wrap64 ((wrap64 (t348 * 8)) - 1000)) (wrap64 ((wrap64 (t349 * 8)) - 1000)) true) else (laws_FnSeriesPowers.j1 k x3 x4 (wrap64 ((wrap64 (t348 * 8)) - 1000)) (wrap64 ((wrap64 (t349 * 8)) - 1000)) (decide ((wrap64 ((wrap64 (t349 * 8)) - 1000)) > 1000))))))
def laws_FnSeriesPowers.j1 : Nat → Int → List Int → Int → Int → Bool → Option (Bool)
  | 0, _, _, _, _, _ => none
  | k + 1, x3, x4, x5, x6, x46 => if x46 = true then (some true) else ((laws_cp.f k x4).bind fun t350 => ((impl_SeriesPow.f k x3 t350 x5).bind fun bt353 => ((laws_cp.f k x4).bind fun t357 => ((impl_SeriesPow.f k x3 t357 x6).bind fun bt360 => ((laws_cp.f k x4).bind fun t364 => ((impl_SeriesPow.f k x3 t364 (wrap64 (x5 + x6))).bind fun bt367 => (if bt353.2 = true then (if bt360.2 = true then (if bt367.2 = true then (if (bt367.1.length : Int) = (x4.length : Int) then ((impl_SeriesMul.f k x3 bt353.1 bt360.1).bind fun t371 => ((laws_same.f k t371 bt367.1).bind fun t374 => (laws_FnSeriesPowers.j2 k x3 x4 (!t374)))) else (laws_FnSeriesPowers.j2 k x3 x4 true)) else (laws_FnSeriesPowers.j2 k x3 x4 true)) else (laws_FnSeriesPowers.j2 k x3 x4 true)) else (laws_FnSeriesPowers.j2 k x3 x4 true))))))))
def laws_FnSeriesPowers.j2 : Nat → Int → List Int → Bool → Option (Bool)
  | 0, _, _, _ => none
  | k + 1, x3, x4, x98 => if x98 = true then (some false) else ((laws_cp.f k x4).bind fun t375 => (if 0 < (t375.length : Int) then ((some (t375.set (0 : Int).toNat 1 : List Int)).bind fun y378 => ((laws_cp.f k y378).bind fun t379 => ((laws_cp.f k y378).bind fun t382 => ((impl_SeriesMul.f k x3 t379 t382).bind fun t385 => ((impl_SeriesSqrt.f k x3 t385).bind fun bt388 => (if bt388.2 = true then ((laws_same.f k bt388.1 y378).bind fun t392 => (some t392)) else (some false))))))) else (none)))
end
def laws_FnSeriesPowers.f (k : Nat) (l0 : List Int) : Option (Bool) := (laws_big.f l0).bind fun t341 => (if t341 = true then (some true) else ((spec_DrawSeriesInv.f k l0).bind fun bt342 => ((spec_SeriesOk.f k bt342.1 bt342.2).bind fun t346 => (if t346 = true then (if 0 < (bt342.2.length : Int) then (laws_FnSeriesPowers.j0 k l0 bt342.1 bt342.2 ((rd bt342.2 0) == 0)) else (none)) else (laws_FnSeriesPowers.j0 k l0 bt342.1 bt342.2 true)))))
theorem laws_FnSeriesPowers.mono_l : ∀ k, (∀ y0 y1 y2 y3, LeO (laws_FnSeriesPowers.j0 k y0 y1 y2 y3) (laws_FnSeriesPowers.j0 (k + 1) y0 y1 y2 y3)) ∧ (∀ y0 y1 y2 y3 y4, LeO (laws_FnSeriesPowers.j1 k y0 y1 y2 y3 y4) (laws_FnSeriesPowers.j1 (k + 1) y0 y1 y2 y3 y4)) ∧ (∀ y0 y1 y2, LeO (laws_FnSeriesPowers.j2 k y0 y1 y2) (laws_FnSeriesPowers.j2 (k + 1) y0 y1 y2))
  | 0 => ⟨fun _ _ _ _ r h => by simp [laws_FnSeriesPowers.j0] at h, fun _ _ _ _ _ r h => by simp [laws_FnSeriesPowers.j1] at h, fun _ _ _ r h => by simp [laws_FnSeriesPowers.j2] at h⟩
  | k + 1 => by
    obtain ⟨ih0, ih1, ih2⟩ := laws_FnSeriesPowers.mono_l k
    refine ⟨?_, ?_, ?_⟩
    · intro y0 y1 y2 y3
      unfold laws_FnSeriesPowers.j0
      repeat' first
      | (with_reducible exact ih0 _ _ _ _)
      | (with_reducible exact ih1 _ _ _ _ _)
      | (with_reducible exact ih2 _ _ _)
      | (with_reducible exact impl_SeriesMul.mono _ _ _ _)
      | (with_reducible exact impl_SeriesPow.mono _ _ _ _)
      | (with_reducible exact impl_SeriesSqrt.mono _ _ _)
      | (with_reducible exact laws_cp.mono _ _)
      | (with_reducible exact laws_same.mono _ _ _)
      | (with_reducible exact spec_DrawSeriesInv.mono _ _)
      | (with_reducible exact spec_SeriesOk.mono _ _ _)
      | (with_reducible exact LeO.refl _)
      | (with_reducible exact LeO.none _)
      | (with_reducible refine LeO.ite ?_ ?_)
      | (with_reducible refine LeO.bind ?_ (fun _ => ?_))
      | exact ih0 _ _ _ _
      | exact ih1 _ _ _ _ _
      | exact ih2 _ _ _
      | exact impl_SeriesMul.mono _ _ _ _
      | exact impl_SeriesPow.mono _ _ _ _
      | exact impl_SeriesSqrt.mono _ _ _
      | exact laws_cp.mono _ _
      | exact laws_same.mono _ _ _
      | exact spec_DrawSeriesInv.mono _ _
      | exact spec_SeriesOk.mono _ _ _
      | exact LeO.none _
      | refine LeO.ite ?_ ?_
      | refine LeO.bind ?_ (fun _ => ?_)
    · intro y0 y1 y2 y3 y4
      unfold laws_FnSeriesPowers.j1
      repeat' first
      | (with_reducible exact ih0 _ _ _ _)
      | (with_reducible exact ih1 _ _ _ _ _)
      | (with_reducible exact ih2 _ _ _)
      | (with_reducible exact impl_SeriesMul.mono _ _ _ _)
      | (with_reducible exact impl_SeriesPow.mono _ _ _ _)
      | (with_reducible exact impl_SeriesSqrt.mono _ _ _)
      | (with_reducible exact laws_cp.mono _ _)
      | (with_reducible exact laws_same.mono _ _ _)
      | (with_reducible exact spec_DrawSeriesInv.mono _ _)
      | (with_reducible exact spec_SeriesOk.mono _ _ _)
      | (with_reducible exact LeO.refl _)
      | (with_reducible exact LeO.none _)
      | (with_reducible refine LeO.ite ?_ ?_)
      | (with_reducible refine LeO.bind ?_ (fun _ => ?_))
      | exact ih0 _ _ _ _
      | exact ih1 _ _ _ _ _
      | exact ih2 _ _ _
      | exact impl_SeriesMul.mono _ _ _ _
      | exact impl_SeriesPow.mono _ _ _ _
      | exact impl_SeriesSqrt.mono _ _ _
      | exact laws_cp.mono _ _
      | exact laws_same.mono _ _ _
      | exact spec_DrawSeriesInv.mono _ _
      | exact spec_SeriesOk.mono _ _ _
      | exact LeO.none _
      | refine LeO.ite ?_ ?_
      | refine LeO.bind ?_ (fun _ => ?_)
    · intro y0 y1 y2
      unfold laws_FnSeriesPowers.j2
      repeat' first
      | (with_reducible exact ih0 _ _ _ _)
      | (with_reducible exact ih1 _ _ _ _ _)
      | (with_reducible exact ih2 _ _ _)
      | (with_reducible exact impl_SeriesMul.mono _ _ _ _)
      | (with_reducible exact impl_SeriesPow.mono _ _ _ _)
      | (with_reducible exact impl_SeriesSqrt.mono _ _ _)
      | (with_reducible exact laws_cp.mono _ _)
      | (with_reducible exact laws_same.mono _ _ _)
      | (with_reducible exact spec_DrawSeriesInv.mono _ _)
      | (with_reducible exact spec_SeriesOk.mono _ _ _)
      | (with_reducible exact LeO.refl _)
      | (with_reducible exact LeO.none _)
      | (with_reducible refine LeO.ite ?_ ?_)
      | (with_reducible refine LeO.bind ?_ (fun _ => ?_))
      | exact ih0 _ _ _ _
      | exact ih1 _ _ _ _ _
      | exact ih2 _ _ _
      | exact impl_SeriesMul.mono _ _ _ _
      | exact impl_SeriesPow.mono _ _ _ _
      | exact impl_SeriesSqrt.mono _ _ _
      | exact laws_cp.mono _ _
      | exact laws_same.mono _ _ _
      | exact spec_DrawSeriesInv.mono _ _
      | exact spec_SeriesOk.mono _ _ _
      | exact LeO.none _
      | refine LeO.ite ?_ ?_
      | refine LeO.bind ?_ (fun _ => ?_)
theorem laws_FnSeriesPowers.mono : ∀ a0 k, LeO (laws_FnSeriesPowers.f k a0) (laws_FnSeriesPowers.f (k + 1) a0) := by
  intro a0 k
  obtain ⟨ih0, ih1, ih2⟩ := laws_FnSeriesPowers.mono_l k
  unfold laws_FnSeriesPowers.f
  repeat' first
      | (with_reducible exact ih0 _ _ _ _)
      | (with_reducible exact ih1 _ _ _ _ _)
      | (with_reducible exact ih2 _ _ _)
      | (with_reducible exact impl_SeriesMul.mono _ _ _ _)
      | (with_reducible exact impl_SeriesPow.mono _ _ _ _)
      | (with_reducible exact impl_SeriesSqrt.mono _ _ _)
      | (with_reducible exact laws_cp.mono _ _)
      | (with_reducible exact laws_same.mono _ _ _)
      | (with_reducible exact spec_DrawSeriesInv.mono _ _)
      | (with_reducible exact spec_SeriesOk.mono _ _ _)
      | (with_reducible exact LeO.refl _)
      | (with_reducible exact LeO.none _)
      | (with_reducible refine LeO.ite ?_ ?_)
      | (with_reducible refine LeO.bind ?_ (fun _ => ?_))
      | exact ih0 _ _ _ _
      | exact ih1 _ _ _ _ _
      | exact ih2 _ _ _
      | exact impl_SeriesMul.mono _ _ _ _
      | exact impl_SeriesPow.mono _ _ _ _
      | exact impl_SeriesSqrt.mono _ _ _
      | exact laws_cp.mono _ _
      | exact laws_same.mono _ _ _
      | exact spec_DrawSeriesInv.mono _ _
      | exact spec_SeriesOk.mono _ _ _
      | exact LeO.none _
      | refine LeO.ite ?_ ?_
      | refine LeO.bind ?_ (fun _ => ?_)
set_option maxHeartbeats 8000000 in
set_option maxRecDepth 100000 in
theorem laws_FnSeriesPowers.calls (k : Nat) (A0 : Option Addr) (c0 : Nat) (l0 : List Int) (r : Bool) (w : World) (hr0 : Kd.C (Kd.int .u8) w A0 l0.length l0) (hc0 : l0.length ≤ c0) (h : laws_FnSeriesPowers.f k l0 = some r) :
    Calls Try.prog 7 #[.slice A0 l0.length c0] w fun e w' => e = .returned (.bool r) ∧ Below w.heap.size w w' := by
  have HR0 := Aside0.mk hr0
  have HC0 := Aside0.mk hc0
  clear hr0 hc0
  have HB := Aside0.mk (Below.refl w.heap.size w)
  have H : ((laws_big.f l0).bind fun t341 => (if t341 = true then (some true) else ((spec_DrawSeriesInv.f k l0).bind fun bt342 => ((spec_SeriesOk.f k bt342.1 bt342.2).bind fun t346 => (if t346 = true then (if 0 < (bt342.2.length : Int) then (laws_FnSeriesPowers.j0 k l0 bt342.1 bt342.2 ((rd bt342.2 0) == 0)) else (none)) else (laws_FnSeriesPowers.j0 k l0 bt342.1 bt342.2 true)))))) = some r := h
  clear h
  replace H := Option.bind_eq_some_iff.mp H
  obtain ⟨t341, A20, H⟩ := H
  replace H : (if t341 = true then (some true) else ((spec_DrawSeriesInv.f k l0).bind fun bt342 => ((spec_SeriesOk.f k bt342.1 bt342.2).bind fun t346 => (if t346 = true then (if 0 < (bt342.2.length : Int) then (laws_FnSeriesPowers.j0 k l0 bt342.1 bt342.2 ((rd bt342.2 0) == 0)) else (none)) else (laws_FnSeriesPowers.j0 k l0 bt342.1 bt342.2 true))))) = some r := H
  have A2 := Aside0.mk A20
  clear A20
  by_cases c3 : t341 = true
  · subst c3
    have H1 : (some true) = some r := by rw [if_pos rfl] at H; exact H
    clear H
    have H := H1
    clear H1
    obtain rfl := Option.some.inj H
    go_enter Try.func7, Try.ntmps7
    go_wp2_with (first | ((with_reducible refine gate_callee (f := 22) rfl ?_); refine goesL_ (some 17) rfl rfl Try.func22 (by kernel_rfl) rfl #[.slice A0 l0.length c0] rfl (by (try simp only [List.map_toArray, List.map_cons, List.map_nil]); first | done | rfl | (simp only [List.length_drop, List.length_take]; rfl)) ?_; (with_reducible refine (laws_big.calls _ _ l0 true _ ?side1 ?side2 A2.out).mono ?_); (case side1 => repeat (first | exact HR0.out | (with_reducible refine Kd.C_alloc ?_ _) | (with_reducible refine Kd.C_drewN ?_ _) | (with_reducible refine Kd.C_drew ?_))); (case side2 => exact HC0.out); rintro e w' ⟨rfl, ⟨nd, rfl⟩⟩; refine ⟨_, rfl, ?_⟩))
    go_ret
    exact ⟨by first | rfl | (simp [errW_none, errW_some] <;> rfl) | (simp [*, errW_none, errW_some] <;> rfl), by repeat (first | (with_reducible first | exact HB.out | apply below_alloc | apply pw_below_drewN | apply below_drew1) | exact HB.out)⟩
  · replace c3 := Bool.eq_false_iff.mpr c3
    subst c3
    have H1 : ((spec_DrawSeriesInv.f k l0).bind fun bt342 => ((spec_SeriesOk.f k bt342.1 bt342.2).bind fun t346 => (if t346 = true then (if 0 < (bt342.2.length : Int) then (laws_FnSeriesPowers.j0 k l0 bt342.1 bt342.2 ((rd bt342.2 0) == 0)) else (none)) else (laws_FnSeriesPowers.j0 k l0 bt342.1 bt342.2 true)))) = some r := by rw [if_neg (show ¬ (false = true) by decide)] at H; exact H
    clear H
    have H := H1
    clear H1
    replace H := Option.bind_eq_some_iff.mp H
    obtain ⟨⟨t342, t343⟩, A40, H⟩ := H
    replace H : ((spec_SeriesOk.f k t342 t343).bind fun t346 => (if t346 = true then (if 0 < (t343.length : Int) then (laws_FnSeriesPowers.j0 k l0 t342 t343 ((rd t343 0) == 0)) else (none)) else (laws_FnSeriesPowers.j0 k l0 t342 t343 true))) = some r := H
    have A4 := Aside0.mk A40
    clear A40
    have HC5 := Aside0.mk H
    clear H
    go_enter Try.func7, Try.ntmps7
    go_upto_region 4 with (first | ((with_reducible refine gate_callee (f := 22) rfl ?_); refine goesL_ (some 17) rfl rfl Try.func22 (by kernel_rfl) rfl #[.slice A0 l0.length c0] rfl (by (try simp only [List.map_toArray, List.map_cons, List.map_nil]); first | done | rfl | (simp only [List.length_drop, List.length_take]; rfl)) ?_; (with_reducible refine (laws_big.calls _ _ l0 false _ ?side1 ?side2 A2.out).mono ?_); (case side1 => repeat (first | exact HR0.out | (with_reducible refine Kd.C_alloc ?_ _) | (with_reducible refine Kd.C_drewN ?_ _) | (with_reducible refine Kd.C_drew ?_))); (case side2 => exact HC0.out); rintro e w' ⟨rfl, ⟨nd, rfl⟩⟩; refine ⟨_, rfl, ?_⟩) | ((with_reducible refine gate_callee (f := 31) rfl ?_); refine goesL_ (some 20) rfl rfl Try.func31 (by kernel_rfl) rfl #[.slice A0 l0.length c0] rfl (by (try simp only [List.map_toArray, List.map_cons, List.map_nil]); first | done | rfl | (simp only [List.length_drop, List.length_take]; rfl)) ?_; (with_reducible refine (spec_DrawSeriesInv.calls k _ _ l0 t342 t343 _ ?side1 ?side2 A4.out).mono ?_); (case side1 => repeat (first | exact HR0.out | (with_reducible refine Kd.C_alloc ?_ _) | (with_reducible refine Kd.C_drewN ?_ _) | (with_reducible refine Kd.C_drew ?_))); (case side2 => exact HC0.out); rintro e w6 ⟨v344, rfl, ho0, hb⟩; refine ⟨_, rfl, ?_⟩; have n0_ := Aside0.mk (Kd.R_lower ho0 (below_size (by repeat (first | (with_reducible first | exact HB.out | apply below_alloc | apply pw_below_drewN | apply below_drew1) | exact HB.out)))); have n1_ := Aside0.mk (below_step (by repeat (first | (with_reducible first | exact HB.out | apply below_alloc | apply pw_below_drewN | apply below_drew1) | exact HB.out)) hb); clear HB; have HO345 := n0_; have HB := n1_; clear n0_ n1_; (try clear hb); (try clear hb2); (try clear hk); (try clear hi); (try clear ho0)))
    (try simp only [Act.put, List.setIfInBounds_toArray, List.set_cons_zero, List.set_cons_succ])
    go_cut [32] (fun v32 wc => ∃ (kq : Nat) (x32_4 : Bool), v32 = .bool x32_4 ∧ Aside0 (laws_FnSeriesPowers.j0 kq l0 t342 t343 x32_4 = some r) ∧ Aside0 (kq ≤ k) ∧ Aside0 (Kd.R (Kd.int .i64) 3 wc w.heap.size (fun _ => True) v344 t343) ∧ Aside0 (Below w.heap.size w wc))
    case first =>
      have H := HC5.out
      clear HC5
      replace H := Option.bind_eq_some_iff.mp H
      obtain ⟨t346, A70, H⟩ := H
      replace H : (if t346 = true then (if 0 < (t343.length : Int) then (laws_FnSeriesPowers.j0 k l0 t342 t343 ((rd t343 0) == 0)) else (none)) else (laws_FnSeriesPowers.j0 k l0 t342 t343 true)) = some r := H
      have A7 := Aside0.mk A70
      clear A70
      by_cases c8 : t346 = true
      · subst c8
        have H1 : (if 0 < (t343.length : Int) then (laws_FnSeriesPowers.j0 k l0 t342 t343 ((rd t343 0) == 0)) else (none)) = some r := by rw [if_pos rfl] at H; exact H
        clear H
        have H := H1
        clear H1
        by_cases c9 : 0 < (t343.length : Int)
        · rw [if_pos c9] at H
          have c9b0 : decide (0 < (t343.length : Int)) = true := decide_eq_true c9
          have c9b1 : decide (0 < t343.length) = true := decide_eq_true (by omega)
          clear c9
          (first | rw [c9b0] | (simp only [i64_w, i32_w]; rw [c9b0]) | skip)
          have H' := Aside0.mk H
          clear H
          obtain ⟨Ao10, co10, eo10⟩ := Kd.R_slice HO345.out
          subst eo10
          go_wp2_with (first | ((with_reducible refine gate_callee (f := 32) rfl ?_); refine goesL_ (some 25) rfl rfl Try.func32 (by kernel_rfl) rfl #[.int .i64 t342, .slice Ao10 t343.length co10] rfl (by (try simp only [List.map_toArray, List.map_cons, List.map_nil]); first | done | rfl | (simp only [List.length_drop, List.length_take]; rfl)) ?_; (with_reducible refine (spec_SeriesOk.calls k t342 _ _ t343 true _ ?side1 ?side2 A7.out).mono ?_); (case side1 => repeat (first | exact (Kd.R_reads' HO345.out).2.2 | (with_reducible refine Kd.C_alloc ?_ _) | (with_reducible refine Kd.C_drewN ?_ _) | (with_reducible refine Kd.C_drew ?_))); (case side2 => exact (Kd.R_reads' HO345.out).2.1); rintro e w' ⟨rfl, ⟨nd, rfl⟩⟩; refine ⟨_, rfl, ?_⟩; have p347 : 0 ≤ (0 : Int) := (by omega); have q347 : 0 < (t343.length : Int) := of_decide_eq_true (by first | (with_reducible assumption) | assumption); obtain ⟨ad347, e347, hx347_0⟩ := Kd.at_int (Kd.R_reads' HO345.out).2.2 0 p347 q347; cases e347; have qi347 : (0 < t343.length) = True := eq_true (by omega); (try rw [show ((0 : Int)).toNat = 0 from rfl] at hx347_0); (try rw [Addr.add_zero'] at hx347_0); replace p347 := eq_true p347; replace q347 := eq_true q347))
          go_meet
          case rel => exact ⟨_, (((rd t343 0) == 0)), (by first | rfl | (simp; done) | (simp [*]; done)), H', ⟨by first | omega | exact Nat.le_refl _⟩, ⟨by (with_reducible repeat (first | apply Kd.R_alloc | apply Kd.R_drewN | apply Kd.R_drew)); exact HO345.out⟩, ⟨by repeat (first | (with_reducible first | exact HB.out | apply below_alloc | apply pw_below_drewN | apply below_drew1) | exact HB.out)⟩⟩
        · rw [if_neg c9] at H
          exact absurd H (by simp)
      · replace c8 := Bool.eq_false_iff.mpr c8
        subst c8
        have H1 : (laws_FnSeriesPowers.j0 k l0 t342 t343 true) = some r := by rw [if_neg (show ¬ (false = true) by decide)] at H; exact H
        clear H
        have H := H1
        clear H1
        have H' := Aside0.mk H
        clear H
        obtain ⟨Ao11, co11, eo11⟩ := Kd.R_slice HO345.out
        subst eo11
        go_wp2_with (first | ((with_reducible refine gate_callee (f := 32) rfl ?_); refine goesL_ (some 25) rfl rfl Try.func32 (by kernel_rfl) rfl #[.int .i64 t342, .slice Ao11 t343.length co11] rfl (by (try simp only [List.map_toArray, List.map_cons, List.map_nil]); first | done | rfl | (simp only [List.length_drop, List.length_take]; rfl)) ?_; (with_reducible refine (spec_SeriesOk.calls k t342 _ _ t343 false _ ?side1 ?side2 A7.out).mono ?_); (case side1 => repeat (first | exact (Kd.R_reads' HO345.out).2.2 | (with_reducible refine Kd.C_alloc ?_ _) | (with_reducible refine Kd.C_drewN ?_ _) | (with_reducible refine Kd.C_drew ?_))); (case side2 => exact (Kd.R_reads' HO345.out).2.1); rintro e w' ⟨rfl, ⟨nd, rfl⟩⟩; refine ⟨_, rfl, ?_⟩))
        go_meet
        case rel => exact ⟨_, (true), (by first | rfl | (simp; done) | (simp [*]; done)), H', ⟨by first | omega | exact Nat.le_refl _⟩, ⟨by (with_reducible repeat (first | apply Kd.R_alloc | apply Kd.R_drewN | apply Kd.R_drew)); exact HO345.out⟩, ⟨by repeat (first | (with_reducible first | exact HB.out | apply below_alloc | apply pw_below_drewN | apply below_drew1) | exact HB.out)⟩⟩
    case rest =>
      clear HC5
      try clear c2
      try clear p2
      try clear c3
      try clear p3
      try clear q3
      try clear hx3
      try clear qi3
      try clear c7
      try clear c8
      try clear c9
      try clear c9b0
      try clear c9b1
      try clear hx347_0
      try clear p347
      try clear q347
      obtain ⟨kq, x32_4, rfl, HA, HJ4, HO_4, HB⟩ := hcut
      cases kq with
      | zero => exact absurd HA.out (by simp [laws_FnSeriesPowers.j0])
      | succ kj4 =>
        have H := HA.out
        clear HA
        simp only [laws_FnSeriesPowers.j0] at H
        by_cases c12 : x32_4 = true
        · subst c12
          have H1 : (some true) = some r := by rw [if_pos rfl] at H; exact H
          clear H
          have H := H1
          clear H1
          obtain rfl := Option.some.inj H
          go_wp2
          go_ret
          exact ⟨by first | rfl | (simp [errW_none, errW_some] <;> rfl) | (simp [*, errW_none, errW_some] <;> rfl), by repeat (first | (with_reducible first | exact HB.out | apply below_alloc | apply pw_below_drewN | apply below_drew1) | exact HB.out)⟩
        · replace c12 := Bool.eq_false_iff.mpr c12
          subst c12
          have H1 : ((laws_at.f l0 0).bind fun t348 => ((laws_at.f l0 1).bind fun t349 => (if (wrap64 ((wrap64 (t348 * 8)) - 1000)) > 1000 then (laws_FnSeriesPowers.j1 kj4 t342 t343 (wrap64 ((wrap64 (t348 * 8)) - 1000)) (wrap64 ((wrap64 (t349 * 8)) - 1000)) true) else (laws_FnSeriesPowers.j1 kj4 t342 t343 (wrap64 ((wrap64 (t348 * 8)) - 1000)) (wrap64 ((wrap64 (t349 * 8)) - 1000)) (decide ((wrap64 ((wrap64 (t349 * 8)) - 1000)) > 1000)))))) = some r := by rw [if_neg (show ¬ (false = true) by decide)] at H; exact H
          clear H
          have H := H1
          clear H1
          replace H := Option.bind_eq_some_iff.mp H
          obtain ⟨t348, A130, H⟩ := H
          replace H : ((laws_at.f l0 1).bind fun t349 => (if (wrap64 ((wrap64 (t348 * 8)) - 1000)) > 1000 then (laws_FnSeriesPowers.j1 kj4 t342 t343 (wrap64 ((wrap64 (t348 * 8)) - 1000)) (wrap64 ((wrap64 (t349 * 8)) - 1000)) true) else (laws_FnSeriesPowers.j1 kj4 t342 t343 (wrap64 ((wrap64 (t348 * 8)) - 1000)) (wrap64 ((wrap64 (t349 * 8)) - 1000)) (decide ((wrap64 ((wrap64 (t349 * 8)) - 1000)) > 1000))))) = some r := H
          have A13 := Aside0.mk A130
          clear A130
          replace H := Option.bind_eq_some_iff.mp H
          obtain ⟨t349, A140, H⟩ := H
          replace H : (if (wrap64 ((wrap64 (t348 * 8)) - 1000)) > 1000 then (laws_FnSeriesPowers.j1 kj4 t342 t343 (wrap64 ((wrap64 (t348 * 8)) - 1000)) (wrap64 ((wrap64 (t349 * 8)) - 1000)) true) else (laws_FnSeriesPowers.j1 kj4 t342 t343 (wrap64 ((wrap64 (t348 * 8)) - 1000)) (wrap64 ((wrap64 (t349 * 8)) - 1000)) (decide ((wrap64 ((wrap64 (t349 * 8)) - 1000)) > 1000)))) = some r := H
          have A14 := Aside0.mk A140
          clear A140
          have HC15 := Aside0.mk H
          clear H
          go_upto_region 8 with (first | ((with_reducible refine gate_callee (f := 33) rfl ?_); refine goesL_ (some 34) rfl rfl Try.func33 (by kernel_rfl) rfl #[.slice A0 l0.length c0, .int .i64 0] rfl (by (try simp only [List.map_toArray, List.map_cons, List.map_nil]); first | done | rfl | (simp only [List.length_drop, List.length_take]; rfl)) ?_; (with_reducible refine (laws_at.calls _ _ l0 0 t348 _ ?side1 ?side2 A13.out).mono ?_); (case side1 => repeat (first | exact (Kd.C_below HR0.out HB.out) | (with_reducible refine Kd.C_alloc ?_ _) | (with_reducible refine Kd.C_drewN ?_ _) | (with_reducible refine Kd.C_drew ?_))); (case side2 => exact HC0.out); rintro e w' ⟨rfl, ⟨nd, rfl⟩⟩; refine ⟨_, rfl, ?_⟩) | ((with_reducible refine gate_callee (f := 33) rfl ?_); refine goesL_ (some 38) rfl rfl Try.func33 (by kernel_rfl) rfl #[.slice A0 l0.length c0, .int .i64 1] rfl (by (try simp only [List.map_toArray, List.map_cons, List.map_nil]); first | done | rfl | (simp only [List.length_drop, List.length_take]; rfl)) ?_; (with_reducible refine (laws_at.calls _ _ l0 1 t349 _ ?side1 ?side2 A14.out).mono ?_); (case side1 => repeat (first | exact (Kd.C_below HR0.out (by repeat (first | (with_reducible first | exact HB.out | apply below_alloc | apply pw_below_drewN | apply below_drew1) | exact HB.out))) | (with_reducible refine Kd.C_alloc ?_ _) | (with_reducible refine Kd.C_drewN ?_ _) | (with_reducible refine Kd.C_drew ?_))); (case side2 => exact HC0.out); rintro e w' ⟨rfl, ⟨nd, rfl⟩⟩; refine ⟨_, rfl, ?_⟩))
          (try simp only [Act.put, List.setIfInBounds_toArray, List.set_cons_zero, List.set_cons_succ])
          go_cut [46] (fun v46 wc => ∃ (kq : Nat) (x46_14 : Bool), v46 = .bool x46_14 ∧ Aside0 (laws_FnSeriesPowers.j1 kq t342 t343 (wrap64 ((wrap64 (t348 * 8)) - 1000)) (wrap64 ((wrap64 (t349 * 8)) - 1000)) x46_14 = some r) ∧ Aside0 (kq ≤ kj4) ∧ Aside0 (Kd.R (Kd.int .i64) 3 wc w.heap.size (fun _ => True) v344 t343) ∧ Aside0 (Below w.heap.size w wc))
          case first =>
            have H := HC15.out
            clear HC15
            by_cases c16 : (wrap64 ((wrap64 (t348 * 8)) - 1000)) > 1000
            · rw [if_pos c16] at H
              have c16b0 : decide (1000 < (wrap64 ((wrap64 (t348 * 8)) - 1000))) = true := decide_eq_true c16
              clear c16
              (first | rw [c16b0] | (simp only [i64_w, i32_w]; rw [c16b0]) | skip)
              have H' := Aside0.mk H
              clear H
              go_wp2
              go_meet
              case rel => exact ⟨_, (true), (by first | rfl | (simp; done) | (simp [*]; done)), H', ⟨by have := HJ4.out; first | omega | exact Nat.le_refl _⟩, ⟨by (with_reducible repeat (first | apply Kd.R_alloc | apply Kd.R_drewN | apply Kd.R_drew)); exact HO_4.out⟩, ⟨by repeat (first | (with_reducible first | exact HB.out | apply below_alloc | apply pw_below_drewN | apply below_drew1) | exact HB.out)⟩⟩
            · rw [if_neg c16] at H
              have c16b0 : decide (1000 < (wrap64 ((wrap64 (t348 * 8)) - 1000))) = false := decide_eq_false c16
              clear c16
              (first | rw [c16b0] | (simp only [i64_w, i32_w]; rw [c16b0]) | skip)
              have H' := Aside0.mk H
              clear H
              go_wp2
              go_meet
              case rel => exact ⟨_, (decide ((wrap64 ((wrap64 (t349 * 8)) - 1000)) > 1000)), (by first | rfl | (simp; done) | (simp [*]; done)), H', ⟨by have := HJ4.out; first | omega | exact Nat.le_refl _⟩, ⟨by (with_reducible repeat (first | apply Kd.R_alloc | apply Kd.R_drewN | apply Kd.R_drew)); exact HO_4.out⟩, ⟨by repeat (first | (with_reducible first | exact HB.out | apply below_alloc | apply pw_below_drewN | apply below_drew1) | exact HB.out)⟩⟩
          case rest =>
            clear HC15
            try clear c1
            try clear c2
            try clear p2
            try clear c3
            try clear p3
            try clear q3
            try clear hx3
            try clear qi3
            try clear p6
            try clear c7
            try clear c8
            try clear c9
            try clear c9b0
            try clear c9b1
            try clear c12
            try clear c16
            try clear c16b0
            try clear hx347_0
            try clear p2
            try clear p3
            try clear p347
            try clear q3
            try clear q347
            obtain ⟨kq, x46_14, rfl, HA, HJ14, HO_4, HB⟩ := hcut
            cases kq with
            | zero => exact absurd HA.out (by simp [laws_FnSeriesPowers.j1])
            | succ kj14 =>
              have H := HA.out
              clear HA
              simp only [laws_FnSeriesPowers.j1] at H
              by_cases c17 : x46_14 = true
              · subst c17
                have H1 : (some true) = some r := by rw [if_pos rfl] at H; exact H
                clear H
                have H := H1
                clear H1
                obtain rfl := Option.some.inj H
                go_wp2
                go_ret
                exact ⟨by first | rfl | (simp [errW_none, errW_some] <;> rfl) | (simp [*, errW_none, errW_some] <;> rfl), by repeat (first | (with_reducible first | exact HB.out | apply below_alloc | apply pw_below_drewN | apply below_drew1) | exact HB.out)⟩
              · replace c17 := Bool.eq_false_iff.mpr c17
                subst c17
                have H1 : ((laws_cp.f kj14 t343).bind fun t350 => ((impl_SeriesPow.f kj14 t342 t350 (wrap64 ((wrap64 (t348 * 8)) - 1000))).bind fun bt353 => ((laws_cp.f kj14 t343).bind fun t357 => ((impl_SeriesPow.f kj14 t342 t357 (wrap64 ((wrap64 (t349 * 8)) - 1000))).bind fun bt360 => ((laws_cp.f kj14 t343).bind fun t364 => ((impl_SeriesPow.f kj14 t342 t364 (wrap64 ((wrap64 ((wrap64 (t348 * 8)) - 1000)) + (wrap64 ((wrap64 (t349 * 8)) - 1000))))).bind fun bt367 => (if bt353.2 = true then (if bt360.2 = true then (if bt367.2 = true then (if (bt367.1.length : Int) = (t343.length : Int) then ((impl_SeriesMul.f kj14 t342 bt353.1 bt360.1).bind fun t371 => ((laws_same.f kj14 t371 bt367.1).bind fun t374 => (laws_FnSeriesPowers.j2 kj14 t342 t343 (!t374)))) else (laws_FnSeriesPowers.j2 kj14 t342 t343 true)) else (laws_FnSeriesPowers.j2 kj14 t342 t343 true)) else (laws_FnSeriesPowers.j2 kj14 t342 t343 true)) else (laws_FnSeriesPowers.j2 kj14 t342 t343 true)))))))) = some r := by rw [if_neg (show ¬ (false = true) by decide)] at H; exact H
                clear H
                have H := H1
                clear H1
                replace H := Option.bind_eq_some_iff.mp H
                obtain ⟨t350, A180, H⟩ := H
                replace H : ((impl_SeriesPow.f kj14 t342 t350 (wrap64 ((wrap64 (t348 * 8)) - 1000))).bind fun bt353 => ((laws_cp.f kj14 t343).bind fun t357 => ((impl_SeriesPow.f kj14 t342 t357 (wrap64 ((wrap64 (t349 * 8)) - 1000))).bind fun bt360 => ((laws_cp.f kj14 t343).bind fun t364 => ((impl_SeriesPow.f kj14 t342 t364 (wrap64 ((wrap64 ((wrap64 (t348 * 8)) - 1000)) + (wrap64 ((wrap64 (t349 * 8)) - 1000))))).bind fun bt367 => (if bt353.2 = true then (if bt360.2 = true then (if bt367.2 = true then (if (bt367.1.length : Int) = (t343.length : Int) then ((impl_SeriesMul.f kj14 t342 bt353.1 bt360.1).bind fun t371 => ((laws_same.f kj14 t371 bt367.1).bind fun t374 => (laws_FnSeriesPowers.j2 kj14 t342 t343 (!t374)))) else (laws_FnSeriesPowers.j2 kj14 t342 t343 true)) else (laws_FnSeriesPowers.j2 kj14 t342 t343 true)) else (laws_FnSeriesPowers.j2 kj14 t342 t343 true)) else (laws_FnSeriesPowers.j2 kj14 t342 t343 true))))))) = some r := H
                have A18 := Aside0.mk A180
                clear A180
                replace H := Option.bind_eq_some_iff.mp H
                obtain ⟨⟨t353, t356⟩, A190, H⟩ := H
                replace H : ((laws_cp.f kj14 t343).bind fun t357 => ((impl_SeriesPow.f kj14 t342 t357 (wrap64 ((wrap64 (t349 * 8)) - 1000))).bind fun bt360 => ((laws_cp.f kj14 t343).bind fun t364 => ((impl_SeriesPow.f kj14 t342 t364 (wrap64 ((wrap64 ((wrap64 (t348 * 8)) - 1000)) + (wrap64 ((wrap64 (t349 * 8)) - 1000))))).bind fun bt367 => (if t356 = true then (if bt360.2 = true then (if bt367.2 = true then (if (bt367.1.length : Int) = (t343.length : Int) then ((impl_SeriesMul.f kj14 t342 t353 bt360.1).bind fun t371 => ((laws_same.f kj14 t371 bt367.1).bind fun t374 => (laws_FnSeriesPowers.j2 kj14 t342 t343 (!t374)))) else (laws_FnSeriesPowers.j2 kj14 t342 t343 true)) else (laws_FnSeriesPowers.j2 kj14 t342 t343 true)) else (laws_FnSeriesPowers.j2 kj14 t342 t343 true)) else (laws_FnSeriesPowers.j2 kj14 t342 t343 true)))))) = some r := H
                have A19 := Aside0.mk A190
                clear A190
                replace H := Option.bind_eq_some_iff.mp H
                obtain ⟨t357, A200, H⟩ := H
                replace H : ((impl_SeriesPow.f kj14 t342 t357 (wrap64 ((wrap64 (t349 * 8)) - 1000))).bind fun bt360 => ((laws_cp.f kj14 t343).bind fun t364 => ((impl_SeriesPow.f kj14 t342 t364 (wrap64 ((wrap64 ((wrap64 (t348 * 8)) - 1000)) + (wrap64 ((wrap64 (t349 * 8)) - 1000))))).bind fun bt367 => (if t356 = true then (if bt360.2 = true then (if bt367.2 = true then (if (bt367.1.length : Int) = (t343.length : Int) then ((impl_SeriesMul.f kj14 t342 t353 bt360.1).bind fun t371 => ((laws_same.f kj14 t371 bt367.1).bind fun t374 => (laws_FnSeriesPowers.j2 kj14 t342 t343 (!t374)))) else (laws_FnSeriesPowers.j2 kj14 t342 t343 true)) else (laws_FnSeriesPowers.j2 kj14 t342 t343 true)) else (laws_FnSeriesPowers.j2 kj14 t342 t343 true)) else (laws_FnSeriesPowers.j2 kj14 t342 t343 true))))) = some r := H
                have A20 := Aside0.mk A200
                clear A200
                replace H := Option.bind_eq_some_iff.mp H
                obtain ⟨⟨t360, t363⟩, A210, H⟩ := H
                replace H : ((laws_cp.f kj14 t343).bind fun t364 => ((impl_SeriesPow.f kj14 t342 t364 (wrap64 ((wrap64 ((wrap64 (t348 * 8)) - 1000)) + (wrap64 ((wrap64 (t349 * 8)) - 1000))))).bind fun bt367 => (if t356 = true then (if t363 = true then (if bt367.2 = true then (if (bt367.1.length : Int) = (t343.length : Int) then ((impl_SeriesMul.f kj14 t342 t353 t360).bind fun t371 => ((laws_same.f kj14 t371 bt367.1).bind fun t374 => (laws_FnSeriesPowers.j2 kj14 t342 t343 (!t374)))) else (laws_FnSeriesPowers.j2 kj14 t342 t343 true)) else (laws_FnSeriesPowers.j2 kj14 t342 t343 true)) else (laws_FnSeriesPowers.j2 kj14 t342 t343 true)) else (laws_FnSeriesPowers.j2 kj14 t342 t343 true)))) = some r := H
                have A21 := Aside0.mk A210
                clear A210
                replace H := Option.bind_eq_some_iff.mp H
                obtain ⟨t364, A220, H⟩ := H
                replace H : ((impl_SeriesPow.f kj14 t342 t364 (wrap64 ((wrap64 ((wrap64 (t348 * 8)) - 1000)) + (wrap64 ((wrap64 (t349 * 8)) - 1000))))).bind fun bt367 => (if t356 = true then (if t363 = true then (if bt367.2 = true then (if (bt367.1.length : Int) = (t343.length : Int) then ((impl_SeriesMul.f kj14 t342 t353 t360).bind fun t371 => ((laws_same.f kj14 t371 bt367.1).bind fun t374 => (laws_FnSeriesPowers.j2 kj14 t342 t343 (!t374)))) else (laws_FnSeriesPowers.j2 kj14 t342 t343 true)) else (laws_FnSeriesPowers.j2 kj14 t342 t343 true)) else (laws_FnSeriesPowers.j2 kj14 t342 t343 true)) else (laws_FnSeriesPowers.j2 kj14 t342 t343 true))) = some r := H
                have A22 := Aside0.mk A220
                clear A220
                replace H := Option.bind_eq_some_iff.mp H
                obtain ⟨⟨t367, t370⟩, A230, H⟩ := H
                replace H : (if t356 = true then (if t363 = true then (if t370 = true then (if (t367.length : Int) = (t343.length : Int) then ((impl_SeriesMul.f kj14 t342 t353 t360).bind fun t371 => ((laws_same.f kj14 t371 t367).bind fun t374 => (laws_FnSeriesPowers.j2 kj14 t342 t343 (!t374)))) else (laws_FnSeriesPowers.j2 kj14 t342 t343 true)) else (laws_FnSeriesPowers.j2 kj14 t342 t343 true)) else (laws_FnSeriesPowers.j2 kj14 t342 t343 true)) else (laws_FnSeriesPowers.j2 kj14 t342 t343 true)) = some r := H
                have A23 := Aside0.mk A230
                clear A230
                have HC24 := Aside0.mk H
                clear H
                obtain ⟨Ao25, co25, eo25⟩ := Kd.R_slice HO_4.out
                subst eo25
                go_upto_region 13 with (first | ((with_reducible refine gate_callee (f := 26) rfl ?_); refine goesL_ (some 50) rfl rfl Try.func26 (by kernel_rfl) rfl #[.slice Ao25 t343.length co25] rfl (by (try simp only [List.map_toArray, List.map_cons, List.map_nil]); first | done | rfl | (simp only [List.length_drop, List.length_take]; rfl)) ?_; (with_reducible refine (laws_cp.calls kj14 _ _ t343 t350 _ ?side1 ?side2 A18.out).mono ?_); (case side1 => repeat (first | exact (Kd.R_reads' HO_4.out).2.2 | (with_reducible refine Kd.C_alloc ?_ _) | (with_reducible refine Kd.C_drewN ?_ _) | (with_reducible refine Kd.C_drew ?_))); (case side2 => exact (Kd.R_reads' HO_4.out).2.1); rintro e w26 ⟨v351, rfl, ho0, hb⟩; refine ⟨_, rfl, ?_⟩; have n0_ := Aside0.mk (Kd.R_elder' (by (with_reducible repeat (first | apply Kd.R_alloc | apply Kd.R_drewN | apply Kd.R_drew)); exact HO_4.out) (Kd.R_base ho0) hb); have n1_ := Aside0.mk (Kd.R_lower (Kd.R_new' ho0 (Kd.R_lt (by (with_reducible repeat (first | apply Kd.R_alloc | apply Kd.R_drewN | apply Kd.R_drew)); exact HO_4.out))) (below_size (by repeat (first | (with_reducible first | exact HB.out | apply below_alloc | apply pw_below_drewN | apply below_drew1) | exact HB.out)))); have n2_ := Aside0.mk (below_step (by repeat (first | (with_reducible first | exact HB.out | apply below_alloc | apply pw_below_drewN | apply below_drew1) | exact HB.out)) hb); clear HO_4; clear HB; have HO_4 := n0_; have HO352 := n1_; have HB := n2_; clear n0_ n1_ n2_; (try clear hb); (try clear hb2); (try clear hk); (try clear hi); (try clear ho0); obtain ⟨Ao27, co27, eo27⟩ := Kd.R_slice HO352.out; subst eo27) | ((with_reducible refine gate_callee (f := 14) rfl ?_); refine goesL_ (some 52) rfl rfl Try.func14 (by kernel_rfl) rfl #[.int .i64 t342, .slice Ao27 t350.length co27, .int .i64 (wrap64 ((wrap64 (t348 * 8)) - 1000))] rfl (by (try simp only [List.map_toArray, List.map_cons, List.map_nil]); first | done | rfl | (simp only [List.length_drop, List.length_take]; rfl)) ?_; (with_reducible refine (impl_SeriesPow.calls kj14 t342 (fun k_ => some k_ = (.slice Ao27 t350.length co27 : Value).ownBlock) _ _ t350 (wrap64 ((wrap64 (t348 * 8)) - 1000)) t353 t356 _ ?side1 A19.out).mono ?_); (case side1 => exact Kd.R_V (Kd.R_tight rfl (HO352.out))); rintro e w28 ⟨v354, rfl, ho0, hb⟩; refine ⟨_, rfl, ?_⟩; have n0_ := Aside0.mk (Kd.R_elder' (by (with_reducible repeat (first | apply Kd.R_alloc | apply Kd.R_drewN | apply Kd.R_drew)); exact HO_4.out) (Kd.R_base ho0) hb); have n1_ := Aside0.mk (Kd.R_elder' (by (with_reducible repeat (first | apply Kd.R_alloc | apply Kd.R_drewN | apply Kd.R_drew)); exact HO352.out) (Kd.R_base ho0) hb); have n2_ := Aside0.mk (Kd.R_lower (Kd.R_new' (Kd.R_new' (Kd.R_mono (ok' := fun k_ => True) ho0 (fun _ hk_ => trivial)) (Kd.R_lt (by (with_reducible repeat (first | apply Kd.R_alloc | apply Kd.R_drewN | apply Kd.R_drew)); exact HO_4.out))) (Kd.R_lt (by (with_reducible repeat (first | apply Kd.R_alloc | apply Kd.R_drewN | apply Kd.R_drew)); exact HO352.out))) (below_size (by repeat (first | (with_reducible first | exact HB.out | apply below_alloc | apply pw_below_drewN | apply below_drew1) | exact HB.out)))); have n3_ := Aside0.mk (below_step (by repeat (first | (with_reducible first | exact HB.out | apply below_alloc | apply pw_below_drewN | apply below_drew1) | exact HB.out)) hb); clear HO_4; clear HO352; clear HB; have HO_4 := n0_; have HO352 := n1_; have HO355 := n2_; have HB := n3_; clear n0_ n1_ n2_ n3_; (try clear hb); (try clear hb2); (try clear hk); (try clear hi); (try clear ho0)) | ((with_reducible refine gate_callee (f := 26) rfl ?_); refine goesL_ (some 58) rfl rfl Try.func26 (by kernel_rfl) rfl #[.slice Ao25 t343.length co25] rfl (by (try simp only [List.map_toArray, List.map_cons, List.map_nil]); first | done | rfl | (simp only [List.length_drop, List.length_take]; rfl)) ?_; (with_reducible refine (laws_cp.calls kj14 _ _ t343 t357 _ ?side1 ?side2 A20.out).mono ?_); (case side1 => repeat (first | exact (Kd.R_reads' HO_4.out).2.2 | (with_reducible refine Kd.C_alloc ?_ _) | (with_reducible refine Kd.C_drewN ?_ _) | (with_reducible refine Kd.C_drew ?_))); (case side2 => exact (Kd.R_reads' HO_4.out).2.1); rintro e w29 ⟨v358, rfl, ho0, hb⟩; refine ⟨_, rfl, ?_⟩; have n0_ := Aside0.mk (Kd.R_elder' (by (with_reducible repeat (first | apply Kd.R_alloc | apply Kd.R_drewN | apply Kd.R_drew)); exact HO_4.out) (Kd.R_base ho0) hb); have n1_ := Aside0.mk (Kd.R_elder' (by (with_reducible repeat (first | apply Kd.R_alloc | apply Kd.R_drewN | apply Kd.R_drew)); exact HO352.out) (Kd.R_base ho0) hb); have n2_ := Aside0.mk (Kd.R_elder' (by (with_reducible repeat (first | apply Kd.R_alloc | apply Kd.R_drewN | apply Kd.R_drew)); exact HO355.out) (Kd.R_base ho0) hb); have n3_ := Aside0.mk (Kd.R_lower (Kd.R_new' (Kd.R_new' (Kd.R_new' ho0 (Kd.R_lt (by (with_reducible repeat (first | apply Kd.R_alloc | apply Kd.R_drewN | apply Kd.R_drew)); exact HO_4.out))) (Kd.R_lt (by (with_reducible repeat (first | apply Kd.R_alloc | apply Kd.R_drewN | apply Kd.R_drew)); exact HO352.out))) (Kd.R_lt (by (with_reducible repeat (first | apply Kd.R_alloc | apply Kd.R_drewN | apply Kd.R_drew)); exact HO355.out))) (below_size (by repeat (first | (with_reducible first | exact HB.out | apply below_alloc | apply pw_below_drewN | apply below_drew1) | exact HB.out)))); have n4_ := Aside0.mk (below_step (by repeat (first | (with_reducible first | exact HB.out | apply below_alloc | apply pw_below_drewN | apply below_drew1) | exact HB.out)) hb); clear HO_4; clear HO352; clear HO355; clear HB; have HO_4 := n0_; have HO352 := n1_; have HO355 := n2_; have HO359 := n3_; have HB := n4_; clear n0_ n1_ n2_ n3_ n4_; (try clear hb); (try clear hb2); (try clear hk); (try clear hi); (try clear ho0); obtain ⟨Ao30, co30, eo30⟩ := Kd.R_slice HO359.out; subst eo30) | ((with_reducible refine gate_callee (f := 14) rfl ?_); refine goesL_ (some 60) rfl rfl Try.func14 (by kernel_rfl) rfl #[.int .i64 t342, .slice Ao30 t357.length co30, .int .i64 (wrap64 ((wrap64 (t349 * 8)) - 1000))] rfl (by (try simp only [List.map_toArray, List.map_cons, List.map_nil]); first | done | rfl | (simp only [List.length_drop, List.length_take]; rfl)) ?_; (with_reducible refine (impl_SeriesPow.calls kj14 t342 (fun k_ => some k_ = (.slice Ao30 t357.length co30 : Value).ownBlock) _ _ t357 (wrap64 ((wrap64 (t349 * 8)) - 1000)) t360 t363 _ ?side1 A21.out).mono ?_); (case side1 => exact Kd.R_V (Kd.R_tight rfl (HO359.out))); rintro e w31 ⟨v361, rfl, ho0, hb⟩; refine ⟨_, rfl, ?_⟩; have n0_ := Aside0.mk (Kd.R_elder' (by (with_reducible repeat (first | apply Kd.R_alloc | apply Kd.R_drewN | apply Kd.R_drew)); exact HO_4.out) (Kd.R_base ho0) hb); have n1_ := Aside0.mk (Kd.R_elder' (by (with_reducible repeat (first | apply Kd.R_alloc | apply Kd.R_drewN | apply Kd.R_drew)); exact HO352.out) (Kd.R_base ho0) hb); have n2_ := Aside0.mk (Kd.R_elder' (by (with_reducible repeat (first | apply Kd.R_alloc | apply Kd.R_drewN | apply Kd.R_drew)); exact HO355.out) (Kd.R_base ho0) hb); have n3_ := Aside0.mk (Kd.R_elder' (by (with_reducible repeat (first | apply Kd.R_alloc | apply Kd.R_drewN | apply Kd.R_drew)); exact HO359.out) (Kd.R_base ho0) hb); have n4_ := Aside0.mk (Kd.R_lower (Kd.R_new' (Kd.R_new' (Kd.R_new' (Kd.R_new' (Kd.R_mono (ok' := fun k_ => True) ho0 (fun _ hk_ => trivial)) (Kd.R_lt (by (with_reducible repeat (first | apply Kd.R_alloc | apply Kd.R_drewN | apply Kd.R_drew)); exact HO_4.out))) (Kd.R_lt (by (with_reducible repeat (first | apply Kd.R_alloc | apply Kd.R_drewN | apply Kd.R_drew)); exact HO352.out))) (Kd.R_lt (by (with_reducible repeat (first | apply Kd.R_alloc | apply Kd.R_drewN | apply Kd.R_drew)); exact HO355.out))) (Kd.R_lt (by (with_reducible repeat (first | apply Kd.R_alloc | apply Kd.R_drewN | apply Kd.R_drew)); exact HO359.out))) (below_size (by repeat (first | (with_reducible first | exact HB.out | apply below_alloc | apply pw_below_drewN | apply below_drew1) | exact HB.out)))); have n5_ := Aside0.mk (below_step (by repeat (first | (with_reducible first | exact HB.out | apply below_alloc | apply pw_below_drewN | apply below_drew1) | exact HB.out)) hb); clear HO_4; clear HO352; clear HO355; clear HO359; clear HB; have HO_4 := n0_; have HO352 := n1_; have HO355 := n2_; have HO359 := n3_; have HO362 := n4_; have HB := n5_; clear n0_ n1_ n2_ n3_ n4_ n5_; (try clear hb); (try clear hb2); (try clear hk); (try clear hi); (try clear ho0)) | ((with_reducible refine gate_callee (f := 26) rfl ?_); refine goesL_ (some 66) rfl rfl Try.func26 (by kernel_rfl) rfl #[.slice Ao25 t343.length co25] rfl (by (try simp only [List.map_toArray, List.map_cons, List.map_nil]); first | done | rfl | (simp only [List.length_drop, List.length_take]; rfl)) ?_; (with_reducible refine (laws_cp.calls kj14 _ _ t343 t364 _ ?side1 ?side2 A22.out).mono ?_); (case side1 => repeat (first | exact (Kd.R_reads' HO_4.out).2.2 | (with_reducible refine Kd.C_alloc ?_ _) | (with_reducible refine Kd.C_drewN ?_ _) | (with_reducible refine Kd.C_drew ?_))); (case side2 => exact (Kd.R_reads' HO_4.out).2.1); rintro e w32 ⟨v365, rfl, ho0, hb⟩; refine ⟨_, rfl, ?_⟩; have n0_ := Aside0.mk (Kd.R_elder' (by (with_reducible repeat (first | apply Kd.R_alloc | apply Kd.R_drewN | apply Kd.R_drew)); exact HO_4.out) (Kd.R_base ho0) hb); have n1_ := Aside0.mk (Kd.R_elder' (by (with_reducible repeat (first | apply Kd.R_alloc | apply Kd.R_drewN | apply Kd.R_drew)); exact HO352.out) (Kd.R_base ho0) hb); have n2_ := Aside0.mk (Kd.R_elder' (by (with_reducible repeat (first | apply Kd.R_alloc | apply Kd.R_drewN | apply Kd.R_drew)); exact HO355.out) (Kd.R_base ho0) hb); have n3_ := Aside0.mk (Kd.R_elder' (by (with_reducible repeat (first | apply Kd.R_alloc | apply Kd.R_drewN | apply Kd.R_drew)); exact HO359.out) (Kd.R_base ho0) hb); have n4_ := Aside0.mk (Kd.R_elder' (by (with_reducible repeat (first | apply Kd.R_alloc | apply Kd.R_drewN | apply Kd.R_drew)); exact HO362.out) (Kd.R_base ho0) hb); have n5_ := Aside0.mk (Kd.R_lower (Kd.R_new' (Kd.R_new' (Kd.R_new' (Kd.R_new' (Kd.R_new' ho0 (Kd.R_lt (by (with_reducible repeat (first | apply Kd.R_alloc | apply Kd.R_drewN | apply Kd.R_drew)); exact HO_4.out))) (Kd.R_lt (by (with_reducible repeat (first | apply Kd.R_alloc | apply Kd.R_drewN | apply Kd.R_drew)); exact HO352.out))) (Kd.R_lt (by (with_reducible repeat (first | apply Kd.R_alloc | apply Kd.R_drewN | apply Kd.R_drew)); exact HO355.out))) (Kd.R_lt (by (with_reducible repeat (first | apply Kd.R_alloc | apply Kd.R_drewN | apply Kd.R_drew)); exact HO359.out))) (Kd.R_lt (by (with_reducible repeat (first | apply Kd.R_alloc | apply Kd.R_drewN | apply Kd.R_drew)); exact HO362.out))) (below_size (by repeat (first | (with_reducible first | exact HB.out | apply below_alloc | apply pw_below_drewN | apply below_drew1) | exact HB.out)))); have n6_ := Aside0.mk (below_step (by repeat (first | (with_reducible first | exact HB.out | apply below_alloc | apply pw_below_drewN | apply below_drew1) | exact HB.out)) hb); clear HO_4; clear HO352; clear HO355; clear HO359; clear HO362; clear HB; have HO_4 := n0_; have HO352 := n1_; have HO355 := n2_; have HO359 := n3_; have HO362 := n4_; have HO366 := n5_; have HB := n6_; clear n0_ n1_ n2_ n3_ n4_ n5_ n6_; (try clear hb); (try clear hb2); (try clear hk); (try clear hi); (try clear ho0); obtain ⟨Ao33, co33, eo33⟩ := Kd.R_slice HO366.out; subst eo33) | ((with_reducible refine gate_callee (f := 14) rfl ?_); refine goesL_ (some 70) rfl rfl Try.func14 (by kernel_rfl) rfl #[.int .i64 t342, .slice Ao33 t364.length co33, .int .i64 (wrap64 ((wrap64 ((wrap64 (t348 * 8)) - 1000)) + (wrap64 ((wrap64 (t349 * 8)) - 1000))))] rfl (by (try simp only [List.map_toArray, List.map_cons, List.map_nil]); first | done | rfl | (simp only [List.length_drop, List.length_take]; rfl)) ?_; (with_reducible refine (impl_SeriesPow.calls kj14 t342 (fun k_ => some k_ = (.slice Ao33 t364.length co33 : Value).ownBlock) _ _ t364 (wrap64 ((wrap64 ((wrap64 (t348 * 8)) - 1000)) + (wrap64 ((wrap64 (t349 * 8)) - 1000)))) t367 t370 _ ?side1 A23.out).mono ?_); (case side1 => exact Kd.R_V (Kd.R_tight rfl (HO366.out))); rintro e w34 ⟨v368, rfl, ho0, hb⟩; refine ⟨_, rfl, ?_⟩; have n0_ := Aside0.mk (Kd.R_elder' (by (with_reducible repeat (first | apply Kd.R_alloc | apply Kd.R_drewN | apply Kd.R_drew)); exact HO_4.out) (Kd.R_base ho0) hb); have n1_ := Aside0.mk (Kd.R_elder' (by (with_reducible repeat (first | apply Kd.R_alloc | apply Kd.R_drewN | apply Kd.R_drew)); exact HO352.out) (Kd.R_base ho0) hb); have n2_ := Aside0.mk (Kd.R_elder' (by (with_reducible repeat (first | apply Kd.R_alloc | apply Kd.R_drewN | apply Kd.R_drew)); exact HO355.out) (Kd.R_base ho0) hb); have n3_ := Aside0.mk (Kd.R_elder' (by (with_reducible repeat (first | apply Kd.R_alloc | apply Kd.R_drewN | apply Kd.R_drew)); exact HO359.out) (Kd.R_base ho0) hb); have n4_ := Aside0.mk (Kd.R_elder' (by (with_reducible repeat (first | apply Kd.R_alloc | apply Kd.R_drewN | apply Kd.R_drew)); exact HO362.out) (Kd.R_base ho0) hb); have n5_ := Aside0.mk (Kd.R_elder' (by (with_reducible repeat (first | apply Kd.R_alloc | apply Kd.R_drewN | apply Kd.R_drew)); exact HO366.out) (Kd.R_base ho0) hb); have n6_ := Aside0.mk (Kd.R_lower (Kd.R_new' (Kd.R_new' (Kd.R_new' (Kd.R_new' (Kd.R_new' (Kd.R_new' (Kd.R_mono (ok' := fun k_ => True) ho0 (fun _ hk_ => trivial)) (Kd.R_lt (by (with_reducible repeat (first | apply Kd.R_alloc | apply Kd.R_drewN | apply Kd.R_drew)); exact HO_4.out))) (Kd.R_lt (by (with_reducible repeat (first | apply Kd.R_alloc | apply Kd.R_drewN | apply Kd.R_drew)); exact HO352.out))) (Kd.R_lt (by (with_reducible repeat (first | apply Kd.R_alloc | apply Kd.R_drewN | apply Kd.R_drew)); exact HO355.out))) (Kd.R_lt (by (with_reducible repeat (first | apply Kd.R_alloc | apply Kd.R_drewN | apply Kd.R_drew)); exact HO359.out))) (Kd.R_lt (by (with_reducible repeat (first | apply Kd.R_alloc | apply Kd.R_drewN | apply Kd.R_drew)); exact HO362.out))) (Kd.R_lt (by (with_reducible repeat (first | apply Kd.R_alloc | apply Kd.R_drewN | apply Kd.R_drew)); exact HO366.out))) (below_size (by repeat (first | (with_reducible first | exact HB.out | apply below_alloc | apply pw_below_drewN | apply below_drew1) | exact HB.out)))); have n7_ := Aside0.mk (below_step (by repeat (first | (with_reducible first | exact HB.out | apply below_alloc | apply pw_below_drewN | apply below_drew1) | exact HB.out)) hb); clear HO_4; clear HO352; clear HO355; clear HO359; clear HO362; clear HO366; clear HB; have HO_4 := n0_; have HO352 := n1_; have HO355 := n2_; have HO359 := n3_; have HO362 := n4_; have HO366 := n5_; have HO369 := n6_; have HB := n7_; clear n0_ n1_ n2_ n3_ n4_ n5_ n6_ n7_; (try clear hb); (try clear hb2); (try clear hk); (try clear hi); (try clear ho0)))
                (try simp only [Act.put, List.setIfInBounds_toArray, List.set_cons_zero, List.set_cons_succ])
                go_cut [98] (fun v98 wc => ∃ (kq : Nat) (x98_23 : Bool), v98 = .bool x98_23 ∧ Aside0 (laws_FnSeriesPowers.j2 kq t342 t343 x98_23 = some r) ∧ Aside0 (kq ≤ kj14) ∧ Aside0 (Kd.R (Kd.int .i64) 3 wc w.heap.size (fun _ => True) (.slice Ao25 t343.length co25) t343) ∧ Aside0 (Below w.heap.size w wc))
                case first =>
                  have H := HC24.out
                  clear HC24
                  by_cases c35 : t356 = true
                  · subst c35
                    have H1 : (if t363 = true then (if t370 = true then (if (t367.length : Int) = (t343.length : Int) then ((impl_SeriesMul.f kj14 t342 t353 t360).bind fun t371 => ((laws_same.f kj14 t371 t367).bind fun t374 => (laws_FnSeriesPowers.j2 kj14 t342 t343 (!t374)))) else (laws_FnSeriesPowers.j2 kj14 t342 t343 true)) else (laws_FnSeriesPowers.j2 kj14 t342 t343 true)) else (laws_FnSeriesPowers.j2 kj14 t342 t343 true)) = some r := by rw [if_pos rfl] at H; exact H
                    clear H
                    have H := H1
                    clear H1
                    by_cases c36 : t363 = true
                    · subst c36
                      have H1 : (if t370 = true then (if (t367.length : Int) = (t343.length : Int) then ((impl_SeriesMul.f kj14 t342 t353 t360).bind fun t371 => ((laws_same.f kj14 t371 t367).bind fun t374 => (laws_FnSeriesPowers.j2 kj14 t342 t343 (!t374)))) else (laws_FnSeriesPowers.j2 kj14 t342 t343 true)) else (laws_FnSeriesPowers.j2 kj14 t342 t343 true)) = some r := by rw [if_pos rfl] at H; exact H
                      clear H
                      have H := H1
                      clear H1
                      by_cases c37 : t370 = true
                      · subst c37
                        have H1 : (if (t367.length : Int) = (t343.length : Int) then ((impl_SeriesMul.f kj14 t342 t353 t360).bind fun t371 => ((laws_same.f kj14 t371 t367).bind fun t374 => (laws_FnSeriesPowers.j2 kj14 t342 t343 (!t374)))) else (laws_FnSeriesPowers.j2 kj14 t342 t343 true)) = some r := by rw [if_pos rfl] at H; exact H
                        clear H
                        have H := H1
                        clear H1
                        by_cases c38 : (t367.length : Int) = (t343.length : Int)
                        · rw [if_pos c38] at H
                          have c38b0 : ((t367.length : Int) == (t343.length : Int)) = true := beq_iff_eq.mpr c38
                          have c38b1 : ((t367.length : Int) != (t343.length : Int)) = false := bne_eq_false_iff_eq.mpr c38
                          have c38b2 : (t367.length == t343.length) = true := by first | simpa using c38 | (simp at c38 ⊢; omega)
                          clear c38
                          (first | rw [c38b0] | (simp only [i64_w, i32_w]; rw [c38b0]) | skip)
                          replace H := Option.bind_eq_some_iff.mp H
                          obtain ⟨t371, A390, H⟩ := H
                          replace H : ((laws_same.f kj14 t371 t367).bind fun t374 => (laws_FnSeriesPowers.j2 kj14 t342 t343 (!t374))) = some r := H
                          have A39 := Aside0.mk A390
                          clear A390
                          replace H := Option.bind_eq_some_iff.mp H
                          obtain ⟨t374, A400, H⟩ := H
                          replace H : (laws_FnSeriesPowers.j2 kj14 t342 t343 (!t374)) = some r := H
                          have A40 := Aside0.mk A400
                          clear A400
                          have H' := Aside0.mk H
                          clear H
                          obtain ⟨Ao41, co41, eo41⟩ := Kd.R_slice HO369.out
                          subst eo41
                          obtain ⟨Ao42, co42, eo42⟩ := Kd.R_slice HO355.out
                          subst eo42
                          obtain ⟨Ao43, co43, eo43⟩ := Kd.R_slice HO362.out
                          subst eo43
                          go_wp2_with (first | (go_at_call 35; (with_reducible refine (impl_SeriesMul.calls kj14 t342 (fun k_ => some k_ = (.slice Ao42 t353.length co42 : Value).ownBlock) _ _ t353 (fun k_ => some k_ = (.slice Ao43 t360.length co43 : Value).ownBlock) _ _ t360 t371 _ ?side1 ?side2 A39.out).mono ?_); (case side1 => exact Kd.R_V (Kd.R_tight rfl (HO355.out))); (case side2 => exact Kd.R_V (Kd.R_tight rfl (HO362.out))); rintro e w44 ⟨v372, rfl, ho0, hb⟩; have n0_ := Aside0.mk (Kd.R_elder' (by (with_reducible repeat (first | apply Kd.R_alloc | apply Kd.R_drewN | apply Kd.R_drew)); exact HO_4.out) (Kd.R_base ho0) hb); have n1_ := Aside0.mk (Kd.R_elder' (by (with_reducible repeat (first | apply Kd.R_alloc | apply Kd.R_drewN | apply Kd.R_drew)); exact HO352.out) (Kd.R_base ho0) hb); have n2_ := Aside0.mk (Kd.R_elder' (by (with_reducible repeat (first | apply Kd.R_alloc | apply Kd.R_drewN | apply Kd.R_drew)); exact HO355.out) (Kd.R_base ho0) hb); have n3_ := Aside0.mk (Kd.R_elder' (by (with_reducible repeat (first | apply Kd.R_alloc | apply Kd.R_drewN | apply Kd.R_drew)); exact HO359.out) (Kd.R_base ho0) hb); have n4_ := Aside0.mk (Kd.R_elder' (by (with_reducible repeat (first | apply Kd.R_alloc | apply Kd.R_drewN | apply Kd.R_drew)); exact HO362.out) (Kd.R_base ho0) hb); have n5_ := Aside0.mk (Kd.R_elder' (by (with_reducible repeat (first | apply Kd.R_alloc | apply Kd.R_drewN | apply Kd.R_drew)); exact HO366.out) (Kd.R_base ho0) hb); have n6_ := Aside0.mk (Kd.R_elder' (by (with_reducible repeat (first | apply Kd.R_alloc | apply Kd.R_drewN | apply Kd.R_drew)); exact HO369.out) (Kd.R_base ho0) hb); have n7_ := Aside0.mk (Kd.R_lower (Kd.R_new' (Kd.R_new' (Kd.R_new' (Kd.R_new' (Kd.R_new' (Kd.R_new' (Kd.R_new' (Kd.R_mono (ok' := fun k_ => True) ho0 (fun _ hk_ => trivial)) (Kd.R_lt (by (with_reducible repeat (first | apply Kd.R_alloc | apply Kd.R_drewN | apply Kd.R_drew)); exact HO_4.out))) (Kd.R_lt (by (with_reducible repeat (first | apply Kd.R_alloc | apply Kd.R_drewN | apply Kd.R_drew)); exact HO352.out))) (Kd.R_lt (by (with_reducible repeat (first | apply Kd.R_alloc | apply Kd.R_drewN | apply Kd.R_drew)); exact HO355.out))) (Kd.R_lt (by (with_reducible repeat (first | apply Kd.R_alloc | apply Kd.R_drewN | apply Kd.R_drew)); exact HO359.out))) (Kd.R_lt (by (with_reducible repeat (first | apply Kd.R_alloc | apply Kd.R_drewN | apply Kd.R_drew)); exact HO362.out))) (Kd.R_lt (by (with_reducible repeat (first | apply Kd.R_alloc | apply Kd.R_drewN | apply Kd.R_drew)); exact HO366.out))) (Kd.R_lt (by (with_reducible repeat (first | apply Kd.R_alloc | apply Kd.R_drewN | apply Kd.R_drew)); exact HO369.out))) (below_size (by repeat (first | (with_reducible first | exact HB.out | apply below_alloc | apply pw_below_drewN | apply below_drew1) | exact HB.out)))); have n8_ := Aside0.mk (below_step (by repeat (first | (with_reducible first | exact HB.out | apply below_alloc | apply pw_below_drewN | apply below_drew1) | exact HB.out)) hb); clear HO_4; clear HO352; clear HO355; clear HO359; clear HO362; clear HO366; clear HO369; clear HB; have HO_4 := n0_; have HO352 := n1_; have HO355 := n2_; have HO359 := n3_; have HO362 := n4_; have HO366 := n5_; have HO369 := n6_; have HO373 := n7_; have HB := n8_; clear n0_ n1_ n2_ n3_ n4_ n5_ n6_ n7_ n8_; (try clear hb); (try clear hb2); (try clear hk); (try clear hi); (try clear ho0); obtain ⟨Ao45, co45, eo45⟩ := Kd.R_slice HO373.out; subst eo45) | (go_at_call 34; (with_reducible refine (laws_same.calls kj14 _ _ t371 _ _ t367 t374 _ ?side1 ?side2 ?side3 ?side4 A40.out).mono ?_); (case side1 => repeat (first | exact (Kd.R_reads' HO373.out).2.2 | (with_reducible refine Kd.C_alloc ?_ _) | (with_reducible refine Kd.C_drewN ?_ _) | (with_reducible refine Kd.C_drew ?_))); (case side2 => exact (Kd.R_reads' HO373.out).2.1); (case side3 => repeat (first | exact (Kd.R_reads' HO369.out).2.2 | (with_reducible refine Kd.C_alloc ?_ _) | (with_reducible refine Kd.C_drewN ?_ _) | (with_reducible refine Kd.C_drew ?_))); (case side4 => exact (Kd.R_reads' HO369.out).2.1); rintro e w' ⟨rfl, ⟨nd, rfl⟩⟩))
                          go_meet
                          case rel => exact ⟨_, (!t374), (by first | rfl | (simp; done) | (simp [*]; done)), H', ⟨by have := HJ4.out; have := HJ14.out; first | omega | exact Nat.le_refl _⟩, ⟨by (with_reducible repeat (first | apply Kd.R_alloc | apply Kd.R_drewN | apply Kd.R_drew)); exact Kd.R_mono HO_4.out (fun _ hk => trivial)⟩, ⟨by repeat (first | (with_reducible first | exact HB.out | apply below_alloc | apply pw_below_drewN | apply below_drew1) | exact HB.out)⟩⟩
                        · rw [if_neg c38] at H
                          have c38b0 : ((t367.length : Int) == (t343.length : Int)) = false := beq_eq_false_iff_ne.mpr c38
                          have c38b1 : ((t367.length : Int) != (t343.length : Int)) = true := bne_iff_ne.mpr c38
                          have c38b2 : (t367.length == t343.length) = false := by first | simpa using c38 | (simp at c38 ⊢; omega)
                          (first | rw [c38b0] | (simp only [i64_w, i32_w]; rw [c38b0]) | skip)
                          have H' := Aside0.mk H
                          clear H
                          obtain ⟨Ao46, co46, eo46⟩ := Kd.R_slice HO369.out
                          subst eo46
                          go_wp2
                          go_meet
                          case rel => exact ⟨_, (true), (by first | rfl | (simp; done) | (simp [*]; done)), H', ⟨by have := HJ4.out; have := HJ14.out; first | omega | exact Nat.le_refl _⟩, ⟨by (with_reducible repeat (first | apply Kd.R_alloc | apply Kd.R_drewN | apply Kd.R_drew)); exact Kd.R_mono HO_4.out (fun _ hk => trivial)⟩, ⟨by repeat (first | (with_reducible first | exact HB.out | apply below_alloc | apply pw_below_drewN | apply below_drew1) | exact HB.out)⟩⟩
                      · replace c37 := Bool.eq_false_iff.mpr c37
                        subst c37
                        have H1 : (laws_FnSeriesPowers.j2 kj14 t342 t343 true) = some r := by rw [if_neg (show ¬ (false = true) by decide)] at H; exact H
                        clear H
                        have H := H1
                        clear H1
                        have H' := Aside0.mk H
                        clear H
                        go_wp2
                        go_meet
                        case rel => exact ⟨_, (true), (by first | rfl | (simp; done) | (simp [*]; done)), H', ⟨by have := HJ4.out; have := HJ14.out; first | omega | exact Nat.le_refl _⟩, ⟨by (with_reducible repeat (first | apply Kd.R_alloc | apply Kd.R_drewN | apply Kd.R_drew)); exact Kd.R_mono HO_4.out (fun _ hk => trivial)⟩, ⟨by repeat (first | (with_reducible first | exact HB.out | apply below_alloc | apply pw_below_drewN | apply below_drew1) | exact HB.out)⟩⟩
                    · replace c36 := Bool.eq_false_iff.mpr c36
                      subst c36
                      have H1 : (laws_FnSeriesPowers.j2 kj14 t342 t343 true) = some r := by rw [if_neg (show ¬ (false = true) by decide)] at H; exact H
                      clear H
                      have H := H1
                      clear H1
                      have H' := Aside0.mk H
                      clear H
                      go_wp2
                      go_meet
                      case rel => exact ⟨_, (true), (by first | rfl | (simp; done) | (simp [*]; done)), H', ⟨by have := HJ4.out; have := HJ14.out; first | omega | exact Nat.le_refl _⟩, ⟨by (with_reducible repeat (first | apply Kd.R_alloc | apply Kd.R_drewN | apply Kd.R_drew)); exact Kd.R_mono HO_4.out (fun _ hk => trivial)⟩, ⟨by repeat (first | (with_reducible first | exact HB.out | apply below_alloc | apply pw_below_drewN | apply below_drew1) | exact HB.out)⟩⟩
                  · replace c35 := Bool.eq_false_iff.mpr c35
                    subst c35
                    have H1 : (laws_FnSeriesPowers.j2 kj14 t342 t343 true) = some r := by rw [if_neg (show ¬ (false = true) by decide)] at H; exact H
                    clear H
                    have H := H1
                    clear H1
                    have H' := Aside0.mk H
                    clear H
                    go_wp2
                    go_meet
                    case rel => exact ⟨_, (true), (by first | rfl | (simp; done) | (simp [*]; done)), H', ⟨by have := HJ4.out; have := HJ14.out; first | omega | exact Nat.le_refl _⟩, ⟨by (with_reducible repeat (first | apply Kd.R_alloc | apply Kd.R_drewN | apply Kd.R_drew)); exact Kd.R_mono HO_4.out (fun _ hk => trivial)⟩, ⟨by repeat (first | (with_reducible first | exact HB.out | apply below_alloc | apply pw_below_drewN | apply below_drew1) | exact HB.out)⟩⟩
                case rest =>
                  clear HC24
                  try clear c1
                  try clear c2
                  try clear p2
                  try clear c3
                  try clear p3
                  try clear q3
                  try clear hx3
                  try clear qi3
                  try clear p6
                  try clear c7
                  try clear c8
                  try clear c9
                  try clear c9b0
                  try clear c9b1
                  try clear c12
                  try clear c14
                  try clear c16
                  try clear c16b0
                  try clear c17
                  try clear c22
                  try clear c26
                  try clear c31
                  try clear c32
                  try clear c33
                  try clear p34
                  try clear q34
                  try clear hx34
                  try clear qi34
                  try clear c35
                  try clear c36
                  try clear c37
                  try clear c38
                  try clear c38b0
                  try clear c38b1
                  try clear c38b2
                  try clear hx347_0
                  try clear p2
                  try clear p3
                  try clear p347
                  try clear p6
                  try clear q3
                  try clear q347
                  obtain ⟨kq, x98_23, rfl, HA, HJ23, HO_4, HB⟩ := hcut
                  cases kq with
                  | zero => exact absurd HA.out (by simp [laws_FnSeriesPowers.j2])
                  | succ kj23 =>
                    have H := HA.out
                    clear HA
                    simp only [laws_FnSeriesPowers.j2] at H
                    by_cases c47 : x98_23 = true
                    · subst c47
                      have H1 : (some false) = some r := by rw [if_pos rfl] at H; exact H
                      clear H
                      have H := H1
                      clear H1
                      obtain rfl := Option.some.inj H
                      go_wp2
                      go_ret
                      exact ⟨by first | rfl | (simp [errW_none, errW_some] <;> rfl) | (simp [*, errW_none, errW_some] <;> rfl), by repeat (first | (with_reducible first | exact HB.out | apply below_alloc | apply pw_below_drewN | apply below_drew1) | exact HB.out)⟩
                    · replace c47 := Bool.eq_false_iff.mpr c47
                      subst c47
                      have H1 : ((laws_cp.f kj23 t343).bind fun t375 => (if 0 < (t375.length : Int) then ((some (t375.set (0 : Int).toNat 1 : List Int)).bind fun y378 => ((laws_cp.f kj23 y378).bind fun t379 => ((laws_cp.f kj23 y378).bind fun t382 => ((impl_SeriesMul.f kj23 t342 t379 t382).bind fun t385 => ((impl_SeriesSqrt.f kj23 t342 t385).bind fun bt388 => (if bt388.2 = true then ((laws_same.f kj23 bt388.1 y378).bind fun t392 => (some t392)) else (some false))))))) else (none))) = some r := by rw [if_neg (show ¬ (false = true) by decide)] at H; exact H
                      clear H
                      have H := H1
                      clear H1
                      replace H := Option.bind_eq_some_iff.mp H
                      obtain ⟨t375, A480, H⟩ := H
                      replace H : (if 0 < (t375.length : Int) then ((some (t375.set (0 : Int).toNat 1 : List Int)).bind fun y378 => ((laws_cp.f kj23 y378).bind fun t379 => ((laws_cp.f kj23 y378).bind fun t382 => ((impl_SeriesMul.f kj23 t342 t379 t382).bind fun t385 => ((impl_SeriesSqrt.f kj23 t342 t385).bind fun bt388 => (if bt388.2 = true then ((laws_same.f kj23 bt388.1 y378).bind fun t392 => (some t392)) else (some false))))))) else (none)) = some r := H
                      have A48 := Aside0.mk A480
                      clear A480
                      by_cases c49 : 0 < (t375.length : Int)
                      · rw [if_pos c49] at H
                        have c49b0 : decide (0 < (t375.length : Int)) = true := decide_eq_true c49
                        have c49b1 : decide (0 < t375.length) = true := decide_eq_true (by omega)
                        clear c49
                        obtain ⟨y378, hy378⟩ : ∃ y_ : List Int, y_ = (t375.set (0 : Int).toNat 1) := ⟨_, rfl⟩
                        replace H : ((laws_cp.f kj23 y378).bind fun t379 => ((laws_cp.f kj23 y378).bind fun t382 => ((impl_SeriesMul.f kj23 t342 t379 t382).bind fun t385 => ((impl_SeriesSqrt.f kj23 t342 t385).bind fun bt388 => (if bt388.2 = true then ((laws_same.f kj23 bt388.1 y378).bind fun t392 => (some t392)) else (some false)))))) = some r := by first | (rw [hy378]; with_reducible exact H) | (have H2_ := (Option.bind_some _ _).symm.trans H; rw [hy378]; with_reducible exact H2_) | (have H2_ := (Option.bind_some _ _).symm.trans H; with_reducible exact H2_) | with_reducible exact H | (rw [hy378]; exact H) | exact H
                        have Ny378 := Aside0.mk hy378
                        clear hy378
                        replace H := Option.bind_eq_some_iff.mp H
                        obtain ⟨t379, A510, H⟩ := H
                        replace H : ((laws_cp.f kj23 y378).bind fun t382 => ((impl_SeriesMul.f kj23 t342 t379 t382).bind fun t385 => ((impl_SeriesSqrt.f kj23 t342 t385).bind fun bt388 => (if bt388.2 = true then ((laws_same.f kj23 bt388.1 y378).bind fun t392 => (some t392)) else (some false))))) = some r := H
                        have A51 := Aside0.mk A510
                        clear A510
                        replace H := Option.bind_eq_some_iff.mp H
                        obtain ⟨t382, A520, H⟩ := H
                        replace H : ((impl_SeriesMul.f kj23 t342 t379 t382).bind fun t385 => ((impl_SeriesSqrt.f kj23 t342 t385).bind fun bt388 => (if bt388.2 = true then ((laws_same.f kj23 bt388.1 y378).bind fun t392 => (some t392)) else (some false)))) = some r := H
                        have A52 := Aside0.mk A520
                        clear A520
                        replace H := Option.bind_eq_some_iff.mp H
                        obtain ⟨t385, A530, H⟩ := H
                        replace H : ((impl_SeriesSqrt.f kj23 t342 t385).bind fun bt388 => (if bt388.2 = true then ((laws_same.f kj23 bt388.1 y378).bind fun t392 => (some t392)) else (some false))) = some r := H
                        have A53 := Aside0.mk A530
                        clear A530
                        replace H := Option.bind_eq_some_iff.mp H
                        obtain ⟨⟨t388, t391⟩, A540, H⟩ := H
                        replace H : (if t391 = true then ((laws_same.f kj23 t388 y378).bind fun t392 => (some t392)) else (some false)) = some r := H
                        have A54 := Aside0.mk A540
                        clear A540
                        by_cases c55 : t391 = true
                        · subst c55
                          have H1 : ((laws_same.f kj23 t388 y378).bind fun t392 => (some t392)) = some r := by rw [if_pos rfl] at H; exact H
                          clear H
                          have H := H1
                          clear H1
                          replace H := Option.bind_eq_some_iff.mp H
                          obtain ⟨t392, A560, H⟩ := H
                          replace H : (some t392) = some r := H
                          have A56 := Aside0.mk A560
                          clear A560
                          obtain rfl := Option.some.inj H
                          go_wp2_with (first | ((with_reducible refine gate_callee (f := 26) rfl ?_); refine goesL_ (some 100) rfl rfl Try.func26 (by kernel_rfl) rfl #[.slice Ao25 t343.length co25] rfl (by (try simp only [List.map_toArray, List.map_cons, List.map_nil]); first | done | rfl | (simp only [List.length_drop, List.length_take]; rfl)) ?_; (with_reducible refine (laws_cp.calls kj23 _ _ t343 t375 _ ?side1 ?side2 A48.out).mono ?_); (case side1 => repeat (first | exact (Kd.R_reads' HO_4.out).2.2 | (with_reducible refine Kd.C_alloc ?_ _) | (with_reducible refine Kd.C_drewN ?_ _) | (with_reducible refine Kd.C_drew ?_))); (case side2 => exact (Kd.R_reads' HO_4.out).2.1); rintro e w57 ⟨v376, rfl, ho0, hb⟩; refine ⟨_, rfl, ?_⟩; have n0_ := Aside0.mk (Kd.R_elder' (by (with_reducible repeat (first | apply Kd.R_alloc | apply Kd.R_drewN | apply Kd.R_drew)); exact HO_4.out) (Kd.R_base ho0) hb); have n1_ := Aside0.mk (Kd.R_lower (Kd.R_new' ho0 (Kd.R_lt (by (with_reducible repeat (first | apply Kd.R_alloc | apply Kd.R_drewN | apply Kd.R_drew)); exact HO_4.out))) (below_size (by repeat (first | (with_reducible first | exact HB.out | apply below_alloc | apply pw_below_drewN | apply below_drew1) | exact HB.out)))); have n2_ := Aside0.mk (below_step (by repeat (first | (with_reducible first | exact HB.out | apply below_alloc | apply pw_below_drewN | apply below_drew1) | exact HB.out)) hb); clear HO_4; clear HB; have HO_4 := n0_; have HO377 := n1_; have HB := n2_; clear n0_ n1_ n2_; (try clear hb); (try clear hb2); (try clear hk); (try clear hi); (try clear ho0); have p50 : 0 ≤ (0 : Int) := (by omega); have q50 : (0 : Int) < ((t375.length : Int) : Int) := of_decide_eq_true (by first | (with_reducible assumption) | assumption); have qi50 : (0 < t375.length) = True := eq_true (by omega); obtain ⟨go50, co50, eo50, gb50, gl50, cl50, HG50⟩ := Kd.R_form HO377.out (by omega); (first | cases eo50 | (injection eo50 with ea_ en_ ec_; (first | subst ea_ | (injection ea_ with ea_; subst ea_)); subst ec_; clear en_)); have GB50 := Aside0.mk gb50; have GG50 := Aside0.mk HG50; clear gb50 gl50 HG50; obtain ⟨hx50_0, hf50_0⟩ := Kd.R_celln 0 HO377.out (0 : Int) p50 q50; (try rw [show ((0 : Int)).toNat = 0 from rfl] at hx50_0); (try simp only [Nat.reduceMul, Nat.zero_mul, Nat.zero_add, Nat.reduceAdd] at hx50_0); (try rw [show ((0 : Int)).toNat = 0 from rfl] at hf50_0); (try simp only [Nat.reduceMul, Nat.zero_mul, Nat.zero_add, Nat.reduceAdd] at hf50_0); replace p50 := eq_true p50; replace q50 := eq_true q50; have n_ := Aside0.mk (Kd.R_mono (ok' := (fun k_ => some k_ ≠ (.slice Ao25 t343.length co25 : Value).ownBlock)) HO377.out (fun k_ hk => hk.2)); clear HO377; have HO377 := n_; clear n_; obtain ⟨hy58_, hz58_⟩ := Kd.R_celln 0 HO377.out (0 : Int) (by omega) (of_decide_eq_true (by first | (with_reducible assumption) | assumption)); (try simp only [Int.reduceToNat, Int.toNat_zero, Int.toNat_ofNat, Nat.reduceMul, Nat.zero_mul, Nat.zero_add] at hy58_ hz58_); (try rw [show ((0 : Int)).toNat = 0 from rfl] at hy58_); (try rw [show ((0 : Int)).toNat = 0 from rfl] at hz58_); have HP58 := Kd.R_putg HO377.out (0 : Int) 1) | ((with_reducible refine gate_store (t := 3) (p := 102) rfl ?_); refine store_event (t := 3) (p := 102) (v := ?vo_w59) (w1 := (w57.setCell ⟨go50, (0 : Int).toNat, none⟩ (.int .i64 1))) ?hg ?ho ?hn ?hr ?_; (case ho => rfl); (case hg => rfl); (case hn => rfl); (case hr => first | (go_simp; done) | (go_simp; rfl)); intro w59 hw; have hg : w57.grownBy w59 (some go50) := (by rw [hw]; exact HP58.2); have hp_ : Kd.R (Kd.int .i64) 3 w59 w.heap.size (fun k_ => some k_ ≠ (.slice Ao25 t343.length co25 : Value).ownBlock) (.slice (some ⟨go50, 0, none⟩) t375.length co50) y378 := (by rw [hw, Ny378.out]; exact HP58.1); clear HP58; have n0_ := Aside0.mk (Kd.R_after (v := (.slice (some ⟨go50, 0, none⟩) t375.length co50)) (v1 := (.slice (some ⟨go50, 0, none⟩) t375.length co50)) (ok := (fun _ => True)) (by (with_reducible repeat (first | apply Kd.R_alloc | apply Kd.R_drewN | apply Kd.R_drew)); exact HO_4.out) hg (.inl rfl)); have n1_ := Aside0.mk (hp_); have n2_ := Aside0.mk ((by rw [hw]; exact below_set (HB.out) GB50.out : Below w.heap.size w w59)); clear HO_4; clear HO377; clear HB; have HO_4 := n0_; have HO377 := n1_; have HB := n2_; clear n0_ n1_ n2_; clear hg hw hp_) | ((with_reducible refine gate_callee (f := 26) rfl ?_); refine goesL_ (some 107) rfl rfl Try.func26 (by kernel_rfl) rfl #[.slice (some ⟨go50, 0, none⟩) y378.length co50] rfl (by (try simp only [List.map_toArray, List.map_cons, List.map_nil]); first | done | (rw [show y378.length = t375.length from (Kd.R_reads' HO377.out).1.symm] <;> rfl) | rfl | (simp only [List.length_drop, List.length_take]; rfl)) ?_; (with_reducible refine (laws_cp.calls kj23 _ _ y378 t379 _ ?side1 ?side2 A51.out).mono ?_); (case side1 => repeat (first | exact (Kd.R_reads' HO377.out).2.2 | (with_reducible refine Kd.C_alloc ?_ _) | (with_reducible refine Kd.C_drewN ?_ _) | (with_reducible refine Kd.C_drew ?_))); (case side2 => rw [show y378.length = t375.length from (Kd.R_reads' HO377.out).1.symm]; exact (Kd.R_reads' HO377.out).2.1); rintro e w60 ⟨v380, rfl, ho0, hb⟩; refine ⟨_, rfl, ?_⟩; have n0_ := Aside0.mk (Kd.R_elder' (by (with_reducible repeat (first | apply Kd.R_alloc | apply Kd.R_drewN | apply Kd.R_drew)); exact HO_4.out) (Kd.R_base ho0) hb); have n1_ := Aside0.mk (Kd.R_elder' (by (with_reducible repeat (first | apply Kd.R_alloc | apply Kd.R_drewN | apply Kd.R_drew)); exact HO377.out) (Kd.R_base ho0) hb); have n2_ := Aside0.mk (Kd.R_lower (Kd.R_new' (Kd.R_new' ho0 (Kd.R_lt (by (with_reducible repeat (first | apply Kd.R_alloc | apply Kd.R_drewN | apply Kd.R_drew)); exact HO_4.out))) (Kd.R_lt (by (with_reducible repeat (first | apply Kd.R_alloc | apply Kd.R_drewN | apply Kd.R_drew)); exact HO377.out))) (below_size (by repeat (first | (with_reducible first | exact HB.out | apply below_alloc | apply pw_below_drewN | apply below_drew1) | exact HB.out)))); have n3_ := Aside0.mk (below_step (by repeat (first | (with_reducible first | exact HB.out | apply below_alloc | apply pw_below_drewN | apply below_drew1) | exact HB.out)) hb); clear HO_4; clear HO377; clear HB; have HO_4 := n0_; have HO377 := n1_; have HO381 := n2_; have HB := n3_; clear n0_ n1_ n2_ n3_; (try clear hb); (try clear hb2); (try clear hk); (try clear hi); (try clear ho0)) | ((with_reducible refine gate_callee (f := 26) rfl ?_); refine goesL_ (some 109) rfl rfl Try.func26 (by kernel_rfl) rfl #[.slice (some ⟨go50, 0, none⟩) y378.length co50] rfl (by (try simp only [List.map_toArray, List.map_cons, List.map_nil]); first | done | (rw [show y378.length = t375.length from (Kd.R_reads' HO377.out).1.symm] <;> rfl) | rfl | (simp only [List.length_drop, List.length_take]; rfl)) ?_; (with_reducible refine (laws_cp.calls kj23 _ _ y378 t382 _ ?side1 ?side2 A52.out).mono ?_); (case side1 => repeat (first | exact (Kd.R_reads' HO377.out).2.2 | (with_reducible refine Kd.C_alloc ?_ _) | (with_reducible refine Kd.C_drewN ?_ _) | (with_reducible refine Kd.C_drew ?_))); (case side2 => rw [show y378.length = t375.length from (Kd.R_reads' HO377.out).1.symm]; exact (Kd.R_reads' HO377.out).2.1); rintro e w61 ⟨v383, rfl, ho0, hb⟩; refine ⟨_, rfl, ?_⟩; have n0_ := Aside0.mk (Kd.R_elder' (by (with_reducible repeat (first | apply Kd.R_alloc | apply Kd.R_drewN | apply Kd.R_drew)); exact HO_4.out) (Kd.R_base ho0) hb); have n1_ := Aside0.mk (Kd.R_elder' (by (with_reducible repeat (first | apply Kd.R_alloc | apply Kd.R_drewN | apply Kd.R_drew)); exact HO377.out) (Kd.R_base ho0) hb); have n2_ := Aside0.mk (Kd.R_elder' (by (with_reducible repeat (first | apply Kd.R_alloc | apply Kd.R_drewN | apply Kd.R_drew)); exact HO381.out) (Kd.R_base ho0) hb); have n3_ := Aside0.mk (Kd.R_lower (Kd.R_new' (Kd.R_new' (Kd.R_new' ho0 (Kd.R_lt (by (with_reducible repeat (first | apply Kd.R_alloc | apply Kd.R_drewN | apply Kd.R_drew)); exact HO_4.out))) (Kd.R_lt (by (with_reducible repeat (first | apply Kd.R_alloc | apply Kd.R_drewN | apply Kd.R_drew)); exact HO377.out))) (Kd.R_lt (by (with_reducible repeat (first | apply Kd.R_alloc | apply Kd.R_drewN | apply Kd.R_drew)); exact HO381.out))) (below_size (by repeat (first | (with_reducible first | exact HB.out | apply below_alloc | apply pw_below_drewN | apply below_drew1) | exact HB.out)))); have n4_ := Aside0.mk (below_step (by repeat (first | (with_reducible first | exact HB.out | apply below_alloc | apply pw_below_drewN | apply below_drew1) | exact HB.out)) hb); clear HO_4; clear HO377; clear HO381; clear HB; have HO_4 := n0_; have HO377 := n1_; have HO381 := n2_; have HO384 := n3_; have HB := n4_; clear n0_ n1_ n2_ n3_ n4_; (try clear hb); (try clear hb2); (try clear hk); (try clear hi); (try clear ho0); obtain ⟨Ao62, co62, eo62⟩ := Kd.R_slice HO381.out; subst eo62; obtain ⟨Ao63, co63, eo63⟩ := Kd.R_slice HO384.out; subst eo63) | ((with_reducible refine gate_callee (f := 35) rfl ?_); refine goesL_ (some 110) rfl rfl Try.func35 (by kernel_rfl) rfl #[.int .i64 t342, .slice Ao62 t379.length co62, .slice Ao63 t382.length co63] rfl (by (try simp only [List.map_toArray, List.map_cons, List.map_nil]); first | done | rfl | (simp only [List.length_drop, List.length_take]; rfl)) ?_; (with_reducible refine (impl_SeriesMul.calls kj23 t342 (fun k_ => some k_ = (.slice Ao62 t379.length co62 : Value).ownBlock) _ _ t379 (fun k_ => some k_ = (.slice Ao63 t382.length co63 : Value).ownBlock) _ _ t382 t385 _ ?side1 ?side2 A53.out).mono ?_); (case side1 => exact Kd.R_V (Kd.R_tight rfl (HO381.out))); (case side2 => exact Kd.R_V (Kd.R_tight rfl (HO384.out))); rintro e w64 ⟨v386, rfl, ho0, hb⟩; refine ⟨_, rfl, ?_⟩; have n0_ := Aside0.mk (Kd.R_elder' (by (with_reducible repeat (first | apply Kd.R_alloc | apply Kd.R_drewN | apply Kd.R_drew)); exact HO_4.out) (Kd.R_base ho0) hb); have n1_ := Aside0.mk (Kd.R_elder' (by (with_reducible repeat (first | apply Kd.R_alloc | apply Kd.R_drewN | apply Kd.R_drew)); exact HO377.out) (Kd.R_base ho0) hb); have n2_ := Aside0.mk (Kd.R_elder' (by (with_reducible repeat (first | apply Kd.R_alloc | apply Kd.R_drewN | apply Kd.R_drew)); exact HO381.out) (Kd.R_base ho0) hb); have n3_ := Aside0.mk (Kd.R_elder' (by (with_reducible repeat (first | apply Kd.R_alloc | apply Kd.R_drewN | apply Kd.R_drew)); exact HO384.out) (Kd.R_base ho0) hb); have n4_ := Aside0.mk (Kd.R_lower (Kd.R_new' (Kd.R_new' (Kd.R_new' (Kd.R_new' (Kd.R_mono (ok' := fun k_ => True) ho0 (fun _ hk_ => trivial)) (Kd.R_lt (by (with_reducible repeat (first | apply Kd.R_alloc | apply Kd.R_drewN | apply Kd.R_drew)); exact HO_4.out))) (Kd.R_lt (by (with_reducible repeat (first | apply Kd.R_alloc | apply Kd.R_drewN | apply Kd.R_drew)); exact HO377.out))) (Kd.R_lt (by (with_reducible repeat (first | apply Kd.R_alloc | apply Kd.R_drewN | apply Kd.R_drew)); exact HO381.out))) (Kd.R_lt (by (with_reducible repeat (first | apply Kd.R_alloc | apply Kd.R_drewN | apply Kd.R_drew)); exact HO384.out))) (below_size (by repeat (first | (with_reducible first | exact HB.out | apply below_alloc | apply pw_below_drewN | apply below_drew1) | exact HB.out)))); have n5_ := Aside0.mk (below_step (by repeat (first | (with_reducible first | exact HB.out | apply below_alloc | apply pw_below_drewN | apply below_drew1) | exact HB.out)) hb); clear HO_4; clear HO377; clear HO381; clear HO384; clear HB; have HO_4 := n0_; have HO377 := n1_; have HO381 := n2_; have HO384 := n3_; have HO387 := n4_; have HB := n5_; clear n0_ n1_ n2_ n3_ n4_ n5_; (try clear hb); (try clear hb2); (try clear hk); (try clear hi); (try clear ho0); obtain ⟨Ao65, co65, eo65⟩ := Kd.R_slice HO387.out; subst eo65) | ((with_reducible refine gate_callee (f := 36) rfl ?_); refine goesL_ (some 111) rfl rfl Try.func36 (by kernel_rfl) rfl #[.int .i64 t342, .slice Ao65 t385.length co65] rfl (by (try simp only [List.map_toArray, List.map_cons, List.map_nil]); first | done | rfl | (simp only [List.length_drop, List.length_take]; rfl)) ?_; (with_reducible refine (impl_SeriesSqrt.calls kj23 t342 (fun k_ => some k_ = (.slice Ao65 t385.length co65 : Value).ownBlock) _ _ t385 t388 true _ ?side1 A54.out).mono ?_); (case side1 => exact Kd.R_V (Kd.R_tight rfl (HO387.out))); rintro e w66 ⟨v389, rfl, ho0, hb⟩; refine ⟨_, rfl, ?_⟩; have n0_ := Aside0.mk (Kd.R_elder' (by (with_reducible repeat (first | apply Kd.R_alloc | apply Kd.R_drewN | apply Kd.R_drew)); exact HO_4.out) (Kd.R_base ho0) hb); have n1_ := Aside0.mk (Kd.R_elder' (by (with_reducible repeat (first | apply Kd.R_alloc | apply Kd.R_drewN | apply Kd.R_drew)); exact HO377.out) (Kd.R_base ho0) hb); have n2_ := Aside0.mk (Kd.R_elder' (by (with_reducible repeat (first | apply Kd.R_alloc | apply Kd.R_drewN | apply Kd.R_drew)); exact HO381.out) (Kd.R_base ho0) hb); have n3_ := Aside0.mk (Kd.R_elder' (by (with_reducible repeat (first | apply Kd.R_alloc | apply Kd.R_drewN | apply Kd.R_drew)); exact HO384.out) (Kd.R_base ho0) hb); have n4_ := Aside0.mk (Kd.R_elder' (by (with_reducible repeat (first | apply Kd.R_alloc | apply Kd.R_drewN | apply Kd.R_drew)); exact HO387.out) (Kd.R_base ho0) hb); have n5_ := Aside0.mk (Kd.R_lower (Kd.R_new' (Kd.R_new' (Kd.R_new' (Kd.R_new' (Kd.R_new' (Kd.R_mono (ok' := fun k_ => True) ho0 (fun _ hk_ => trivial)) (Kd.R_lt (by (with_reducible repeat (first | apply Kd.R_alloc | apply Kd.R_drewN | apply Kd.R_drew)); exact HO_4.out))) (Kd.R_lt (by (with_reducible repeat (first | apply Kd.R_alloc | apply Kd.R_drewN | apply Kd.R_drew)); exact HO377.out))) (Kd.R_lt (by (with_reducible repeat (first | apply Kd.R_alloc | apply Kd.R_drewN | apply Kd.R_drew)); exact HO381.out))) (Kd.R_lt (by (with_reducible repeat (first | apply Kd.R_alloc | apply Kd.R_drewN | apply Kd.R_drew)); exact HO384.out))) (Kd.R_lt (by (with_reducible repeat (first | apply Kd.R_alloc | apply Kd.R_drewN | apply Kd.R_drew)); exact HO387.out))) (below_size (by repeat (first | (with_reducible first | exact HB.out | apply below_alloc | apply pw_below_drewN | apply below_drew1) | exact HB.out)))); have n6_ := Aside0.mk (below_step (by repeat (first | (with_reducible first | exact HB.out | apply below_alloc | apply pw_below_drewN | apply below_drew1) | exact HB.out)) hb); clear HO_4; clear HO377; clear HO381; clear HO384; clear HO387; clear HB; have HO_4 := n0_; have HO377 := n1_; have HO381 := n2_; have HO384 := n3_; have HO387 := n4_; have HO390 := n5_; have HB := n6_; clear n0_ n1_ n2_ n3_ n4_ n5_ n6_; (try clear hb); (try clear hb2); (try clear hk); (try clear hi); (try clear ho0); obtain ⟨Ao67, co67, eo67⟩ := Kd.R_slice HO390.out; subst eo67) | (go_at_call 34; refine calls_of_args (args' := #[.slice Ao67 t388.length co67, .slice (some ⟨go50, 0, none⟩) y378.length co50]) (by first | (rw [show y378.length = t375.length from (Kd.R_reads' HO377.out).1.symm] <;> rfl) | rfl) ?_; (with_reducible refine (laws_same.calls kj23 _ _ t388 _ _ y378 t392 _ ?side1 ?side2 ?side3 ?side4 A56.out).mono ?_); (case side1 => repeat (first | exact (Kd.R_reads' HO390.out).2.2 | (with_reducible refine Kd.C_alloc ?_ _) | (with_reducible refine Kd.C_drewN ?_ _) | (with_reducible refine Kd.C_drew ?_))); (case side2 => exact (Kd.R_reads' HO390.out).2.1); (case side3 => repeat (first | exact (Kd.R_reads' HO377.out).2.2 | (with_reducible refine Kd.C_alloc ?_ _) | (with_reducible refine Kd.C_drewN ?_ _) | (with_reducible refine Kd.C_drew ?_))); (case side4 => rw [show y378.length = t375.length from (Kd.R_reads' HO377.out).1.symm]; exact (Kd.R_reads' HO377.out).2.1); rintro e w' ⟨rfl, ⟨nd, rfl⟩⟩))
                          go_ret
                          exact ⟨by first | rfl | (simp [errW_none, errW_some] <;> rfl) | (simp [*, errW_none, errW_some] <;> rfl), by repeat (first | (with_reducible first | exact HB.out | apply below_alloc | apply pw_below_drewN | apply below_drew1) | exact HB.out)⟩
                        · replace c55 := Bool.eq_false_iff.mpr c55
                          subst c55
                          have H1 : (some false) = some r := by rw [if_neg (show ¬ (false = true) by decide)] at H; exact H
                          clear H
                          have H := H1
                          clear H1
                          obtain rfl := Option.some.inj H
                          go_wp2_with (first | ((with_reducible refine gate_callee (f := 26) rfl ?_); refine goesL_ (some 100) rfl rfl Try.func26 (by kernel_rfl) rfl #[.slice Ao25 t343.length co25] rfl (by (try simp only [List.map_toArray, List.map_cons, List.map_nil]); first | done | rfl | (simp only [List.length_drop, List.length_take]; rfl)) ?_; (with_reducible refine (laws_cp.calls kj23 _ _ t343 t375 _ ?side1 ?side2 A48.out).mono ?_); (case side1 => repeat (first | exact (Kd.R_reads' HO_4.out).2.2 | (with_reducible refine Kd.C_alloc ?_ _) | (with_reducible refine Kd.C_drewN ?_ _) | (with_reducible refine Kd.C_drew ?_))); (case side2 => exact (Kd.R_reads' HO_4.out).2.1); rintro e w68 ⟨v376, rfl, ho0, hb⟩; refine ⟨_, rfl, ?_⟩; have n0_ := Aside0.mk (Kd.R_elder' (by (with_reducible repeat (first | apply Kd.R_alloc | apply Kd.R_drewN | apply Kd.R_drew)); exact HO_4.out) (Kd.R_base ho0) hb); have n1_ := Aside0.mk (Kd.R_lower (Kd.R_new' ho0 (Kd.R_lt (by (with_reducible repeat (first | apply Kd.R_alloc | apply Kd.R_drewN | apply Kd.R_drew)); exact HO_4.out))) (below_size (by repeat (first | (with_reducible first | exact HB.out | apply below_alloc | apply pw_below_drewN | apply below_drew1) | exact HB.out)))); have n2_ := Aside0.mk (below_step (by repeat (first | (with_reducible first | exact HB.out | apply below_alloc | apply pw_below_drewN | apply below_drew1) | exact HB.out)) hb); clear HO_4; clear HB; have HO_4 := n0_; have HO377 := n1_; have HB := n2_; clear n0_ n1_ n2_; (try clear hb); (try clear hb2); (try clear hk); (try clear hi); (try clear ho0); have p50 : 0 ≤ (0 : Int) := (by omega); have q50 : (0 : Int) < ((t375.length : Int) : Int) := of_decide_eq_true (by first | (with_reducible assumption) | assumption); have qi50 : (0 < t375.length) = True := eq_true (by omega); obtain ⟨go50, co50, eo50, gb50, gl50, cl50, HG50⟩ := Kd.R_form HO377.out (by omega); (first | cases eo50 | (injection eo50 with ea_ en_ ec_; (first | subst ea_ | (injection ea_ with ea_; subst ea_)); subst ec_; clear en_)); have GB50 := Aside0.mk gb50; have GG50 := Aside0.mk HG50; clear gb50 gl50 HG50; obtain ⟨hx50_0, hf50_0⟩ := Kd.R_celln 0 HO377.out (0 : Int) p50 q50; (try rw [show ((0 : Int)).toNat = 0 from rfl] at hx50_0); (try simp only [Nat.reduceMul, Nat.zero_mul, Nat.zero_add, Nat.reduceAdd] at hx50_0); (try rw [show ((0 : Int)).toNat = 0 from rfl] at hf50_0); (try simp only [Nat.reduceMul, Nat.zero_mul, Nat.zero_add, Nat.reduceAdd] at hf50_0); replace p50 := eq_true p50; replace q50 := eq_true q50; have n_ := Aside0.mk (Kd.R_mono (ok' := (fun k_ => some k_ ≠ (.slice Ao25 t343.length co25 : Value).ownBlock)) HO377.out (fun k_ hk => hk.2)); clear HO377; have HO377 := n_; clear n_; obtain ⟨hy69_, hz69_⟩ := Kd.R_celln 0 HO377.out (0 : Int) (by omega) (of_decide_eq_true (by first | (with_reducible assumption) | assumption)); (try simp only [Int.reduceToNat, Int.toNat_zero, Int.toNat_ofNat, Nat.reduceMul, Nat.zero_mul, Nat.zero_add] at hy69_ hz69_); (try rw [show ((0 : Int)).toNat = 0 from rfl] at hy69_); (try rw [show ((0 : Int)).toNat = 0 from rfl] at hz69_); have HP69 := Kd.R_putg HO377.out (0 : Int) 1) | ((with_reducible refine gate_store (t := 3) (p := 102) rfl ?_); refine store_event (t := 3) (p := 102) (v := ?vo_w70) (w1 := (w68.setCell ⟨go50, (0 : Int).toNat, none⟩ (.int .i64 1))) ?hg ?ho ?hn ?hr ?_; (case ho => rfl); (case hg => rfl); (case hn => rfl); (case hr => first | (go_simp; done) | (go_simp; rfl)); intro w70 hw; have hg : w68.grownBy w70 (some go50) := (by rw [hw]; exact HP69.2); have hp_ : Kd.R (Kd.int .i64) 3 w70 w.heap.size (fun k_ => some k_ ≠ (.slice Ao25 t343.length co25 : Value).ownBlock) (.slice (some ⟨go50, 0, none⟩) t375.length co50) y378 := (by rw [hw, Ny378.out]; exact HP69.1); clear HP69; have n0_ := Aside0.mk (Kd.R_after (v := (.slice (some ⟨go50, 0, none⟩) t375.length co50)) (v1 := (.slice (some ⟨go50, 0, none⟩) t375.length co50)) (ok := (fun _ => True)) (by (with_reducible repeat (first | apply Kd.R_alloc | apply Kd.R_drewN | apply Kd.R_drew)); exact HO_4.out) hg (.inl rfl)); have n1_ := Aside0.mk (hp_); have n2_ := Aside0.mk ((by rw [hw]; exact below_set (HB.out) GB50.out : Below w.heap.size w w70)); clear HO_4; clear HO377; clear HB; have HO_4 := n0_; have HO377 := n1_; have HB := n2_; clear n0_ n1_ n2_; clear hg hw hp_) | ((with_reducible refine gate_callee (f := 26) rfl ?_); refine goesL_ (some 107) rfl rfl Try.func26 (by kernel_rfl) rfl #[.slice (some ⟨go50, 0, none⟩) y378.length co50] rfl (by (try simp only [List.map_toArray, List.map_cons, List.map_nil]); first | done | (rw [show y378.length = t375.length from (Kd.R_reads' HO377.out).1.symm] <;> rfl) | rfl | (simp only [List.length_drop, List.length_take]; rfl)) ?_; (with_reducible refine (laws_cp.calls kj23 _ _ y378 t379 _ ?side1 ?side2 A51.out).mono ?_); (case side1 => repeat (first | exact (Kd.R_reads' HO377.out).2.2 | (with_reducible refine Kd.C_alloc ?_ _) | (with_reducible refine Kd.C_drewN ?_ _) | (with_reducible refine Kd.C_drew ?_))); (case side2 => rw [show y378.length = t375.length from (Kd.R_reads' HO377.out).1.symm]; exact (Kd.R_reads' HO377.out).2.1); rintro e w71 ⟨v380, rfl, ho0, hb⟩; refine ⟨_, rfl, ?_⟩; have n0_ := Aside0.mk (Kd.R_elder' (by (with_reducible repeat (first | apply Kd.R_alloc | apply Kd.R_drewN | apply Kd.R_drew)); exact HO_4.out) (Kd.R_base ho0) hb); have n1_ := Aside0.mk (Kd.R_elder' (by (with_reducible repeat (first | apply Kd.R_alloc | apply Kd.R_drewN | apply Kd.R_drew)); exact HO377.out) (Kd.R_base ho0) hb); have n2_ := Aside0.mk (Kd.R_lower (Kd.R_new' (Kd.R_new' ho0 (Kd.R_lt (by (with_reducible repeat (first | apply Kd.R_alloc | apply Kd.R_drewN | apply Kd.R_drew)); exact HO_4.out))) (Kd.R_lt (by (with_reducible repeat (first | apply Kd.R_alloc | apply Kd.R_drewN | apply Kd.R_drew)); exact HO377.out))) (below_size (by repeat (first | (with_reducible first | exact HB.out | apply below_alloc | apply pw_below_drewN | apply below_drew1) | exact HB.out)))); have n3_ := Aside0.mk (below_step (by repeat (first | (with_reducible first | exact HB.out | apply below_alloc | apply pw_below_drewN | apply below_drew1) | exact HB.out)) hb); clear HO_4; clear HO377; clear HB; have HO_4 := n0_; have HO377 := n1_; have HO381 := n2_; have HB := n3_; clear n0_ n1_ n2_ n3_; (try clear hb); (try clear hb2); (try clear hk); (try clear hi); (try clear ho0)) | ((with_reducible refine gate_callee (f := 26) rfl ?_); refine goesL_ (some 109) rfl rfl Try.func26 (by kernel_rfl) rfl #[.slice (some ⟨go50, 0, none⟩) y378.length co50] rfl (by (try simp only [List.map_toArray, List.map_cons, List.map_nil]); first | done | (rw [show y378.length = t375.length from (Kd.R_reads' HO377.out).1.symm] <;> rfl) | rfl | (simp only [List.length_drop, List.length_take]; rfl)) ?_; (with_reducible refine (laws_cp.calls kj23 _ _ y378 t382 _ ?side1 ?side2 A52.out).mono ?_); (case side1 => repeat (first | exact (Kd.R_reads' HO377.out).2.2 | (with_reducible refine Kd.C_alloc ?_ _) | (with_reducible refine Kd.C_drewN ?_ _) | (with_reducible refine Kd.C_drew ?_))); (case side2 => rw [show y378.length = t375.length from (Kd.R_reads' HO377.out).1.symm]; exact (Kd.R_reads' HO377.out).2.1); rintro e w72 ⟨v383, rfl, ho0, hb⟩; refine ⟨_, rfl, ?_⟩; have n0_ := Aside0.mk (Kd.R_elder' (by (with_reducible repeat (first | apply Kd.R_alloc | apply Kd.R_drewN | apply Kd.R_drew)); exact HO_4.out) (Kd.R_base ho0) hb); have n1_ := Aside0.mk (Kd.R_elder' (by (with_reducible repeat (first | apply Kd.R_alloc | apply Kd.R_drewN | apply Kd.R_drew)); exact HO377.out) (Kd.R_base ho0) hb); have n2_ := Aside0.mk (Kd.R_elder' (by (with_reducible repeat (first | apply Kd.R_alloc | apply Kd.R_drewN | apply Kd.R_drew)); exact HO381.out) (Kd.R_base ho0) hb); have n3_ := Aside0.mk (Kd.R_lower (Kd.R_new' (Kd.R_new' (Kd.R_new' ho0 (Kd.R_lt (by (with_reducible repeat (first | apply Kd.R_alloc | apply Kd.R_drewN | apply Kd.R_drew)); exact HO_4.out))) (Kd.R_lt (by (with_reducible repeat (first | apply Kd.R_alloc | apply Kd.R_drewN | apply Kd.R_drew)); exact HO377.out))) (Kd.R_lt (by (with_reducible repeat (first | apply Kd.R_alloc | apply Kd.R_drewN | apply Kd.R_drew)); exact HO381.out))) (below_size (by repeat (first | (with_reducible first | exact HB.out | apply below_alloc | apply pw_below_drewN | apply below_drew1) | exact HB.out)))); have n4_ := Aside0.mk (below_step (by repeat (first | (with_reducible first | exact HB.out | apply below_alloc | apply pw_below_drewN | apply below_drew1) | exact HB.out)) hb); clear HO_4; clear HO377; clear HO381; clear HB; have HO_4 := n0_; have HO377 := n1_; have HO381 := n2_; have HO384 := n3_; have HB := n4_; clear n0_ n1_ n2_ n3_ n4_; (try clear hb); (try clear hb2); (try clear hk); (try clear hi); (try clear ho0); obtain ⟨Ao73, co73, eo73⟩ := Kd.R_slice HO381.out; subst eo73; obtain ⟨Ao74, co74, eo74⟩ := Kd.R_slice HO384.out; subst eo74) | ((with_reducible refine gate_callee (f := 35) rfl ?_); refine goesL_ (some 110) rfl rfl Try.func35 (by kernel_rfl) rfl #[.int .i64 t342, .slice Ao73 t379.length co73, .slice Ao74 t382.length co74] rfl (by (try simp only [List.map_toArray, List.map_cons, List.map_nil]); first | done | rfl | (simp only [List.length_drop, List.length_take]; rfl)) ?_; (with_reducible refine (impl_SeriesMul.calls kj23 t342 (fun k_ => some k_ = (.slice Ao73 t379.length co73 : Value).ownBlock) _ _ t379 (fun k_ => some k_ = (.slice Ao74 t382.length co74 : Value).ownBlock) _ _ t382 t385 _ ?side1 ?side2 A53.out).mono ?_); (case side1 => exact Kd.R_V (Kd.R_tight rfl (HO381.out))); (case side2 => exact Kd.R_V (Kd.R_tight rfl (HO384.out))); rintro e w75 ⟨v386, rfl, ho0, hb⟩; refine ⟨_, rfl, ?_⟩; have n0_ := Aside0.mk (Kd.R_elder' (by (with_reducible repeat (first | apply Kd.R_alloc | apply Kd.R_drewN | apply Kd.R_drew)); exact HO_4.out) (Kd.R_base ho0) hb); have n1_ := Aside0.mk (Kd.R_elder' (by (with_reducible repeat (first | apply Kd.R_alloc | apply Kd.R_drewN | apply Kd.R_drew)); exact HO377.out) (Kd.R_base ho0) hb); have n2_ := Aside0.mk (Kd.R_elder' (by (with_reducible repeat (first | apply Kd.R_alloc | apply Kd.R_drewN | apply Kd.R_drew)); exact HO381.out) (Kd.R_base ho0) hb); have n3_ := Aside0.mk (Kd.R_elder' (by (with_reducible repeat (first | apply Kd.R_alloc | apply Kd.R_drewN | apply Kd.R_drew)); exact HO384.out) (Kd.R_base ho0) hb); have n4_ := Aside0.mk (Kd.R_lower (Kd.R_new' (Kd.R_new' (Kd.R_new' (Kd.R_new' (Kd.R_mono (ok' := fun k_ => True) ho0 (fun _ hk_ => trivial)) (Kd.R_lt (by (with_reducible repeat (first | apply Kd.R_alloc | apply Kd.R_drewN | apply Kd.R_drew)); exact HO_4.out))) (Kd.R_lt (by (with_reducible repeat (first | apply Kd.R_alloc | apply Kd.R_drewN | apply Kd.R_drew)); exact HO377.out))) (Kd.R_lt (by (with_reducible repeat (first | apply Kd.R_alloc | apply Kd.R_drewN | apply Kd.R_drew)); exact HO381.out))) (Kd.R_lt (by (with_reducible repeat (first | apply Kd.R_alloc | apply Kd.R_drewN | apply Kd.R_drew)); exact HO384.out))) (below_size (by repeat (first | (with_reducible first | exact HB.out | apply below_alloc | apply pw_below_drewN | apply below_drew1) | exact HB.out)))); have n5_ := Aside0.mk (below_step (by repeat (first | (with_reducible first | exact HB.out | apply below_alloc | apply pw_below_drewN | apply below_drew1) | exact HB.out)) hb); clear HO_4; clear HO377; clear HO381; clear HO384; clear HB; have HO_4 := n0_; have HO377 := n1_; have HO381 := n2_; have HO384 := n3_; have HO387 := n4_; have HB := n5_; clear n0_ n1_ n2_ n3_ n4_ n5_; (try clear hb); (try clear hb2); (try clear hk); (try clear hi); (try clear ho0); obtain ⟨Ao76, co76, eo76⟩ := Kd.R_slice HO387.out; subst eo76) | ((with_reducible refine gate_callee (f := 36) rfl ?_); refine goesL_ (some 111) rfl rfl Try.func36 (by kernel_rfl) rfl #[.int .i64 t342, .slice Ao76 t385.length co76] rfl (by (try simp only [List.map_toArray, List.map_cons, List.map_nil]); first | done | rfl | (simp only [List.length_drop, List.length_take]; rfl)) ?_; (with_reducible refine (impl_SeriesSqrt.calls kj23 t342 (fun k_ => some k_ = (.slice Ao76 t385.length co76 : Value).ownBlock) _ _ t385 t388 false _ ?side1 A54.out).mono ?_); (case side1 => exact Kd.R_V (Kd.R_tight rfl (HO387.out))); rintro e w77 ⟨v389, rfl, ho0, hb⟩; refine ⟨_, rfl, ?_⟩; have n0_ := Aside0.mk (Kd.R_elder' (by (with_reducible repeat (first | apply Kd.R_alloc | apply Kd.R_drewN | apply Kd.R_drew)); exact HO_4.out) (Kd.R_base ho0) hb); have n1_ := Aside0.mk (Kd.R_elder' (by (with_reducible repeat (first | apply Kd.R_alloc | apply Kd.R_drewN | apply Kd.R_drew)); exact HO377.out) (Kd.R_base ho0) hb); have n2_ := Aside0.mk (Kd.R_elder' (by (with_reducible repeat (first | apply Kd.R_alloc | apply Kd.R_drewN | apply Kd.R_drew)); exact HO381.out) (Kd.R_base ho0) hb); have n3_ := Aside0.mk (Kd.R_elder' (by (with_reducible repeat (first | apply Kd.R_alloc | apply Kd.R_drewN | apply Kd.R_drew)); exact HO384.out) (Kd.R_base ho0) hb); have n4_ := Aside0.mk (Kd.R_elder' (by (with_reducible repeat (first | apply Kd.R_alloc | apply Kd.R_drewN | apply Kd.R_drew)); exact HO387.out) (Kd.R_base ho0) hb); have n5_ := Aside0.mk (Kd.R_lower (Kd.R_new' (Kd.R_new' (Kd.R_new' (Kd.R_new' (Kd.R_new' (Kd.R_mono (ok' := fun k_ => True) ho0 (fun _ hk_ => trivial)) (Kd.R_lt (by (with_reducible repeat (first | apply Kd.R_alloc | apply Kd.R_drewN | apply Kd.R_drew)); exact HO_4.out))) (Kd.R_lt (by (with_reducible repeat (first | apply Kd.R_alloc | apply Kd.R_drewN | apply Kd.R_drew)); exact HO377.out))) (Kd.R_lt (by (with_reducible repeat (first | apply Kd.R_alloc | apply Kd.R_drewN | apply Kd.R_drew)); exact HO381.out))) (Kd.R_lt (by (with_reducible repeat (first | apply Kd.R_alloc | apply Kd.R_drewN | apply Kd.R_drew)); exact HO384.out))) (Kd.R_lt (by (with_reducible repeat (first | apply Kd.R_alloc | apply Kd.R_drewN | apply Kd.R_drew)); exact HO387.out))) (below_size (by repeat (first | (with_reducible first | exact HB.out | apply below_alloc | apply pw_below_drewN | apply below_drew1) | exact HB.out)))); have n6_ := Aside0.mk (below_step (by repeat (first | (with_reducible first | exact HB.out | apply below_alloc | apply pw_below_drewN | apply below_drew1) | exact HB.out)) hb); clear HO_4; clear HO377; clear HO381; clear HO384; clear HO387; clear HB; have HO_4 := n0_; have HO377 := n1_; have HO381 := n2_; have HO384 := n3_; have HO387 := n4_; have HO390 := n5_; have HB := n6_; clear n0_ n1_ n2_ n3_ n4_ n5_ n6_; (try clear hb); (try clear hb2); (try clear hk); (try clear hi); (try clear ho0)))
                          go_ret
                          exact ⟨by first | rfl | (simp [errW_none, errW_some] <;> rfl) | (simp [*, errW_none, errW_some] <;> rfl), by repeat (first | (with_reducible first | exact HB.out | apply below_alloc | apply pw_below_drewN | apply below_drew1) | exact HB.out)⟩
                      · rw [if_neg c49] at H
                        exact absurd H (by simp)

/-- THE ONE PURE STATEMENT of laws_FnSeriesPowers: yours. -/
def laws_FnSeriesPowers.Pure : Prop := ∀ (l0 : List Int), l0.length ≤ maxLen → l0.length * 1 ≤ 140737488351232 → (∀ x ∈ l0, (Lit.int .u8 x).wf = true) → ∃ k, laws_FnSeriesPowers.f k l0 = some true
theorem laws_FnSeriesPowers.walk (P : laws_FnSeriesPowers.Pure) (a0 : Option Addr) (len0 cap0 : Nat) (z0 : List Int) (w : World) (w0 : (a0 = none ∧ len0 = 0 ∧ cap0 = 0 ∧ z0 = []) ∨ ∃ x, a0 = some x ∧ len0 ≤ cap0 ∧ cap0 ≤ maxLen ∧ z0.length = cap0 ∧ (∀ i, i < z0.length → w.cell? (x.add i) = some (.int .u8 (z0.getD i 0))) ∧ ∀ n ∈ z0, (Lit.int .u8 n).wf = true) (y0 : len0 * 1 ≤ 140737488351232) :
    Calls Try.prog 7 #[.slice a0 len0 cap0] w fun e w' => e = .returned (.bool true) ∧ Below w.heap.size w w' := by
  obtain ⟨l0, rfl, hr0, hm0, hw0, hc0⟩ := ReadsInt.ofRowC w0
  obtain ⟨k, h⟩ := P l0 hm0 y0 hw0
  refine (laws_FnSeriesPowers.calls k _ _ l0 true w (Kd.C_of_reads (d := (0 : Int)) (h1 := fun _ => rfl) hr0) hc0 h).mono ?_
  rintro e w' ⟨rfl, hd⟩
  exact ⟨rfl, hd⟩

end Go.Proofs.Ytemffnnndjpleaa.PFnSeriesPowers
