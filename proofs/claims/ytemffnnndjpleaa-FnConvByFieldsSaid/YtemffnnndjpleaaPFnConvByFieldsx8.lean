/- The machine side of this law: each Go function that it reaches as a Lean function, and the proof that the call comes to just its answer; printed by a program of this session out of the kit's print, with a contract of impl.fieldOf that is this session's own. No condition. -/
import Derived.Test.YtemffnnndjpleaaPFnConvByFieldsx0
import Derived.Test.YtemffnnndjpleaaPFnConvByFieldsx1
import Derived.Test.YtemffnnndjpleaaPFnConvByFieldsx2
import Derived.Test.YtemffnnndjpleaaPFnConvByFieldsx3
import Derived.Test.YtemffnnndjpleaaPFnConvByFieldsx5
import Derived.Test.YtemffnnndjpleaaPFnConvByFieldsx6
import Derived.Test.YtemffnnndjpleaaPFnConvByFieldsx7
namespace Go.Proofs.Ytemffnnndjpleaa.PFnConvByFields
open Go.RowKit Go.Proofs.YtemffnnndjpleaaW.PrintWords Go.Proofs.YtemffnnndjpleaaW.PrintLast Go.Proofs.YtemffnnndjpleaaW.PrintMore
attribute [local go_sem] max2_int min2_int max_two min_two max_three min_three max_four min_four   -- for this text's walks alone
set_option linter.unusedVariables false
set_option linter.unusedSimpArgs false

/-! ### laws_FnConvByFields: function 6 -/
mutual
def laws_FnConvByFields.j0 : Nat → List Int → List Int → Bool → Option (Bool)
  | 0, _, _, _ => none
  | k + 1, x3, x4, x53 => if x53 = true then (some true) else ((laws_cp.f k x3).bind fun t354 => ((laws_cp.f k x4).bind fun t357 => ((impl_ConvExact.f k t354 t357).bind fun bt360 => ((spec_Trim.f k 6 x3).bind fun t364 => ((spec_Trim.f k 6 x4).bind fun t367 => ((impl_MulPoly.f k 6 t364 t367).bind fun bt370 => ((spec_Trim.f k 7 x3).bind fun t374 => ((spec_Trim.f k 7 x4).bind fun t377 => ((impl_MulPoly.f k 7 t374 t377).bind fun bt380 => (if bt360.2 = true then (if bt370.2 = true then (if bt380.2 = true then (laws_FnConvByFields.j1 k x3 x4 bt360.1 bt370.1 bt380.1 ((bt360.1.length : Int) != (wrap64 ((wrap64 ((x3.length : Int) + (x4.length : Int))) - 1)))) else (laws_FnConvByFields.j1 k x3 x4 bt360.1 bt370.1 bt380.1 true)) else (laws_FnConvByFields.j1 k x3 x4 bt360.1 bt370.1 bt380.1 true)) else (laws_FnConvByFields.j1 k x3 x4 bt360.1 bt370.1 bt380.1 true)))))))))))
def laws_FnConvByFields.j1 : Nat → List Int → List Int → List Int → List Int → List Int → Bool → Option (Bool)
  | 0, _, _, _, _, _, _ => none
  | k + 1, x3, x4, x7, x9, x11, x98 => if x98 = true then (some false) else ((impl_Bound.f (x3.length : Int) (x4.length : Int)).bind fun t384 => (laws_FnConvByFields.l0 k x7 x9 x11 t384 0))
def laws_FnConvByFields.l0 : Nat → List Int → List Int → List Int → Int → Int → Option (Bool)
  | 0, _, _, _, _, _ => none
  | k + 1, x7, x9, x11, x13, x14 => if x14 < (x7.length : Int) then (if x14 < (x9.length : Int) then (if 0 ≤ x14 then (laws_FnConvByFields.j3 k x7 x9 x11 x13 x14 (rd x9 x14) 0) else (none)) else (laws_FnConvByFields.j3 k x7 x9 x11 x13 x14 0 0)) else (some true)
def laws_FnConvByFields.j3 : Nat → List Int → List Int → List Int → Int → Int → Int → Int → Option (Bool)
  | 0, _, _, _, _, _, _, _ => none
  | k + 1, x7, x9, x11, x13, x14, x15, x16 => if x14 < (x11.length : Int) then (if 0 ≤ x14 then ((impl_Centered.f k x15 (rd x11 x14)).bind fun bt387 => (if bt387.2 = true then (if x14 < (x7.length : Int) then (if bt387.1 = (rd x7 x14) then (if (rd x7 x14) > x13 then (some false) else (if (rd x7 x14) < (wrap64 (-x13)) then (some false) else (laws_FnConvByFields.l0 k x7 x9 x11 x13 (wrap64 (x14 + 1))))) else (some false)) else (none)) else (some false))) else (none)) else ((impl_Centered.f k x15 x16).bind fun bt392 => (if bt392.2 = true then (if 0 ≤ x14 then (if x14 < (x7.length : Int) then (if bt392.1 = (rd x7 x14) then (if (rd x7 x14) > x13 then (some false) else (if (rd x7 x14) < (wrap64 (-x13)) then (some false) else (laws_FnConvByFields.l0 k x7 x9 x11 x13 (wrap64 (x14 + 1))))) else (some false)) else (none)) else (none)) else (some false)))
end
def laws_FnConvByFields.f (k : Nat) (l0 : List Int) : Option (Bool) := (laws_big.f l0).bind fun t343 => (if t343 = true then (some true) else ((spec_DrawConvExact.f k l0).bind fun bt344 => ((spec_ConvExact.f k bt344.1 bt344.2).bind fun bt350 => (if bt350.2 = true then (if (bt344.1.length : Int) > 190 then (laws_FnConvByFields.j0 k bt344.1 bt344.2 true) else (if (bt344.2.length : Int) > 190 then (laws_FnConvByFields.j0 k bt344.1 bt344.2 true) else (if (bt344.1.length : Int) = 0 then (laws_FnConvByFields.j0 k bt344.1 bt344.2 true) else (laws_FnConvByFields.j0 k bt344.1 bt344.2 ((bt344.2.length : Int) == 0))))) else (laws_FnConvByFields.j0 k bt344.1 bt344.2 true)))))
theorem laws_FnConvByFields.mono_l : ∀ k, (∀ y0 y1 y2, LeO (laws_FnConvByFields.j0 k y0 y1 y2) (laws_FnConvByFields.j0 (k + 1) y0 y1 y2)) ∧ (∀ y0 y1 y2 y3 y4 y5, LeO (laws_FnConvByFields.j1 k y0 y1 y2 y3 y4 y5) (laws_FnConvByFields.j1 (k + 1) y0 y1 y2 y3 y4 y5)) ∧ (∀ y0 y1 y2 y3 y4, LeO (laws_FnConvByFields.l0 k y0 y1 y2 y3 y4) (laws_FnConvByFields.l0 (k + 1) y0 y1 y2 y3 y4)) ∧ (∀ y0 y1 y2 y3 y4 y5 y6, LeO (laws_FnConvByFields.j3 k y0 y1 y2 y3 y4 y5 y6) (laws_FnConvByFields.j3 (k + 1) y0 y1 y2 y3 y4 y5 y6))
  | 0 => ⟨fun _ _ _ r h => by simp [laws_FnConvByFields.j0] at h, fun _ _ _ _ _ _ r h => by simp [laws_FnConvByFields.j1] at h, fun _ _ _ _ _ r h => by simp [laws_FnConvByFields.l0] at h, fun _ _ _ _ _ _ _ r h => by simp [laws_FnConvByFields.j3] at h⟩
  | k + 1 => by
    obtain ⟨ih0, ih1, ih2, ih3⟩ := laws_FnConvByFields.mono_l k
    refine ⟨?_, ?_, ?_, ?_⟩
    · intro y0 y1 y2
      unfold laws_FnConvByFields.j0
      repeat' first
      | (with_reducible exact ih0 _ _ _)
      | (with_reducible exact ih1 _ _ _ _ _ _)
      | (with_reducible exact ih2 _ _ _ _ _)
      | (with_reducible exact ih3 _ _ _ _ _ _ _)
      | (with_reducible exact impl_Centered.mono _ _ _)
      | (with_reducible exact impl_ConvExact.mono _ _ _)
      | (with_reducible exact impl_MulPoly.mono _ _ _ _)
      | (with_reducible exact laws_cp.mono _ _)
      | (with_reducible exact spec_ConvExact.mono _ _ _)
      | (with_reducible exact spec_DrawConvExact.mono _ _)
      | (with_reducible exact spec_Trim.mono _ _ _)
      | (with_reducible exact LeO.refl _)
      | (with_reducible exact LeO.none _)
      | (with_reducible refine LeO.ite ?_ ?_)
      | (with_reducible refine LeO.bind ?_ (fun _ => ?_))
      | exact ih0 _ _ _
      | exact ih1 _ _ _ _ _ _
      | exact ih2 _ _ _ _ _
      | exact ih3 _ _ _ _ _ _ _
      | exact impl_Centered.mono _ _ _
      | exact impl_ConvExact.mono _ _ _
      | exact impl_MulPoly.mono _ _ _ _
      | exact laws_cp.mono _ _
      | exact spec_ConvExact.mono _ _ _
      | exact spec_DrawConvExact.mono _ _
      | exact spec_Trim.mono _ _ _
      | exact LeO.none _
      | refine LeO.ite ?_ ?_
      | refine LeO.bind ?_ (fun _ => ?_)
    · intro y0 y1 y2 y3 y4 y5
      unfold laws_FnConvByFields.j1
      repeat' first
      | (with_reducible exact ih0 _ _ _)
      | (with_reducible exact ih1 _ _ _ _ _ _)
      | (with_reducible exact ih2 _ _ _ _ _)
      | (with_reducible exact ih3 _ _ _ _ _ _ _)
      | (with_reducible exact impl_Centered.mono _ _ _)
      | (with_reducible exact impl_ConvExact.mono _ _ _)
      | (with_reducible exact impl_MulPoly.mono _ _ _ _)
      | (with_reducible exact laws_cp.mono _ _)
      | (with_reducible exact spec_ConvExact.mono _ _ _)
      | (with_reducible exact spec_DrawConvExact.mono _ _)
      | (with_reducible exact spec_Trim.mono _ _ _)
      | (with_reducible exact LeO.refl _)
      | (with_reducible exact LeO.none _)
      | (with_reducible refine LeO.ite ?_ ?_)
      | (with_reducible refine LeO.bind ?_ (fun _ => ?_))
      | exact ih0 _ _ _
      | exact ih1 _ _ _ _ _ _
      | exact ih2 _ _ _ _ _
      | exact ih3 _ _ _ _ _ _ _
      | exact impl_Centered.mono _ _ _
      | exact impl_ConvExact.mono _ _ _
      | exact impl_MulPoly.mono _ _ _ _
      | exact laws_cp.mono _ _
      | exact spec_ConvExact.mono _ _ _
      | exact spec_DrawConvExact.mono _ _
      | exact spec_Trim.mono _ _ _
      | exact LeO.none _
      | refine LeO.ite ?_ ?_
      | refine LeO.bind ?_ (fun _ => ?_)
    · intro y0 y1 y2 y3 y4
      unfold laws_FnConvByFields.l0
      repeat' first
      | (with_reducible exact ih0 _ _ _)
      | (with_reducible exact ih1 _ _ _ _ _ _)
      | (with_reducible exact ih2 _ _ _ _ _)
      | (with_reducible exact ih3 _ _ _ _ _ _ _)
      | (with_reducible exact impl_Centered.mono _ _ _)
      | (with_reducible exact impl_ConvExact.mono _ _ _)
      | (with_reducible exact impl_MulPoly.mono _ _ _ _)
      | (with_reducible exact laws_cp.mono _ _)
      | (with_reducible exact spec_ConvExact.mono _ _ _)
      | (with_reducible exact spec_DrawConvExact.mono _ _)
      | (with_reducible exact spec_Trim.mono _ _ _)
      | (with_reducible exact LeO.refl _)
      | (with_reducible exact LeO.none _)
      | (with_reducible refine LeO.ite ?_ ?_)
      | (with_reducible refine LeO.bind ?_ (fun _ => ?_))
      | exact ih0 _ _ _
      | exact ih1 _ _ _ _ _ _
      | exact ih2 _ _ _ _ _
      | exact ih3 _ _ _ _ _ _ _
      | exact impl_Centered.mono _ _ _
      | exact impl_ConvExact.mono _ _ _
      | exact impl_MulPoly.mono _ _ _ _
      | exact laws_cp.mono _ _
      | exact spec_ConvExact.mono _ _ _
      | exact spec_DrawConvExact.mono _ _
      | exact spec_Trim.mono _ _ _
      | exact LeO.none _
      | refine LeO.ite ?_ ?_
      | refine LeO.bind ?_ (fun _ => ?_)
    · intro y0 y1 y2 y3 y4 y5 y6
      unfold laws_FnConvByFields.j3
      repeat' first
      | (with_reducible exact ih0 _ _ _)
      | (with_reducible exact ih1 _ _ _ _ _ _)
      | (with_reducible exact ih2 _ _ _ _ _)
      | (with_reducible exact ih3 _ _ _ _ _ _ _)
      | (with_reducible exact impl_Centered.mono _ _ _)
      | (with_reducible exact impl_ConvExact.mono _ _ _)
      | (with_reducible exact impl_MulPoly.mono _ _ _ _)
      | (with_reducible exact laws_cp.mono _ _)
      | (with_reducible exact spec_ConvExact.mono _ _ _)
      | (with_reducible exact spec_DrawConvExact.mono _ _)
      | (with_reducible exact spec_Trim.mono _ _ _)
      | (with_reducible exact LeO.refl _)
      | (with_reducible exact LeO.none _)
      | (with_reducible refine LeO.ite ?_ ?_)
      | (with_reducible refine LeO.bind ?_ (fun _ => ?_))
      | exact ih0 _ _ _
      | exact ih1 _ _ _ _ _ _
      | exact ih2 _ _ _ _ _
      | exact ih3 _ _ _ _ _ _ _
      | exact impl_Centered.mono _ _ _
      | exact impl_ConvExact.mono _ _ _
      | exact impl_MulPoly.mono _ _ _ _
      | exact laws_cp.mono _ _
      | exact spec_ConvExact.mono _ _ _
      | exact spec_DrawConvExact.mono _ _
      | exact spec_Trim.mono _ _ _
      | exact LeO.none _
      | refine LeO.ite ?_ ?_
      | refine LeO.bind ?_ (fun _ => ?_)
theorem laws_FnConvByFields.mono : ∀ a0 k, LeO (laws_FnConvByFields.f k a0) (laws_FnConvByFields.f (k + 1) a0) := by
  intro a0 k
  obtain ⟨ih0, ih1, ih2, ih3⟩ := laws_FnConvByFields.mono_l k
  unfold laws_FnConvByFields.f
  repeat' first
      | (with_reducible exact ih0 _ _ _)
      | (with_reducible exact ih1 _ _ _ _ _ _)
      | (with_reducible exact ih2 _ _ _ _ _)
      | (with_reducible exact ih3 _ _ _ _ _ _ _)
      | (with_reducible exact impl_Centered.mono _ _ _)
      | (with_reducible exact impl_ConvExact.mono _ _ _)
      | (with_reducible exact impl_MulPoly.mono _ _ _ _)
      | (with_reducible exact laws_cp.mono _ _)
      | (with_reducible exact spec_ConvExact.mono _ _ _)
      | (with_reducible exact spec_DrawConvExact.mono _ _)
      | (with_reducible exact spec_Trim.mono _ _ _)
      | (with_reducible exact LeO.refl _)
      | (with_reducible exact LeO.none _)
      | (with_reducible refine LeO.ite ?_ ?_)
      | (with_reducible refine LeO.bind ?_ (fun _ => ?_))
      | exact ih0 _ _ _
      | exact ih1 _ _ _ _ _ _
      | exact ih2 _ _ _ _ _
      | exact ih3 _ _ _ _ _ _ _
      | exact impl_Centered.mono _ _ _
      | exact impl_ConvExact.mono _ _ _
      | exact impl_MulPoly.mono _ _ _ _
      | exact laws_cp.mono _ _
      | exact spec_ConvExact.mono _ _ _
      | exact spec_DrawConvExact.mono _ _
      | exact spec_Trim.mono _ _ _
      | exact LeO.none _
      | refine LeO.ite ?_ ?_
      | refine LeO.bind ?_ (fun _ => ?_)
set_option maxHeartbeats 8000000 in
set_option maxRecDepth 100000 in
theorem laws_FnConvByFields.calls (k : Nat) (A0 : Option Addr) (c0 : Nat) (l0 : List Int) (r : Bool) (w : World) (hr0 : Kd.C (Kd.int .u8) w A0 l0.length l0) (hc0 : l0.length ≤ c0) (h : laws_FnConvByFields.f k l0 = some r) :
    Calls Try.prog 6 #[.slice A0 l0.length c0] w fun e w' => e = .returned (.bool r) ∧ Below w.heap.size w w' := by
  have HR0 := Aside0.mk hr0
  have HC0 := Aside0.mk hc0
  clear hr0 hc0
  have HB := Aside0.mk (Below.refl w.heap.size w)
  have H : ((laws_big.f l0).bind fun t343 => (if t343 = true then (some true) else ((spec_DrawConvExact.f k l0).bind fun bt344 => ((spec_ConvExact.f k bt344.1 bt344.2).bind fun bt350 => (if bt350.2 = true then (if (bt344.1.length : Int) > 190 then (laws_FnConvByFields.j0 k bt344.1 bt344.2 true) else (if (bt344.2.length : Int) > 190 then (laws_FnConvByFields.j0 k bt344.1 bt344.2 true) else (if (bt344.1.length : Int) = 0 then (laws_FnConvByFields.j0 k bt344.1 bt344.2 true) else (laws_FnConvByFields.j0 k bt344.1 bt344.2 ((bt344.2.length : Int) == 0))))) else (laws_FnConvByFields.j0 k bt344.1 bt344.2 true)))))) = some r := h
  clear h
  replace H := Option.bind_eq_some_iff.mp H
  obtain ⟨t343, A20, H⟩ := H
  replace H : (if t343 = true then (some true) else ((spec_DrawConvExact.f k l0).bind fun bt344 => ((spec_ConvExact.f k bt344.1 bt344.2).bind fun bt350 => (if bt350.2 = true then (if (bt344.1.length : Int) > 190 then (laws_FnConvByFields.j0 k bt344.1 bt344.2 true) else (if (bt344.2.length : Int) > 190 then (laws_FnConvByFields.j0 k bt344.1 bt344.2 true) else (if (bt344.1.length : Int) = 0 then (laws_FnConvByFields.j0 k bt344.1 bt344.2 true) else (laws_FnConvByFields.j0 k bt344.1 bt344.2 ((bt344.2.length : Int) == 0))))) else (laws_FnConvByFields.j0 k bt344.1 bt344.2 true))))) = some r := H
  have A2 := Aside0.mk A20
  clear A20
  by_cases c3 : t343 = true
  · subst c3
    have H1 : (some true) = some r := by rw [if_pos rfl] at H; exact H
    clear H
    have H := H1
    clear H1
    obtain rfl := Option.some.inj H
    go_enter Try.func6, Try.ntmps6
    go_wp2_with (first | ((with_reducible refine gate_callee (f := 22) rfl ?_); refine goesL_ (some 20) rfl rfl Try.func22 (by kernel_rfl) rfl #[.slice A0 l0.length c0] rfl (by (try simp only [List.map_toArray, List.map_cons, List.map_nil]); first | done | rfl | (simp only [List.length_drop, List.length_take]; rfl)) ?_; (with_reducible refine (laws_big.calls _ _ l0 true _ ?side1 ?side2 A2.out).mono ?_); (case side1 => repeat (first | exact HR0.out | (with_reducible refine Kd.C_alloc ?_ _) | (with_reducible refine Kd.C_drewN ?_ _) | (with_reducible refine Kd.C_drew ?_))); (case side2 => exact HC0.out); rintro e w' ⟨rfl, ⟨nd, rfl⟩⟩; refine ⟨_, rfl, ?_⟩))
    go_ret
    exact ⟨by first | rfl | (simp [errW_none, errW_some] <;> rfl) | (simp [*, errW_none, errW_some] <;> rfl), by repeat (first | (with_reducible first | exact HB.out | apply below_alloc | apply pw_below_drewN | apply below_drew1) | exact HB.out)⟩
  · replace c3 := Bool.eq_false_iff.mpr c3
    subst c3
    have H1 : ((spec_DrawConvExact.f k l0).bind fun bt344 => ((spec_ConvExact.f k bt344.1 bt344.2).bind fun bt350 => (if bt350.2 = true then (if (bt344.1.length : Int) > 190 then (laws_FnConvByFields.j0 k bt344.1 bt344.2 true) else (if (bt344.2.length : Int) > 190 then (laws_FnConvByFields.j0 k bt344.1 bt344.2 true) else (if (bt344.1.length : Int) = 0 then (laws_FnConvByFields.j0 k bt344.1 bt344.2 true) else (laws_FnConvByFields.j0 k bt344.1 bt344.2 ((bt344.2.length : Int) == 0))))) else (laws_FnConvByFields.j0 k bt344.1 bt344.2 true)))) = some r := by rw [if_neg (show ¬ (false = true) by decide)] at H; exact H
    clear H
    have H := H1
    clear H1
    replace H := Option.bind_eq_some_iff.mp H
    obtain ⟨⟨t344, t345⟩, A40, H⟩ := H
    replace H : ((spec_ConvExact.f k t344 t345).bind fun bt350 => (if bt350.2 = true then (if (t344.length : Int) > 190 then (laws_FnConvByFields.j0 k t344 t345 true) else (if (t345.length : Int) > 190 then (laws_FnConvByFields.j0 k t344 t345 true) else (if (t344.length : Int) = 0 then (laws_FnConvByFields.j0 k t344 t345 true) else (laws_FnConvByFields.j0 k t344 t345 ((t345.length : Int) == 0))))) else (laws_FnConvByFields.j0 k t344 t345 true))) = some r := H
    have A4 := Aside0.mk A40
    clear A40
    replace H := Option.bind_eq_some_iff.mp H
    obtain ⟨⟨t350, t351⟩, A50, H⟩ := H
    replace H : (if t351 = true then (if (t344.length : Int) > 190 then (laws_FnConvByFields.j0 k t344 t345 true) else (if (t345.length : Int) > 190 then (laws_FnConvByFields.j0 k t344 t345 true) else (if (t344.length : Int) = 0 then (laws_FnConvByFields.j0 k t344 t345 true) else (laws_FnConvByFields.j0 k t344 t345 ((t345.length : Int) == 0))))) else (laws_FnConvByFields.j0 k t344 t345 true)) = some r := H
    have A5 := Aside0.mk A50
    clear A50
    have HC6 := Aside0.mk H
    clear H
    go_enter Try.func6, Try.ntmps6
    go_upto_region 5 with (first | ((with_reducible refine gate_callee (f := 22) rfl ?_); refine goesL_ (some 20) rfl rfl Try.func22 (by kernel_rfl) rfl #[.slice A0 l0.length c0] rfl (by (try simp only [List.map_toArray, List.map_cons, List.map_nil]); first | done | rfl | (simp only [List.length_drop, List.length_take]; rfl)) ?_; (with_reducible refine (laws_big.calls _ _ l0 false _ ?side1 ?side2 A2.out).mono ?_); (case side1 => repeat (first | exact HR0.out | (with_reducible refine Kd.C_alloc ?_ _) | (with_reducible refine Kd.C_drewN ?_ _) | (with_reducible refine Kd.C_drew ?_))); (case side2 => exact HC0.out); rintro e w' ⟨rfl, ⟨nd, rfl⟩⟩; refine ⟨_, rfl, ?_⟩) | ((with_reducible refine gate_callee (f := 23) rfl ?_); refine goesL_ (some 23) rfl rfl Try.func23 (by kernel_rfl) rfl #[.slice A0 l0.length c0] rfl (by (try simp only [List.map_toArray, List.map_cons, List.map_nil]); first | done | rfl | (simp only [List.length_drop, List.length_take]; rfl)) ?_; (with_reducible refine (spec_DrawConvExact.calls k _ _ l0 t344 t345 _ ?side1 ?side2 A4.out).mono ?_); (case side1 => repeat (first | exact HR0.out | (with_reducible refine Kd.C_alloc ?_ _) | (with_reducible refine Kd.C_drewN ?_ _) | (with_reducible refine Kd.C_drew ?_))); (case side2 => exact HC0.out); rintro e w7 ⟨v346, v348, rfl, ho0, ho1, hb⟩; refine ⟨_, rfl, ?_⟩; have n0_ := Aside0.mk (Kd.R_lower ho0 (below_size (by repeat (first | (with_reducible first | exact HB.out | apply below_alloc | apply pw_below_drewN | apply below_drew1) | exact HB.out)))); have n1_ := Aside0.mk (Kd.R_lower ho1 (below_size (by repeat (first | (with_reducible first | exact HB.out | apply below_alloc | apply pw_below_drewN | apply below_drew1) | exact HB.out)))); have n2_ := Aside0.mk (below_step (by repeat (first | (with_reducible first | exact HB.out | apply below_alloc | apply pw_below_drewN | apply below_drew1) | exact HB.out)) hb); clear HB; have HO347 := n0_; have HO349 := n1_; have HB := n2_; clear n0_ n1_ n2_; (try clear hb); (try clear hb2); (try clear hk); (try clear hi); (try clear ho0); (try clear ho1); obtain ⟨Ao8, co8, eo8⟩ := Kd.R_slice HO347.out; subst eo8; obtain ⟨Ao9, co9, eo9⟩ := Kd.R_slice HO349.out; subst eo9) | ((with_reducible refine gate_callee (f := 24) rfl ?_); refine goesL_ (some 29) rfl rfl Try.func24 (by kernel_rfl) rfl #[.slice Ao8 t344.length co8, .slice Ao9 t345.length co9] rfl (by (try simp only [List.map_toArray, List.map_cons, List.map_nil]); first | done | rfl | (simp only [List.length_drop, List.length_take]; rfl)) ?_; (with_reducible refine (spec_ConvExact.calls k _ _ t344 _ _ t345 t350 t351 _ ?side1 ?side2 ?side3 ?side4 A5.out).mono ?_); (case side1 => repeat (first | exact (Kd.R_reads' HO347.out).2.2 | (with_reducible refine Kd.C_alloc ?_ _) | (with_reducible refine Kd.C_drewN ?_ _) | (with_reducible refine Kd.C_drew ?_))); (case side2 => exact (Kd.R_reads' HO347.out).2.1); (case side3 => repeat (first | exact (Kd.R_reads' HO349.out).2.2 | (with_reducible refine Kd.C_alloc ?_ _) | (with_reducible refine Kd.C_drewN ?_ _) | (with_reducible refine Kd.C_drew ?_))); (case side4 => exact (Kd.R_reads' HO349.out).2.1); rintro e w10 ⟨v352, rfl, ho0, hb⟩; refine ⟨_, rfl, ?_⟩; have n0_ := Aside0.mk (Kd.R_elder' (by (with_reducible repeat (first | apply Kd.R_alloc | apply Kd.R_drewN | apply Kd.R_drew)); exact HO347.out) (Kd.R_base ho0) hb); have n1_ := Aside0.mk (Kd.R_elder' (by (with_reducible repeat (first | apply Kd.R_alloc | apply Kd.R_drewN | apply Kd.R_drew)); exact HO349.out) (Kd.R_base ho0) hb); have n2_ := Aside0.mk (Kd.R_lower (Kd.R_new' (Kd.R_new' ho0 (Kd.R_lt (by (with_reducible repeat (first | apply Kd.R_alloc | apply Kd.R_drewN | apply Kd.R_drew)); exact HO347.out))) (Kd.R_lt (by (with_reducible repeat (first | apply Kd.R_alloc | apply Kd.R_drewN | apply Kd.R_drew)); exact HO349.out))) (below_size (by repeat (first | (with_reducible first | exact HB.out | apply below_alloc | apply pw_below_drewN | apply below_drew1) | exact HB.out)))); have n3_ := Aside0.mk (below_step (by repeat (first | (with_reducible first | exact HB.out | apply below_alloc | apply pw_below_drewN | apply below_drew1) | exact HB.out)) hb); clear HO347; clear HO349; clear HB; have HO347 := n0_; have HO349 := n1_; have HO353 := n2_; have HB := n3_; clear n0_ n1_ n2_ n3_; (try clear hb); (try clear hb2); (try clear hk); (try clear hi); (try clear ho0)))
    (try simp only [Act.put, List.setIfInBounds_toArray, List.set_cons_zero, List.set_cons_succ])
    go_cut [53] (fun v53 wc => ∃ (kq : Nat) (x53_5 : Bool), v53 = .bool x53_5 ∧ Aside0 (laws_FnConvByFields.j0 kq t344 t345 x53_5 = some r) ∧ Aside0 (kq ≤ k) ∧ Aside0 (Kd.R (Kd.int .i64) 3 wc w.heap.size (fun k_ => some k_ ≠ ((.slice Ao9 t345.length co9) : Value).ownBlock) (.slice Ao8 t344.length co8) t344) ∧ Aside0 (Kd.R (Kd.int .i64) 3 wc w.heap.size (fun k_ => some k_ ≠ ((.slice Ao8 t344.length co8) : Value).ownBlock) (.slice Ao9 t345.length co9) t345) ∧ Aside0 (Below w.heap.size w wc))
    case first =>
      have H := HC6.out
      clear HC6
      by_cases c11 : t351 = true
      · subst c11
        have H1 : (if (t344.length : Int) > 190 then (laws_FnConvByFields.j0 k t344 t345 true) else (if (t345.length : Int) > 190 then (laws_FnConvByFields.j0 k t344 t345 true) else (if (t344.length : Int) = 0 then (laws_FnConvByFields.j0 k t344 t345 true) else (laws_FnConvByFields.j0 k t344 t345 ((t345.length : Int) == 0))))) = some r := by rw [if_pos rfl] at H; exact H
        clear H
        have H := H1
        clear H1
        by_cases c12 : (t344.length : Int) > 190
        · rw [if_pos c12] at H
          have c12b0 : decide (190 < (t344.length : Int)) = true := decide_eq_true c12
          have c12b1 : decide (190 < t344.length) = true := decide_eq_true (by omega)
          clear c12
          (first | rw [c12b0] | (simp only [i64_w, i32_w]; rw [c12b0]) | skip)
          have H' := Aside0.mk H
          clear H
          go_wp2
          go_meet
          case rel => exact ⟨_, (true), (by first | rfl | (simp; done) | (simp [*]; done)), H', ⟨by first | omega | exact Nat.le_refl _⟩, ⟨by (with_reducible repeat (first | apply Kd.R_alloc | apply Kd.R_drewN | apply Kd.R_drew)); exact Kd.R_mono HO347.out (fun _ hk => hk.1)⟩, ⟨by (with_reducible repeat (first | apply Kd.R_alloc | apply Kd.R_drewN | apply Kd.R_drew)); exact Kd.R_mono HO349.out (fun _ hk => hk.1)⟩, ⟨by repeat (first | (with_reducible first | exact HB.out | apply below_alloc | apply pw_below_drewN | apply below_drew1) | exact HB.out)⟩⟩
        · rw [if_neg c12] at H
          have c12b0 : decide (190 < (t344.length : Int)) = false := decide_eq_false c12
          have c12b1 : decide (190 < t344.length) = false := decide_eq_false (by omega)
          clear c12
          (first | rw [c12b0] | (simp only [i64_w, i32_w]; rw [c12b0]) | skip)
          by_cases c13 : (t345.length : Int) > 190
          · rw [if_pos c13] at H
            have c13b0 : decide (190 < (t345.length : Int)) = true := decide_eq_true c13
            have c13b1 : decide (190 < t345.length) = true := decide_eq_true (by omega)
            clear c13
            have H' := Aside0.mk H
            clear H
            go_wp2
            go_meet
            case rel => exact ⟨_, (true), (by first | rfl | (simp; done) | (simp [*]; done)), H', ⟨by first | omega | exact Nat.le_refl _⟩, ⟨by (with_reducible repeat (first | apply Kd.R_alloc | apply Kd.R_drewN | apply Kd.R_drew)); exact Kd.R_mono HO347.out (fun _ hk => hk.1)⟩, ⟨by (with_reducible repeat (first | apply Kd.R_alloc | apply Kd.R_drewN | apply Kd.R_drew)); exact Kd.R_mono HO349.out (fun _ hk => hk.1)⟩, ⟨by repeat (first | (with_reducible first | exact HB.out | apply below_alloc | apply pw_below_drewN | apply below_drew1) | exact HB.out)⟩⟩
          · rw [if_neg c13] at H
            have c13b0 : decide (190 < (t345.length : Int)) = false := decide_eq_false c13
            have c13b1 : decide (190 < t345.length) = false := decide_eq_false (by omega)
            clear c13
            by_cases c14 : (t344.length : Int) = 0
            · rw [if_pos c14] at H
              have c14b0 : ((t344.length : Int) == 0) = true := beq_iff_eq.mpr c14
              have c14b1 : ((t344.length : Int) != 0) = false := bne_eq_false_iff_eq.mpr c14
              clear c14
              have H' := Aside0.mk H
              clear H
              go_wp2
              go_meet
              case rel => exact ⟨_, (true), (by first | rfl | (simp; done) | (simp [*]; done)), H', ⟨by first | omega | exact Nat.le_refl _⟩, ⟨by (with_reducible repeat (first | apply Kd.R_alloc | apply Kd.R_drewN | apply Kd.R_drew)); exact Kd.R_mono HO347.out (fun _ hk => hk.1)⟩, ⟨by (with_reducible repeat (first | apply Kd.R_alloc | apply Kd.R_drewN | apply Kd.R_drew)); exact Kd.R_mono HO349.out (fun _ hk => hk.1)⟩, ⟨by repeat (first | (with_reducible first | exact HB.out | apply below_alloc | apply pw_below_drewN | apply below_drew1) | exact HB.out)⟩⟩
            · rw [if_neg c14] at H
              have c14b0 : ((t344.length : Int) == 0) = false := beq_eq_false_iff_ne.mpr c14
              have c14b1 : ((t344.length : Int) != 0) = true := bne_iff_ne.mpr c14
              have c14b2 : ¬ (t344 = []) := fun h_ => c14 (by rw [h_]; rfl)
              have H' := Aside0.mk H
              clear H
              go_wp2
              go_meet
              case rel => exact ⟨_, (((t345.length : Int) == 0)), (by first | rfl | (simp; done) | (simp [*]; done)), H', ⟨by first | omega | exact Nat.le_refl _⟩, ⟨by (with_reducible repeat (first | apply Kd.R_alloc | apply Kd.R_drewN | apply Kd.R_drew)); exact Kd.R_mono HO347.out (fun _ hk => hk.1)⟩, ⟨by (with_reducible repeat (first | apply Kd.R_alloc | apply Kd.R_drewN | apply Kd.R_drew)); exact Kd.R_mono HO349.out (fun _ hk => hk.1)⟩, ⟨by repeat (first | (with_reducible first | exact HB.out | apply below_alloc | apply pw_below_drewN | apply below_drew1) | exact HB.out)⟩⟩
      · replace c11 := Bool.eq_false_iff.mpr c11
        subst c11
        have H1 : (laws_FnConvByFields.j0 k t344 t345 true) = some r := by rw [if_neg (show ¬ (false = true) by decide)] at H; exact H
        clear H
        have H := H1
        clear H1
        have H' := Aside0.mk H
        clear H
        go_wp2
        go_meet
        case rel => exact ⟨_, (true), (by first | rfl | (simp; done) | (simp [*]; done)), H', ⟨by first | omega | exact Nat.le_refl _⟩, ⟨by (with_reducible repeat (first | apply Kd.R_alloc | apply Kd.R_drewN | apply Kd.R_drew)); exact Kd.R_mono HO347.out (fun _ hk => hk.1)⟩, ⟨by (with_reducible repeat (first | apply Kd.R_alloc | apply Kd.R_drewN | apply Kd.R_drew)); exact Kd.R_mono HO349.out (fun _ hk => hk.1)⟩, ⟨by repeat (first | (with_reducible first | exact HB.out | apply below_alloc | apply pw_below_drewN | apply below_drew1) | exact HB.out)⟩⟩
    case rest =>
      clear HC6
      try clear c1
      try clear c2
      try clear p2
      try clear c3
      try clear c6
      try clear c11
      try clear c12
      try clear c12b0
      try clear c12b1
      try clear c13
      try clear c13b0
      try clear c13b1
      try clear c14
      try clear c14b0
      try clear c14b1
      try clear c14b2
      obtain ⟨kq, x53_5, rfl, HA, HJ5, HO_3, HO_4, HB⟩ := hcut
      cases kq with
      | zero => exact absurd HA.out (by simp [laws_FnConvByFields.j0])
      | succ kj5 =>
        have H := HA.out
        clear HA
        simp only [laws_FnConvByFields.j0] at H
        by_cases c15 : x53_5 = true
        · subst c15
          have H1 : (some true) = some r := by rw [if_pos rfl] at H; exact H
          clear H
          have H := H1
          clear H1
          obtain rfl := Option.some.inj H
          go_wp2
          go_ret
          exact ⟨by first | rfl | (simp [errW_none, errW_some] <;> rfl) | (simp [*, errW_none, errW_some] <;> rfl), by repeat (first | (with_reducible first | exact HB.out | apply below_alloc | apply pw_below_drewN | apply below_drew1) | exact HB.out)⟩
        · replace c15 := Bool.eq_false_iff.mpr c15
          subst c15
          have H1 : ((laws_cp.f kj5 t344).bind fun t354 => ((laws_cp.f kj5 t345).bind fun t357 => ((impl_ConvExact.f kj5 t354 t357).bind fun bt360 => ((spec_Trim.f kj5 6 t344).bind fun t364 => ((spec_Trim.f kj5 6 t345).bind fun t367 => ((impl_MulPoly.f kj5 6 t364 t367).bind fun bt370 => ((spec_Trim.f kj5 7 t344).bind fun t374 => ((spec_Trim.f kj5 7 t345).bind fun t377 => ((impl_MulPoly.f kj5 7 t374 t377).bind fun bt380 => (if bt360.2 = true then (if bt370.2 = true then (if bt380.2 = true then (laws_FnConvByFields.j1 kj5 t344 t345 bt360.1 bt370.1 bt380.1 ((bt360.1.length : Int) != (wrap64 ((wrap64 ((t344.length : Int) + (t345.length : Int))) - 1)))) else (laws_FnConvByFields.j1 kj5 t344 t345 bt360.1 bt370.1 bt380.1 true)) else (laws_FnConvByFields.j1 kj5 t344 t345 bt360.1 bt370.1 bt380.1 true)) else (laws_FnConvByFields.j1 kj5 t344 t345 bt360.1 bt370.1 bt380.1 true))))))))))) = some r := by rw [if_neg (show ¬ (false = true) by decide)] at H; exact H
          clear H
          have H := H1
          clear H1
          replace H := Option.bind_eq_some_iff.mp H
          obtain ⟨t354, A160, H⟩ := H
          replace H : ((laws_cp.f kj5 t345).bind fun t357 => ((impl_ConvExact.f kj5 t354 t357).bind fun bt360 => ((spec_Trim.f kj5 6 t344).bind fun t364 => ((spec_Trim.f kj5 6 t345).bind fun t367 => ((impl_MulPoly.f kj5 6 t364 t367).bind fun bt370 => ((spec_Trim.f kj5 7 t344).bind fun t374 => ((spec_Trim.f kj5 7 t345).bind fun t377 => ((impl_MulPoly.f kj5 7 t374 t377).bind fun bt380 => (if bt360.2 = true then (if bt370.2 = true then (if bt380.2 = true then (laws_FnConvByFields.j1 kj5 t344 t345 bt360.1 bt370.1 bt380.1 ((bt360.1.length : Int) != (wrap64 ((wrap64 ((t344.length : Int) + (t345.length : Int))) - 1)))) else (laws_FnConvByFields.j1 kj5 t344 t345 bt360.1 bt370.1 bt380.1 true)) else (laws_FnConvByFields.j1 kj5 t344 t345 bt360.1 bt370.1 bt380.1 true)) else (laws_FnConvByFields.j1 kj5 t344 t345 bt360.1 bt370.1 bt380.1 true)))))))))) = some r := H
          have A16 := Aside0.mk A160
          clear A160
          replace H := Option.bind_eq_some_iff.mp H
          obtain ⟨t357, A170, H⟩ := H
          replace H : ((impl_ConvExact.f kj5 t354 t357).bind fun bt360 => ((spec_Trim.f kj5 6 t344).bind fun t364 => ((spec_Trim.f kj5 6 t345).bind fun t367 => ((impl_MulPoly.f kj5 6 t364 t367).bind fun bt370 => ((spec_Trim.f kj5 7 t344).bind fun t374 => ((spec_Trim.f kj5 7 t345).bind fun t377 => ((impl_MulPoly.f kj5 7 t374 t377).bind fun bt380 => (if bt360.2 = true then (if bt370.2 = true then (if bt380.2 = true then (laws_FnConvByFields.j1 kj5 t344 t345 bt360.1 bt370.1 bt380.1 ((bt360.1.length : Int) != (wrap64 ((wrap64 ((t344.length : Int) + (t345.length : Int))) - 1)))) else (laws_FnConvByFields.j1 kj5 t344 t345 bt360.1 bt370.1 bt380.1 true)) else (laws_FnConvByFields.j1 kj5 t344 t345 bt360.1 bt370.1 bt380.1 true)) else (laws_FnConvByFields.j1 kj5 t344 t345 bt360.1 bt370.1 bt380.1 true))))))))) = some r := H
          have A17 := Aside0.mk A170
          clear A170
          replace H := Option.bind_eq_some_iff.mp H
          obtain ⟨⟨t360, t361⟩, A180, H⟩ := H
          replace H : ((spec_Trim.f kj5 6 t344).bind fun t364 => ((spec_Trim.f kj5 6 t345).bind fun t367 => ((impl_MulPoly.f kj5 6 t364 t367).bind fun bt370 => ((spec_Trim.f kj5 7 t344).bind fun t374 => ((spec_Trim.f kj5 7 t345).bind fun t377 => ((impl_MulPoly.f kj5 7 t374 t377).bind fun bt380 => (if t361 = true then (if bt370.2 = true then (if bt380.2 = true then (laws_FnConvByFields.j1 kj5 t344 t345 t360 bt370.1 bt380.1 ((t360.length : Int) != (wrap64 ((wrap64 ((t344.length : Int) + (t345.length : Int))) - 1)))) else (laws_FnConvByFields.j1 kj5 t344 t345 t360 bt370.1 bt380.1 true)) else (laws_FnConvByFields.j1 kj5 t344 t345 t360 bt370.1 bt380.1 true)) else (laws_FnConvByFields.j1 kj5 t344 t345 t360 bt370.1 bt380.1 true)))))))) = some r := H
          have A18 := Aside0.mk A180
          clear A180
          replace H := Option.bind_eq_some_iff.mp H
          obtain ⟨t364, A190, H⟩ := H
          replace H : ((spec_Trim.f kj5 6 t345).bind fun t367 => ((impl_MulPoly.f kj5 6 t364 t367).bind fun bt370 => ((spec_Trim.f kj5 7 t344).bind fun t374 => ((spec_Trim.f kj5 7 t345).bind fun t377 => ((impl_MulPoly.f kj5 7 t374 t377).bind fun bt380 => (if t361 = true then (if bt370.2 = true then (if bt380.2 = true then (laws_FnConvByFields.j1 kj5 t344 t345 t360 bt370.1 bt380.1 ((t360.length : Int) != (wrap64 ((wrap64 ((t344.length : Int) + (t345.length : Int))) - 1)))) else (laws_FnConvByFields.j1 kj5 t344 t345 t360 bt370.1 bt380.1 true)) else (laws_FnConvByFields.j1 kj5 t344 t345 t360 bt370.1 bt380.1 true)) else (laws_FnConvByFields.j1 kj5 t344 t345 t360 bt370.1 bt380.1 true))))))) = some r := H
          have A19 := Aside0.mk A190
          clear A190
          replace H := Option.bind_eq_some_iff.mp H
          obtain ⟨t367, A200, H⟩ := H
          replace H : ((impl_MulPoly.f kj5 6 t364 t367).bind fun bt370 => ((spec_Trim.f kj5 7 t344).bind fun t374 => ((spec_Trim.f kj5 7 t345).bind fun t377 => ((impl_MulPoly.f kj5 7 t374 t377).bind fun bt380 => (if t361 = true then (if bt370.2 = true then (if bt380.2 = true then (laws_FnConvByFields.j1 kj5 t344 t345 t360 bt370.1 bt380.1 ((t360.length : Int) != (wrap64 ((wrap64 ((t344.length : Int) + (t345.length : Int))) - 1)))) else (laws_FnConvByFields.j1 kj5 t344 t345 t360 bt370.1 bt380.1 true)) else (laws_FnConvByFields.j1 kj5 t344 t345 t360 bt370.1 bt380.1 true)) else (laws_FnConvByFields.j1 kj5 t344 t345 t360 bt370.1 bt380.1 true)))))) = some r := H
          have A20 := Aside0.mk A200
          clear A200
          replace H := Option.bind_eq_some_iff.mp H
          obtain ⟨⟨t370, t373⟩, A210, H⟩ := H
          replace H : ((spec_Trim.f kj5 7 t344).bind fun t374 => ((spec_Trim.f kj5 7 t345).bind fun t377 => ((impl_MulPoly.f kj5 7 t374 t377).bind fun bt380 => (if t361 = true then (if t373 = true then (if bt380.2 = true then (laws_FnConvByFields.j1 kj5 t344 t345 t360 t370 bt380.1 ((t360.length : Int) != (wrap64 ((wrap64 ((t344.length : Int) + (t345.length : Int))) - 1)))) else (laws_FnConvByFields.j1 kj5 t344 t345 t360 t370 bt380.1 true)) else (laws_FnConvByFields.j1 kj5 t344 t345 t360 t370 bt380.1 true)) else (laws_FnConvByFields.j1 kj5 t344 t345 t360 t370 bt380.1 true))))) = some r := H
          have A21 := Aside0.mk A210
          clear A210
          replace H := Option.bind_eq_some_iff.mp H
          obtain ⟨t374, A220, H⟩ := H
          replace H : ((spec_Trim.f kj5 7 t345).bind fun t377 => ((impl_MulPoly.f kj5 7 t374 t377).bind fun bt380 => (if t361 = true then (if t373 = true then (if bt380.2 = true then (laws_FnConvByFields.j1 kj5 t344 t345 t360 t370 bt380.1 ((t360.length : Int) != (wrap64 ((wrap64 ((t344.length : Int) + (t345.length : Int))) - 1)))) else (laws_FnConvByFields.j1 kj5 t344 t345 t360 t370 bt380.1 true)) else (laws_FnConvByFields.j1 kj5 t344 t345 t360 t370 bt380.1 true)) else (laws_FnConvByFields.j1 kj5 t344 t345 t360 t370 bt380.1 true)))) = some r := H
          have A22 := Aside0.mk A220
          clear A220
          replace H := Option.bind_eq_some_iff.mp H
          obtain ⟨t377, A230, H⟩ := H
          replace H : ((impl_MulPoly.f kj5 7 t374 t377).bind fun bt380 => (if t361 = true then (if t373 = true then (if bt380.2 = true then (laws_FnConvByFields.j1 kj5 t344 t345 t360 t370 bt380.1 ((t360.length : Int) != (wrap64 ((wrap64 ((t344.length : Int) + (t345.length : Int))) - 1)))) else (laws_FnConvByFields.j1 kj5 t344 t345 t360 t370 bt380.1 true)) else (laws_FnConvByFields.j1 kj5 t344 t345 t360 t370 bt380.1 true)) else (laws_FnConvByFields.j1 kj5 t344 t345 t360 t370 bt380.1 true))) = some r := H
          have A23 := Aside0.mk A230
          clear A230
          replace H := Option.bind_eq_some_iff.mp H
          obtain ⟨⟨t380, t383⟩, A240, H⟩ := H
          replace H : (if t361 = true then (if t373 = true then (if t383 = true then (laws_FnConvByFields.j1 kj5 t344 t345 t360 t370 t380 ((t360.length : Int) != (wrap64 ((wrap64 ((t344.length : Int) + (t345.length : Int))) - 1)))) else (laws_FnConvByFields.j1 kj5 t344 t345 t360 t370 t380 true)) else (laws_FnConvByFields.j1 kj5 t344 t345 t360 t370 t380 true)) else (laws_FnConvByFields.j1 kj5 t344 t345 t360 t370 t380 true)) = some r := H
          have A24 := Aside0.mk A240
          clear A240
          have HC25 := Aside0.mk H
          clear H
          go_upto_region 10 with (first | ((with_reducible refine gate_callee (f := 26) rfl ?_); refine goesL_ (some 56) rfl rfl Try.func26 (by kernel_rfl) rfl #[.slice Ao8 t344.length co8] rfl (by (try simp only [List.map_toArray, List.map_cons, List.map_nil]); first | done | rfl | (simp only [List.length_drop, List.length_take]; rfl)) ?_; (with_reducible refine (laws_cp.calls kj5 _ _ t344 t354 _ ?side1 ?side2 A16.out).mono ?_); (case side1 => repeat (first | exact (Kd.R_reads' HO_3.out).2.2 | (with_reducible refine Kd.C_alloc ?_ _) | (with_reducible refine Kd.C_drewN ?_ _) | (with_reducible refine Kd.C_drew ?_))); (case side2 => exact (Kd.R_reads' HO_3.out).2.1); rintro e w26 ⟨v355, rfl, ho0, hb⟩; refine ⟨_, rfl, ?_⟩; have n0_ := Aside0.mk (Kd.R_elder' (by (with_reducible repeat (first | apply Kd.R_alloc | apply Kd.R_drewN | apply Kd.R_drew)); exact HO_3.out) (Kd.R_base ho0) hb); have n1_ := Aside0.mk (Kd.R_elder' (by (with_reducible repeat (first | apply Kd.R_alloc | apply Kd.R_drewN | apply Kd.R_drew)); exact HO_4.out) (Kd.R_base ho0) hb); have n2_ := Aside0.mk (Kd.R_lower (Kd.R_new' (Kd.R_new' ho0 (Kd.R_lt (by (with_reducible repeat (first | apply Kd.R_alloc | apply Kd.R_drewN | apply Kd.R_drew)); exact HO_3.out))) (Kd.R_lt (by (with_reducible repeat (first | apply Kd.R_alloc | apply Kd.R_drewN | apply Kd.R_drew)); exact HO_4.out))) (below_size (by repeat (first | (with_reducible first | exact HB.out | apply below_alloc | apply pw_below_drewN | apply below_drew1) | exact HB.out)))); have n3_ := Aside0.mk (below_step (by repeat (first | (with_reducible first | exact HB.out | apply below_alloc | apply pw_below_drewN | apply below_drew1) | exact HB.out)) hb); clear HO_3; clear HO_4; clear HB; have HO_3 := n0_; have HO_4 := n1_; have HO356 := n2_; have HB := n3_; clear n0_ n1_ n2_ n3_; (try clear hb); (try clear hb2); (try clear hk); (try clear hi); (try clear ho0)) | ((with_reducible refine gate_callee (f := 26) rfl ?_); refine goesL_ (some 58) rfl rfl Try.func26 (by kernel_rfl) rfl #[.slice Ao9 t345.length co9] rfl (by (try simp only [List.map_toArray, List.map_cons, List.map_nil]); first | done | rfl | (simp only [List.length_drop, List.length_take]; rfl)) ?_; (with_reducible refine (laws_cp.calls kj5 _ _ t345 t357 _ ?side1 ?side2 A17.out).mono ?_); (case side1 => repeat (first | exact (Kd.R_reads' HO_4.out).2.2 | (with_reducible refine Kd.C_alloc ?_ _) | (with_reducible refine Kd.C_drewN ?_ _) | (with_reducible refine Kd.C_drew ?_))); (case side2 => exact (Kd.R_reads' HO_4.out).2.1); rintro e w27 ⟨v358, rfl, ho0, hb⟩; refine ⟨_, rfl, ?_⟩; have n0_ := Aside0.mk (Kd.R_elder' (by (with_reducible repeat (first | apply Kd.R_alloc | apply Kd.R_drewN | apply Kd.R_drew)); exact HO_3.out) (Kd.R_base ho0) hb); have n1_ := Aside0.mk (Kd.R_elder' (by (with_reducible repeat (first | apply Kd.R_alloc | apply Kd.R_drewN | apply Kd.R_drew)); exact HO_4.out) (Kd.R_base ho0) hb); have n2_ := Aside0.mk (Kd.R_elder' (by (with_reducible repeat (first | apply Kd.R_alloc | apply Kd.R_drewN | apply Kd.R_drew)); exact HO356.out) (Kd.R_base ho0) hb); have n3_ := Aside0.mk (Kd.R_lower (Kd.R_new' (Kd.R_new' (Kd.R_new' ho0 (Kd.R_lt (by (with_reducible repeat (first | apply Kd.R_alloc | apply Kd.R_drewN | apply Kd.R_drew)); exact HO_3.out))) (Kd.R_lt (by (with_reducible repeat (first | apply Kd.R_alloc | apply Kd.R_drewN | apply Kd.R_drew)); exact HO_4.out))) (Kd.R_lt (by (with_reducible repeat (first | apply Kd.R_alloc | apply Kd.R_drewN | apply Kd.R_drew)); exact HO356.out))) (below_size (by repeat (first | (with_reducible first | exact HB.out | apply below_alloc | apply pw_below_drewN | apply below_drew1) | exact HB.out)))); have n4_ := Aside0.mk (below_step (by repeat (first | (with_reducible first | exact HB.out | apply below_alloc | apply pw_below_drewN | apply below_drew1) | exact HB.out)) hb); clear HO_3; clear HO_4; clear HO356; clear HB; have HO_3 := n0_; have HO_4 := n1_; have HO356 := n2_; have HO359 := n3_; have HB := n4_; clear n0_ n1_ n2_ n3_ n4_; (try clear hb); (try clear hb2); (try clear hk); (try clear hi); (try clear ho0); obtain ⟨Ao28, co28, eo28⟩ := Kd.R_slice HO356.out; subst eo28; obtain ⟨Ao29, co29, eo29⟩ := Kd.R_slice HO359.out; subst eo29) | ((with_reducible refine gate_callee (f := 25) rfl ?_); refine goesL_ (some 59) rfl rfl Try.func25 (by kernel_rfl) rfl #[.slice Ao28 t354.length co28, .slice Ao29 t357.length co29] rfl (by (try simp only [List.map_toArray, List.map_cons, List.map_nil]); first | done | rfl | (simp only [List.length_drop, List.length_take]; rfl)) ?_; (with_reducible refine (impl_ConvExact.calls kj5 _ _ t354 _ _ t357 t360 t361 _ ?side1 ?side2 ?side3 ?side4 A18.out).mono ?_); (case side1 => repeat (first | exact (Kd.R_reads' HO356.out).2.2 | (with_reducible refine Kd.C_alloc ?_ _) | (with_reducible refine Kd.C_drewN ?_ _) | (with_reducible refine Kd.C_drew ?_))); (case side2 => exact (Kd.R_reads' HO356.out).2.1); (case side3 => repeat (first | exact (Kd.R_reads' HO359.out).2.2 | (with_reducible refine Kd.C_alloc ?_ _) | (with_reducible refine Kd.C_drewN ?_ _) | (with_reducible refine Kd.C_drew ?_))); (case side4 => exact (Kd.R_reads' HO359.out).2.1); rintro e w30 ⟨v362, rfl, ho0, hb⟩; refine ⟨_, rfl, ?_⟩; have n0_ := Aside0.mk (Kd.R_elder' (by (with_reducible repeat (first | apply Kd.R_alloc | apply Kd.R_drewN | apply Kd.R_drew)); exact HO_3.out) (Kd.R_base ho0) hb); have n1_ := Aside0.mk (Kd.R_elder' (by (with_reducible repeat (first | apply Kd.R_alloc | apply Kd.R_drewN | apply Kd.R_drew)); exact HO_4.out) (Kd.R_base ho0) hb); have n2_ := Aside0.mk (Kd.R_elder' (by (with_reducible repeat (first | apply Kd.R_alloc | apply Kd.R_drewN | apply Kd.R_drew)); exact HO356.out) (Kd.R_base ho0) hb); have n3_ := Aside0.mk (Kd.R_elder' (by (with_reducible repeat (first | apply Kd.R_alloc | apply Kd.R_drewN | apply Kd.R_drew)); exact HO359.out) (Kd.R_base ho0) hb); have n4_ := Aside0.mk (Kd.R_lower (Kd.R_new' (Kd.R_new' (Kd.R_new' (Kd.R_new' ho0 (Kd.R_lt (by (with_reducible repeat (first | apply Kd.R_alloc | apply Kd.R_drewN | apply Kd.R_drew)); exact HO_3.out))) (Kd.R_lt (by (with_reducible repeat (first | apply Kd.R_alloc | apply Kd.R_drewN | apply Kd.R_drew)); exact HO_4.out))) (Kd.R_lt (by (with_reducible repeat (first | apply Kd.R_alloc | apply Kd.R_drewN | apply Kd.R_drew)); exact HO356.out))) (Kd.R_lt (by (with_reducible repeat (first | apply Kd.R_alloc | apply Kd.R_drewN | apply Kd.R_drew)); exact HO359.out))) (below_size (by repeat (first | (with_reducible first | exact HB.out | apply below_alloc | apply pw_below_drewN | apply below_drew1) | exact HB.out)))); have n5_ := Aside0.mk (below_step (by repeat (first | (with_reducible first | exact HB.out | apply below_alloc | apply pw_below_drewN | apply below_drew1) | exact HB.out)) hb); clear HO_3; clear HO_4; clear HO356; clear HO359; clear HB; have HO_3 := n0_; have HO_4 := n1_; have HO356 := n2_; have HO359 := n3_; have HO363 := n4_; have HB := n5_; clear n0_ n1_ n2_ n3_ n4_ n5_; (try clear hb); (try clear hb2); (try clear hk); (try clear hi); (try clear ho0)) | ((with_reducible refine gate_callee (f := 28) rfl ?_); refine goesL_ (some 64) rfl rfl Try.func28 (by kernel_rfl) rfl #[.int .i64 6, .slice Ao8 t344.length co8] rfl (by (try simp only [List.map_toArray, List.map_cons, List.map_nil]); first | done | rfl | (simp only [List.length_drop, List.length_take]; rfl)) ?_; (with_reducible refine (spec_Trim.calls kj5 6 _ _ t344 t364 _ ?side1 ?side2 A19.out).mono ?_); (case side1 => repeat (first | exact (Kd.R_reads' HO_3.out).2.2 | (with_reducible refine Kd.C_alloc ?_ _) | (with_reducible refine Kd.C_drewN ?_ _) | (with_reducible refine Kd.C_drew ?_))); (case side2 => exact (Kd.R_reads' HO_3.out).2.1); rintro e w31 ⟨v365, rfl, ho0, hb⟩; refine ⟨_, rfl, ?_⟩; have n0_ := Aside0.mk (Kd.R_elder' (by (with_reducible repeat (first | apply Kd.R_alloc | apply Kd.R_drewN | apply Kd.R_drew)); exact HO_3.out) (Kd.R_base ho0) hb); have n1_ := Aside0.mk (Kd.R_elder' (by (with_reducible repeat (first | apply Kd.R_alloc | apply Kd.R_drewN | apply Kd.R_drew)); exact HO_4.out) (Kd.R_base ho0) hb); have n2_ := Aside0.mk (Kd.R_elder' (by (with_reducible repeat (first | apply Kd.R_alloc | apply Kd.R_drewN | apply Kd.R_drew)); exact HO356.out) (Kd.R_base ho0) hb); have n3_ := Aside0.mk (Kd.R_elder' (by (with_reducible repeat (first | apply Kd.R_alloc | apply Kd.R_drewN | apply Kd.R_drew)); exact HO359.out) (Kd.R_base ho0) hb); have n4_ := Aside0.mk (Kd.R_elder' (by (with_reducible repeat (first | apply Kd.R_alloc | apply Kd.R_drewN | apply Kd.R_drew)); exact HO363.out) (Kd.R_base ho0) hb); have n5_ := Aside0.mk (Kd.R_lower (Kd.R_new' (Kd.R_new' (Kd.R_new' (Kd.R_new' (Kd.R_new' ho0 (Kd.R_lt (by (with_reducible repeat (first | apply Kd.R_alloc | apply Kd.R_drewN | apply Kd.R_drew)); exact HO_3.out))) (Kd.R_lt (by (with_reducible repeat (first | apply Kd.R_alloc | apply Kd.R_drewN | apply Kd.R_drew)); exact HO_4.out))) (Kd.R_lt (by (with_reducible repeat (first | apply Kd.R_alloc | apply Kd.R_drewN | apply Kd.R_drew)); exact HO356.out))) (Kd.R_lt (by (with_reducible repeat (first | apply Kd.R_alloc | apply Kd.R_drewN | apply Kd.R_drew)); exact HO359.out))) (Kd.R_lt (by (with_reducible repeat (first | apply Kd.R_alloc | apply Kd.R_drewN | apply Kd.R_drew)); exact HO363.out))) (below_size (by repeat (first | (with_reducible first | exact HB.out | apply below_alloc | apply pw_below_drewN | apply below_drew1) | exact HB.out)))); have n6_ := Aside0.mk (below_step (by repeat (first | (with_reducible first | exact HB.out | apply below_alloc | apply pw_below_drewN | apply below_drew1) | exact HB.out)) hb); clear HO_3; clear HO_4; clear HO356; clear HO359; clear HO363; clear HB; have HO_3 := n0_; have HO_4 := n1_; have HO356 := n2_; have HO359 := n3_; have HO363 := n4_; have HO366 := n5_; have HB := n6_; clear n0_ n1_ n2_ n3_ n4_ n5_ n6_; (try clear hb); (try clear hb2); (try clear hk); (try clear hi); (try clear ho0)) | ((with_reducible refine gate_callee (f := 28) rfl ?_); refine goesL_ (some 66) rfl rfl Try.func28 (by kernel_rfl) rfl #[.int .i64 6, .slice Ao9 t345.length co9] rfl (by (try simp only [List.map_toArray, List.map_cons, List.map_nil]); first | done | rfl | (simp only [List.length_drop, List.length_take]; rfl)) ?_; (with_reducible refine (spec_Trim.calls kj5 6 _ _ t345 t367 _ ?side1 ?side2 A20.out).mono ?_); (case side1 => repeat (first | exact (Kd.R_reads' HO_4.out).2.2 | (with_reducible refine Kd.C_alloc ?_ _) | (with_reducible refine Kd.C_drewN ?_ _) | (with_reducible refine Kd.C_drew ?_))); (case side2 => exact (Kd.R_reads' HO_4.out).2.1); rintro e w32 ⟨v368, rfl, ho0, hb⟩; refine ⟨_, rfl, ?_⟩; have n0_ := Aside0.mk (Kd.R_elder' (by (with_reducible repeat (first | apply Kd.R_alloc | apply Kd.R_drewN | apply Kd.R_drew)); exact HO_3.out) (Kd.R_base ho0) hb); have n1_ := Aside0.mk (Kd.R_elder' (by (with_reducible repeat (first | apply Kd.R_alloc | apply Kd.R_drewN | apply Kd.R_drew)); exact HO_4.out) (Kd.R_base ho0) hb); have n2_ := Aside0.mk (Kd.R_elder' (by (with_reducible repeat (first | apply Kd.R_alloc | apply Kd.R_drewN | apply Kd.R_drew)); exact HO356.out) (Kd.R_base ho0) hb); have n3_ := Aside0.mk (Kd.R_elder' (by (with_reducible repeat (first | apply Kd.R_alloc | apply Kd.R_drewN | apply Kd.R_drew)); exact HO359.out) (Kd.R_base ho0) hb); have n4_ := Aside0.mk (Kd.R_elder' (by (with_reducible repeat (first | apply Kd.R_alloc | apply Kd.R_drewN | apply Kd.R_drew)); exact HO363.out) (Kd.R_base ho0) hb); have n5_ := Aside0.mk (Kd.R_elder' (by (with_reducible repeat (first | apply Kd.R_alloc | apply Kd.R_drewN | apply Kd.R_drew)); exact HO366.out) (Kd.R_base ho0) hb); have n6_ := Aside0.mk (Kd.R_lower (Kd.R_new' (Kd.R_new' (Kd.R_new' (Kd.R_new' (Kd.R_new' (Kd.R_new' ho0 (Kd.R_lt (by (with_reducible repeat (first | apply Kd.R_alloc | apply Kd.R_drewN | apply Kd.R_drew)); exact HO_3.out))) (Kd.R_lt (by (with_reducible repeat (first | apply Kd.R_alloc | apply Kd.R_drewN | apply Kd.R_drew)); exact HO_4.out))) (Kd.R_lt (by (with_reducible repeat (first | apply Kd.R_alloc | apply Kd.R_drewN | apply Kd.R_drew)); exact HO356.out))) (Kd.R_lt (by (with_reducible repeat (first | apply Kd.R_alloc | apply Kd.R_drewN | apply Kd.R_drew)); exact HO359.out))) (Kd.R_lt (by (with_reducible repeat (first | apply Kd.R_alloc | apply Kd.R_drewN | apply Kd.R_drew)); exact HO363.out))) (Kd.R_lt (by (with_reducible repeat (first | apply Kd.R_alloc | apply Kd.R_drewN | apply Kd.R_drew)); exact HO366.out))) (below_size (by repeat (first | (with_reducible first | exact HB.out | apply below_alloc | apply pw_below_drewN | apply below_drew1) | exact HB.out)))); have n7_ := Aside0.mk (below_step (by repeat (first | (with_reducible first | exact HB.out | apply below_alloc | apply pw_below_drewN | apply below_drew1) | exact HB.out)) hb); clear HO_3; clear HO_4; clear HO356; clear HO359; clear HO363; clear HO366; clear HB; have HO_3 := n0_; have HO_4 := n1_; have HO356 := n2_; have HO359 := n3_; have HO363 := n4_; have HO366 := n5_; have HO369 := n6_; have HB := n7_; clear n0_ n1_ n2_ n3_ n4_ n5_ n6_ n7_; (try clear hb); (try clear hb2); (try clear hk); (try clear hi); (try clear ho0); obtain ⟨Ao33, co33, eo33⟩ := Kd.R_slice HO366.out; subst eo33; obtain ⟨Ao34, co34, eo34⟩ := Kd.R_slice HO369.out; subst eo34) | ((with_reducible refine gate_callee (f := 27) rfl ?_); refine goesL_ (some 67) rfl rfl Try.func27 (by kernel_rfl) rfl #[.int .i64 6, .slice Ao33 t364.length co33, .slice Ao34 t367.length co34] rfl (by (try simp only [List.map_toArray, List.map_cons, List.map_nil]); first | done | rfl | (simp only [List.length_drop, List.length_take]; rfl)) ?_; (with_reducible refine (impl_MulPoly.calls kj5 6 (fun k_ => some k_ = (.slice Ao33 t364.length co33 : Value).ownBlock) _ _ t364 (fun k_ => some k_ = (.slice Ao34 t367.length co34 : Value).ownBlock) _ _ t367 t370 t373 _ ?side1 ?side2 A21.out).mono ?_); (case side1 => exact Kd.R_V (Kd.R_tight rfl (HO366.out))); (case side2 => exact Kd.R_V (Kd.R_tight rfl (HO369.out))); rintro e w35 ⟨v371, rfl, ho0, hb⟩; refine ⟨_, rfl, ?_⟩; have n0_ := Aside0.mk (Kd.R_below (by (with_reducible repeat (first | apply Kd.R_alloc | apply Kd.R_drewN | apply Kd.R_drew)); exact HO_3.out) hb); have n1_ := Aside0.mk (Kd.R_below (by (with_reducible repeat (first | apply Kd.R_alloc | apply Kd.R_drewN | apply Kd.R_drew)); exact HO_4.out) hb); have n2_ := Aside0.mk (Kd.R_below (by (with_reducible repeat (first | apply Kd.R_alloc | apply Kd.R_drewN | apply Kd.R_drew)); exact HO356.out) hb); have n3_ := Aside0.mk (Kd.R_below (by (with_reducible repeat (first | apply Kd.R_alloc | apply Kd.R_drewN | apply Kd.R_drew)); exact HO359.out) hb); have n4_ := Aside0.mk (Kd.R_below (by (with_reducible repeat (first | apply Kd.R_alloc | apply Kd.R_drewN | apply Kd.R_drew)); exact HO363.out) hb); have n5_ := Aside0.mk (Kd.R_below (by (with_reducible repeat (first | apply Kd.R_alloc | apply Kd.R_drewN | apply Kd.R_drew)); exact HO366.out) hb); have n6_ := Aside0.mk (Kd.R_below (by (with_reducible repeat (first | apply Kd.R_alloc | apply Kd.R_drewN | apply Kd.R_drew)); exact HO369.out) hb); have n7_ := Aside0.mk (Kd.V_lower (Kd.V_mono (ok' := fun k_ => some k_ ≠ (.slice Ao8 t344.length co8 : Value).ownBlock ∧ some k_ ≠ (.slice Ao9 t345.length co9 : Value).ownBlock ∧ some k_ ≠ (.slice Ao28 t354.length co28 : Value).ownBlock ∧ some k_ ≠ (.slice Ao29 t357.length co29 : Value).ownBlock ∧ some k_ ≠ (v362 : Value).ownBlock) ho0 (fun k_ hk_ => ⟨Or.elim hk_ (fun hs_ => Or.elim hs_ (fun hs_ => ((HO366.out).1 k_ hs_.symm).1.1.1.1.1.2) (fun hs_ => ((HO369.out).1 k_ hs_.symm).1.1.1.1.1.2)) (fun hn_ => (Kd.fresh' (Kd.R_lt (by (with_reducible repeat (first | apply Kd.R_alloc | apply Kd.R_drewN | apply Kd.R_drew)); exact HO_3.out)) k_ hn_)), Or.elim hk_ (fun hs_ => Or.elim hs_ (fun hs_ => ((HO366.out).1 k_ hs_.symm).1.1.1.1.2) (fun hs_ => ((HO369.out).1 k_ hs_.symm).1.1.1.1.2)) (fun hn_ => (Kd.fresh' (Kd.R_lt (by (with_reducible repeat (first | apply Kd.R_alloc | apply Kd.R_drewN | apply Kd.R_drew)); exact HO_4.out)) k_ hn_)), Or.elim hk_ (fun hs_ => Or.elim hs_ (fun hs_ => ((HO366.out).1 k_ hs_.symm).1.1.1.2) (fun hs_ => ((HO369.out).1 k_ hs_.symm).1.1.1.2)) (fun hn_ => (Kd.fresh' (Kd.R_lt (by (with_reducible repeat (first | apply Kd.R_alloc | apply Kd.R_drewN | apply Kd.R_drew)); exact HO356.out)) k_ hn_)), Or.elim hk_ (fun hs_ => Or.elim hs_ (fun hs_ => ((HO366.out).1 k_ hs_.symm).1.1.2) (fun hs_ => ((HO369.out).1 k_ hs_.symm).1.1.2)) (fun hn_ => (Kd.fresh' (Kd.R_lt (by (with_reducible repeat (first | apply Kd.R_alloc | apply Kd.R_drewN | apply Kd.R_drew)); exact HO359.out)) k_ hn_)), Or.elim hk_ (fun hs_ => Or.elim hs_ (fun hs_ => ((HO366.out).1 k_ hs_.symm).1.2) (fun hs_ => ((HO369.out).1 k_ hs_.symm).1.2)) (fun hn_ => (Kd.fresh' (Kd.R_lt (by (with_reducible repeat (first | apply Kd.R_alloc | apply Kd.R_drewN | apply Kd.R_drew)); exact HO363.out)) k_ hn_))⟩)) (below_size (by repeat (first | (with_reducible first | exact HB.out | apply below_alloc | apply pw_below_drewN | apply below_drew1) | exact HB.out)))); have n8_ := Aside0.mk (below_step (by repeat (first | (with_reducible first | exact HB.out | apply below_alloc | apply pw_below_drewN | apply below_drew1) | exact HB.out)) hb); clear HO_3; clear HO_4; clear HO356; clear HO359; clear HO363; clear HO366; clear HO369; clear HB; have HO_3 := n0_; have HO_4 := n1_; have HO356 := n2_; have HO359 := n3_; have HO363 := n4_; have HO366 := n5_; have HO369 := n6_; have HO372 := n7_; have HB := n8_; clear n0_ n1_ n2_ n3_ n4_ n5_ n6_ n7_ n8_; (try clear hb); (try clear hb2); (try clear hk); (try clear hi); (try clear ho0)) | ((with_reducible refine gate_callee (f := 28) rfl ?_); refine goesL_ (some 72) rfl rfl Try.func28 (by kernel_rfl) rfl #[.int .i64 7, .slice Ao8 t344.length co8] rfl (by (try simp only [List.map_toArray, List.map_cons, List.map_nil]); first | done | rfl | (simp only [List.length_drop, List.length_take]; rfl)) ?_; (with_reducible refine (spec_Trim.calls kj5 7 _ _ t344 t374 _ ?side1 ?side2 A22.out).mono ?_); (case side1 => repeat (first | exact (Kd.R_reads' HO_3.out).2.2 | (with_reducible refine Kd.C_alloc ?_ _) | (with_reducible refine Kd.C_drewN ?_ _) | (with_reducible refine Kd.C_drew ?_))); (case side2 => exact (Kd.R_reads' HO_3.out).2.1); rintro e w36 ⟨v375, rfl, ho0, hb⟩; refine ⟨_, rfl, ?_⟩; have n0_ := Aside0.mk (Kd.R_elder' (by (with_reducible repeat (first | apply Kd.R_alloc | apply Kd.R_drewN | apply Kd.R_drew)); exact HO_3.out) (Kd.R_base ho0) hb); have n1_ := Aside0.mk (Kd.R_elder' (by (with_reducible repeat (first | apply Kd.R_alloc | apply Kd.R_drewN | apply Kd.R_drew)); exact HO_4.out) (Kd.R_base ho0) hb); have n2_ := Aside0.mk (Kd.R_elder' (by (with_reducible repeat (first | apply Kd.R_alloc | apply Kd.R_drewN | apply Kd.R_drew)); exact HO356.out) (Kd.R_base ho0) hb); have n3_ := Aside0.mk (Kd.R_elder' (by (with_reducible repeat (first | apply Kd.R_alloc | apply Kd.R_drewN | apply Kd.R_drew)); exact HO359.out) (Kd.R_base ho0) hb); have n4_ := Aside0.mk (Kd.R_elder' (by (with_reducible repeat (first | apply Kd.R_alloc | apply Kd.R_drewN | apply Kd.R_drew)); exact HO363.out) (Kd.R_base ho0) hb); have n5_ := Aside0.mk (Kd.R_elder' (by (with_reducible repeat (first | apply Kd.R_alloc | apply Kd.R_drewN | apply Kd.R_drew)); exact HO366.out) (Kd.R_base ho0) hb); have n6_ := Aside0.mk (Kd.R_elder' (by (with_reducible repeat (first | apply Kd.R_alloc | apply Kd.R_drewN | apply Kd.R_drew)); exact HO369.out) (Kd.R_base ho0) hb); have n7_ := Aside0.mk (Kd.V_elder' (by (with_reducible repeat (first | apply Kd.V_alloc | apply Kd.V_drewN | apply Kd.V_drew)); exact HO372.out) (Kd.R_base ho0) hb); have n8_ := Aside0.mk (Kd.R_lower (Kd.R_new' (Kd.R_new' (Kd.R_new' (Kd.R_new' (Kd.R_new' (Kd.R_new' (Kd.R_new' ho0 (Kd.R_lt (by (with_reducible repeat (first | apply Kd.R_alloc | apply Kd.R_drewN | apply Kd.R_drew)); exact HO_3.out))) (Kd.R_lt (by (with_reducible repeat (first | apply Kd.R_alloc | apply Kd.R_drewN | apply Kd.R_drew)); exact HO_4.out))) (Kd.R_lt (by (with_reducible repeat (first | apply Kd.R_alloc | apply Kd.R_drewN | apply Kd.R_drew)); exact HO356.out))) (Kd.R_lt (by (with_reducible repeat (first | apply Kd.R_alloc | apply Kd.R_drewN | apply Kd.R_drew)); exact HO359.out))) (Kd.R_lt (by (with_reducible repeat (first | apply Kd.R_alloc | apply Kd.R_drewN | apply Kd.R_drew)); exact HO363.out))) (Kd.R_lt (by (with_reducible repeat (first | apply Kd.R_alloc | apply Kd.R_drewN | apply Kd.R_drew)); exact HO366.out))) (Kd.R_lt (by (with_reducible repeat (first | apply Kd.R_alloc | apply Kd.R_drewN | apply Kd.R_drew)); exact HO369.out))) (below_size (by repeat (first | (with_reducible first | exact HB.out | apply below_alloc | apply pw_below_drewN | apply below_drew1) | exact HB.out)))); have n9_ := Aside0.mk (below_step (by repeat (first | (with_reducible first | exact HB.out | apply below_alloc | apply pw_below_drewN | apply below_drew1) | exact HB.out)) hb); clear HO_3; clear HO_4; clear HO356; clear HO359; clear HO363; clear HO366; clear HO369; clear HO372; clear HB; have HO_3 := n0_; have HO_4 := n1_; have HO356 := n2_; have HO359 := n3_; have HO363 := n4_; have HO366 := n5_; have HO369 := n6_; have HO372 := n7_; have HO376 := n8_; have HB := n9_; clear n0_ n1_ n2_ n3_ n4_ n5_ n6_ n7_ n8_ n9_; (try clear hb); (try clear hb2); (try clear hk); (try clear hi); (try clear ho0)) | ((with_reducible refine gate_callee (f := 28) rfl ?_); refine goesL_ (some 74) rfl rfl Try.func28 (by kernel_rfl) rfl #[.int .i64 7, .slice Ao9 t345.length co9] rfl (by (try simp only [List.map_toArray, List.map_cons, List.map_nil]); first | done | rfl | (simp only [List.length_drop, List.length_take]; rfl)) ?_; (with_reducible refine (spec_Trim.calls kj5 7 _ _ t345 t377 _ ?side1 ?side2 A23.out).mono ?_); (case side1 => repeat (first | exact (Kd.R_reads' HO_4.out).2.2 | (with_reducible refine Kd.C_alloc ?_ _) | (with_reducible refine Kd.C_drewN ?_ _) | (with_reducible refine Kd.C_drew ?_))); (case side2 => exact (Kd.R_reads' HO_4.out).2.1); rintro e w37 ⟨v378, rfl, ho0, hb⟩; refine ⟨_, rfl, ?_⟩; have n0_ := Aside0.mk (Kd.R_elder' (by (with_reducible repeat (first | apply Kd.R_alloc | apply Kd.R_drewN | apply Kd.R_drew)); exact HO_3.out) (Kd.R_base ho0) hb); have n1_ := Aside0.mk (Kd.R_elder' (by (with_reducible repeat (first | apply Kd.R_alloc | apply Kd.R_drewN | apply Kd.R_drew)); exact HO_4.out) (Kd.R_base ho0) hb); have n2_ := Aside0.mk (Kd.R_elder' (by (with_reducible repeat (first | apply Kd.R_alloc | apply Kd.R_drewN | apply Kd.R_drew)); exact HO356.out) (Kd.R_base ho0) hb); have n3_ := Aside0.mk (Kd.R_elder' (by (with_reducible repeat (first | apply Kd.R_alloc | apply Kd.R_drewN | apply Kd.R_drew)); exact HO359.out) (Kd.R_base ho0) hb); have n4_ := Aside0.mk (Kd.R_elder' (by (with_reducible repeat (first | apply Kd.R_alloc | apply Kd.R_drewN | apply Kd.R_drew)); exact HO363.out) (Kd.R_base ho0) hb); have n5_ := Aside0.mk (Kd.R_elder' (by (with_reducible repeat (first | apply Kd.R_alloc | apply Kd.R_drewN | apply Kd.R_drew)); exact HO366.out) (Kd.R_base ho0) hb); have n6_ := Aside0.mk (Kd.R_elder' (by (with_reducible repeat (first | apply Kd.R_alloc | apply Kd.R_drewN | apply Kd.R_drew)); exact HO369.out) (Kd.R_base ho0) hb); have n7_ := Aside0.mk (Kd.V_elder' (by (with_reducible repeat (first | apply Kd.V_alloc | apply Kd.V_drewN | apply Kd.V_drew)); exact HO372.out) (Kd.R_base ho0) hb); have n8_ := Aside0.mk (Kd.R_elder' (by (with_reducible repeat (first | apply Kd.R_alloc | apply Kd.R_drewN | apply Kd.R_drew)); exact HO376.out) (Kd.R_base ho0) hb); have n9_ := Aside0.mk (Kd.R_lower (Kd.R_new' (Kd.R_new' (Kd.R_new' (Kd.R_new' (Kd.R_new' (Kd.R_new' (Kd.R_new' (Kd.R_new' ho0 (Kd.R_lt (by (with_reducible repeat (first | apply Kd.R_alloc | apply Kd.R_drewN | apply Kd.R_drew)); exact HO_3.out))) (Kd.R_lt (by (with_reducible repeat (first | apply Kd.R_alloc | apply Kd.R_drewN | apply Kd.R_drew)); exact HO_4.out))) (Kd.R_lt (by (with_reducible repeat (first | apply Kd.R_alloc | apply Kd.R_drewN | apply Kd.R_drew)); exact HO356.out))) (Kd.R_lt (by (with_reducible repeat (first | apply Kd.R_alloc | apply Kd.R_drewN | apply Kd.R_drew)); exact HO359.out))) (Kd.R_lt (by (with_reducible repeat (first | apply Kd.R_alloc | apply Kd.R_drewN | apply Kd.R_drew)); exact HO363.out))) (Kd.R_lt (by (with_reducible repeat (first | apply Kd.R_alloc | apply Kd.R_drewN | apply Kd.R_drew)); exact HO366.out))) (Kd.R_lt (by (with_reducible repeat (first | apply Kd.R_alloc | apply Kd.R_drewN | apply Kd.R_drew)); exact HO369.out))) (Kd.R_lt (by (with_reducible repeat (first | apply Kd.R_alloc | apply Kd.R_drewN | apply Kd.R_drew)); exact HO376.out))) (below_size (by repeat (first | (with_reducible first | exact HB.out | apply below_alloc | apply pw_below_drewN | apply below_drew1) | exact HB.out)))); have n10_ := Aside0.mk (below_step (by repeat (first | (with_reducible first | exact HB.out | apply below_alloc | apply pw_below_drewN | apply below_drew1) | exact HB.out)) hb); clear HO_3; clear HO_4; clear HO356; clear HO359; clear HO363; clear HO366; clear HO369; clear HO372; clear HO376; clear HB; have HO_3 := n0_; have HO_4 := n1_; have HO356 := n2_; have HO359 := n3_; have HO363 := n4_; have HO366 := n5_; have HO369 := n6_; have HO372 := n7_; have HO376 := n8_; have HO379 := n9_; have HB := n10_; clear n0_ n1_ n2_ n3_ n4_ n5_ n6_ n7_ n8_ n9_ n10_; (try clear hb); (try clear hb2); (try clear hk); (try clear hi); (try clear ho0); obtain ⟨Ao38, co38, eo38⟩ := Kd.R_slice HO376.out; subst eo38; obtain ⟨Ao39, co39, eo39⟩ := Kd.R_slice HO379.out; subst eo39) | ((with_reducible refine gate_callee (f := 27) rfl ?_); refine goesL_ (some 75) rfl rfl Try.func27 (by kernel_rfl) rfl #[.int .i64 7, .slice Ao38 t374.length co38, .slice Ao39 t377.length co39] rfl (by (try simp only [List.map_toArray, List.map_cons, List.map_nil]); first | done | rfl | (simp only [List.length_drop, List.length_take]; rfl)) ?_; (with_reducible refine (impl_MulPoly.calls kj5 7 (fun k_ => some k_ = (.slice Ao38 t374.length co38 : Value).ownBlock) _ _ t374 (fun k_ => some k_ = (.slice Ao39 t377.length co39 : Value).ownBlock) _ _ t377 t380 t383 _ ?side1 ?side2 A24.out).mono ?_); (case side1 => exact Kd.R_V (Kd.R_tight rfl (HO376.out))); (case side2 => exact Kd.R_V (Kd.R_tight rfl (HO379.out))); rintro e w40 ⟨v381, rfl, ho0, hb⟩; refine ⟨_, rfl, ?_⟩; have n0_ := Aside0.mk (Kd.R_below (by (with_reducible repeat (first | apply Kd.R_alloc | apply Kd.R_drewN | apply Kd.R_drew)); exact HO_3.out) hb); have n1_ := Aside0.mk (Kd.R_below (by (with_reducible repeat (first | apply Kd.R_alloc | apply Kd.R_drewN | apply Kd.R_drew)); exact HO_4.out) hb); have n2_ := Aside0.mk (Kd.R_below (by (with_reducible repeat (first | apply Kd.R_alloc | apply Kd.R_drewN | apply Kd.R_drew)); exact HO356.out) hb); have n3_ := Aside0.mk (Kd.R_below (by (with_reducible repeat (first | apply Kd.R_alloc | apply Kd.R_drewN | apply Kd.R_drew)); exact HO359.out) hb); have n4_ := Aside0.mk (Kd.R_below (by (with_reducible repeat (first | apply Kd.R_alloc | apply Kd.R_drewN | apply Kd.R_drew)); exact HO363.out) hb); have n5_ := Aside0.mk (Kd.R_below (by (with_reducible repeat (first | apply Kd.R_alloc | apply Kd.R_drewN | apply Kd.R_drew)); exact HO366.out) hb); have n6_ := Aside0.mk (Kd.R_below (by (with_reducible repeat (first | apply Kd.R_alloc | apply Kd.R_drewN | apply Kd.R_drew)); exact HO369.out) hb); have n7_ := Aside0.mk (Kd.V_below (by (with_reducible repeat (first | apply Kd.V_alloc | apply Kd.V_drewN | apply Kd.V_drew)); exact HO372.out) hb); have n8_ := Aside0.mk (Kd.R_below (by (with_reducible repeat (first | apply Kd.R_alloc | apply Kd.R_drewN | apply Kd.R_drew)); exact HO376.out) hb); have n9_ := Aside0.mk (Kd.R_below (by (with_reducible repeat (first | apply Kd.R_alloc | apply Kd.R_drewN | apply Kd.R_drew)); exact HO379.out) hb); have n10_ := Aside0.mk (Kd.V_lower (Kd.V_mono (ok' := fun k_ => some k_ ≠ (.slice Ao8 t344.length co8 : Value).ownBlock ∧ some k_ ≠ (.slice Ao9 t345.length co9 : Value).ownBlock ∧ some k_ ≠ (.slice Ao28 t354.length co28 : Value).ownBlock ∧ some k_ ≠ (.slice Ao29 t357.length co29 : Value).ownBlock ∧ some k_ ≠ (v362 : Value).ownBlock ∧ some k_ ≠ (.slice Ao33 t364.length co33 : Value).ownBlock ∧ some k_ ≠ (.slice Ao34 t367.length co34 : Value).ownBlock) ho0 (fun k_ hk_ => ⟨Or.elim hk_ (fun hs_ => Or.elim hs_ (fun hs_ => ((HO376.out).1 k_ hs_.symm).1.1.1.1.1.1.1.2) (fun hs_ => ((HO379.out).1 k_ hs_.symm).1.1.1.1.1.1.1.2)) (fun hn_ => (Kd.fresh' (Kd.R_lt (by (with_reducible repeat (first | apply Kd.R_alloc | apply Kd.R_drewN | apply Kd.R_drew)); exact HO_3.out)) k_ hn_)), Or.elim hk_ (fun hs_ => Or.elim hs_ (fun hs_ => ((HO376.out).1 k_ hs_.symm).1.1.1.1.1.1.2) (fun hs_ => ((HO379.out).1 k_ hs_.symm).1.1.1.1.1.1.2)) (fun hn_ => (Kd.fresh' (Kd.R_lt (by (with_reducible repeat (first | apply Kd.R_alloc | apply Kd.R_drewN | apply Kd.R_drew)); exact HO_4.out)) k_ hn_)), Or.elim hk_ (fun hs_ => Or.elim hs_ (fun hs_ => ((HO376.out).1 k_ hs_.symm).1.1.1.1.1.2) (fun hs_ => ((HO379.out).1 k_ hs_.symm).1.1.1.1.1.2)) (fun hn_ => (Kd.fresh' (Kd.R_lt (by (with_reducible repeat (first | apply Kd.R_alloc | apply Kd.R_drewN | apply Kd.R_drew)); exact HO356.out)) k_ hn_)), Or.elim hk_ (fun hs_ => Or.elim hs_ (fun hs_ => ((HO376.out).1 k_ hs_.symm).1.1.1.1.2) (fun hs_ => ((HO379.out).1 k_ hs_.symm).1.1.1.1.2)) (fun hn_ => (Kd.fresh' (Kd.R_lt (by (with_reducible repeat (first | apply Kd.R_alloc | apply Kd.R_drewN | apply Kd.R_drew)); exact HO359.out)) k_ hn_)), Or.elim hk_ (fun hs_ => Or.elim hs_ (fun hs_ => ((HO376.out).1 k_ hs_.symm).1.1.1.2) (fun hs_ => ((HO379.out).1 k_ hs_.symm).1.1.1.2)) (fun hn_ => (Kd.fresh' (Kd.R_lt (by (with_reducible repeat (first | apply Kd.R_alloc | apply Kd.R_drewN | apply Kd.R_drew)); exact HO363.out)) k_ hn_)), Or.elim hk_ (fun hs_ => Or.elim hs_ (fun hs_ => ((HO376.out).1 k_ hs_.symm).1.1.2) (fun hs_ => ((HO379.out).1 k_ hs_.symm).1.1.2)) (fun hn_ => (Kd.fresh' (Kd.R_lt (by (with_reducible repeat (first | apply Kd.R_alloc | apply Kd.R_drewN | apply Kd.R_drew)); exact HO366.out)) k_ hn_)), Or.elim hk_ (fun hs_ => Or.elim hs_ (fun hs_ => ((HO376.out).1 k_ hs_.symm).1.2) (fun hs_ => ((HO379.out).1 k_ hs_.symm).1.2)) (fun hn_ => (Kd.fresh' (Kd.R_lt (by (with_reducible repeat (first | apply Kd.R_alloc | apply Kd.R_drewN | apply Kd.R_drew)); exact HO369.out)) k_ hn_))⟩)) (below_size (by repeat (first | (with_reducible first | exact HB.out | apply below_alloc | apply pw_below_drewN | apply below_drew1) | exact HB.out)))); have n11_ := Aside0.mk (below_step (by repeat (first | (with_reducible first | exact HB.out | apply below_alloc | apply pw_below_drewN | apply below_drew1) | exact HB.out)) hb); clear HO_3; clear HO_4; clear HO356; clear HO359; clear HO363; clear HO366; clear HO369; clear HO372; clear HO376; clear HO379; clear HB; have HO_3 := n0_; have HO_4 := n1_; have HO356 := n2_; have HO359 := n3_; have HO363 := n4_; have HO366 := n5_; have HO369 := n6_; have HO372 := n7_; have HO376 := n8_; have HO379 := n9_; have HO382 := n10_; have HB := n11_; clear n0_ n1_ n2_ n3_ n4_ n5_ n6_ n7_ n8_ n9_ n10_ n11_; (try clear hb); (try clear hb2); (try clear hk); (try clear hi); (try clear ho0)))
          (try simp only [Act.put, List.setIfInBounds_toArray, List.set_cons_zero, List.set_cons_succ])
          go_cut [98] (fun v98 wc => ∃ (kq : Nat) (x98_24 : Bool), v98 = .bool x98_24 ∧ Aside0 (laws_FnConvByFields.j1 kq t344 t345 t360 t370 t380 x98_24 = some r) ∧ Aside0 (kq ≤ kj5) ∧ Aside0 (Kd.R (Kd.int .i64) 3 wc w.heap.size (fun k_ => some k_ ≠ ((.slice Ao9 t345.length co9) : Value).ownBlock ∧ some k_ ≠ (v362 : Value).ownBlock) (.slice Ao8 t344.length co8) t344) ∧ Aside0 (Kd.R (Kd.int .i64) 3 wc w.heap.size (fun k_ => some k_ ≠ ((.slice Ao8 t344.length co8) : Value).ownBlock ∧ some k_ ≠ (v362 : Value).ownBlock) (.slice Ao9 t345.length co9) t345) ∧ Aside0 (Kd.R (Kd.int .i64) 3 wc w.heap.size (fun k_ => some k_ ≠ ((.slice Ao8 t344.length co8) : Value).ownBlock ∧ some k_ ≠ ((.slice Ao9 t345.length co9) : Value).ownBlock) v362 t360) ∧ Aside0 (Kd.V (Kd.int .i64) 3 wc w.heap.size (fun k_ => some k_ ≠ ((.slice Ao8 t344.length co8) : Value).ownBlock ∧ some k_ ≠ ((.slice Ao9 t345.length co9) : Value).ownBlock ∧ some k_ ≠ (v362 : Value).ownBlock) v371 t370) ∧ Aside0 (Kd.V (Kd.int .i64) 3 wc w.heap.size (fun k_ => some k_ ≠ ((.slice Ao8 t344.length co8) : Value).ownBlock ∧ some k_ ≠ ((.slice Ao9 t345.length co9) : Value).ownBlock ∧ some k_ ≠ (v362 : Value).ownBlock) v381 t380) ∧ Aside0 (Below w.heap.size w wc))
          case first =>
            have H := HC25.out
            clear HC25
            by_cases c41 : t361 = true
            · subst c41
              have H1 : (if t373 = true then (if t383 = true then (laws_FnConvByFields.j1 kj5 t344 t345 t360 t370 t380 ((t360.length : Int) != (wrap64 ((wrap64 ((t344.length : Int) + (t345.length : Int))) - 1)))) else (laws_FnConvByFields.j1 kj5 t344 t345 t360 t370 t380 true)) else (laws_FnConvByFields.j1 kj5 t344 t345 t360 t370 t380 true)) = some r := by rw [if_pos rfl] at H; exact H
              clear H
              have H := H1
              clear H1
              by_cases c42 : t373 = true
              · subst c42
                have H1 : (if t383 = true then (laws_FnConvByFields.j1 kj5 t344 t345 t360 t370 t380 ((t360.length : Int) != (wrap64 ((wrap64 ((t344.length : Int) + (t345.length : Int))) - 1)))) else (laws_FnConvByFields.j1 kj5 t344 t345 t360 t370 t380 true)) = some r := by rw [if_pos rfl] at H; exact H
                clear H
                have H := H1
                clear H1
                by_cases c43 : t383 = true
                · subst c43
                  have H1 : (laws_FnConvByFields.j1 kj5 t344 t345 t360 t370 t380 ((t360.length : Int) != (wrap64 ((wrap64 ((t344.length : Int) + (t345.length : Int))) - 1)))) = some r := by rw [if_pos rfl] at H; exact H
                  clear H
                  have H := H1
                  clear H1
                  have H' := Aside0.mk H
                  clear H
                  obtain ⟨Ao44, co44, eo44⟩ := Kd.R_slice HO363.out
                  subst eo44
                  go_wp2
                  go_meet
                  case rel => exact ⟨_, (((t360.length : Int) != (wrap64 ((wrap64 ((t344.length : Int) + (t345.length : Int))) - 1)))), (by first | rfl | (simp; done) | (simp [*]; done)), H', ⟨by have := HJ5.out; first | omega | exact Nat.le_refl _⟩, ⟨by (with_reducible repeat (first | apply Kd.R_alloc | apply Kd.R_drewN | apply Kd.R_drew)); exact Kd.R_mono HO_3.out (fun _ hk => And.intro hk.1.1.1.1.1.1.1 hk.1.1.1.1.2)⟩, ⟨by (with_reducible repeat (first | apply Kd.R_alloc | apply Kd.R_drewN | apply Kd.R_drew)); exact Kd.R_mono HO_4.out (fun _ hk => And.intro hk.1.1.1.1.1.1.1 hk.1.1.1.1.2)⟩, ⟨by (with_reducible repeat (first | apply Kd.R_alloc | apply Kd.R_drewN | apply Kd.R_drew)); exact Kd.R_mono HO363.out (fun _ hk => And.intro hk.1.1.1.1.1.1.1.2 hk.1.1.1.1.1.1.2)⟩, ⟨by (with_reducible repeat (first | apply Kd.V_alloc | apply Kd.V_drewN | apply Kd.V_drew)); exact Kd.V_mono HO372.out (fun _ hk => And.intro hk.1.1.1 (And.intro hk.1.1.2.1 hk.1.1.2.2.2.2))⟩, ⟨by (with_reducible repeat (first | apply Kd.V_alloc | apply Kd.V_drewN | apply Kd.V_drew)); exact Kd.V_mono HO382.out (fun _ hk => And.intro hk.1 (And.intro hk.2.1 hk.2.2.2.2.1))⟩, ⟨by repeat (first | (with_reducible first | exact HB.out | apply below_alloc | apply pw_below_drewN | apply below_drew1) | exact HB.out)⟩⟩
                · replace c43 := Bool.eq_false_iff.mpr c43
                  subst c43
                  have H1 : (laws_FnConvByFields.j1 kj5 t344 t345 t360 t370 t380 true) = some r := by rw [if_neg (show ¬ (false = true) by decide)] at H; exact H
                  clear H
                  have H := H1
                  clear H1
                  have H' := Aside0.mk H
                  clear H
                  go_wp2
                  go_meet
                  case rel => exact ⟨_, (true), (by first | rfl | (simp; done) | (simp [*]; done)), H', ⟨by have := HJ5.out; first | omega | exact Nat.le_refl _⟩, ⟨by (with_reducible repeat (first | apply Kd.R_alloc | apply Kd.R_drewN | apply Kd.R_drew)); exact Kd.R_mono HO_3.out (fun _ hk => And.intro hk.1.1.1.1.1.1.1 hk.1.1.1.1.2)⟩, ⟨by (with_reducible repeat (first | apply Kd.R_alloc | apply Kd.R_drewN | apply Kd.R_drew)); exact Kd.R_mono HO_4.out (fun _ hk => And.intro hk.1.1.1.1.1.1.1 hk.1.1.1.1.2)⟩, ⟨by (with_reducible repeat (first | apply Kd.R_alloc | apply Kd.R_drewN | apply Kd.R_drew)); exact Kd.R_mono HO363.out (fun _ hk => And.intro hk.1.1.1.1.1.1.1.2 hk.1.1.1.1.1.1.2)⟩, ⟨by (with_reducible repeat (first | apply Kd.V_alloc | apply Kd.V_drewN | apply Kd.V_drew)); exact Kd.V_mono HO372.out (fun _ hk => And.intro hk.1.1.1 (And.intro hk.1.1.2.1 hk.1.1.2.2.2.2))⟩, ⟨by (with_reducible repeat (first | apply Kd.V_alloc | apply Kd.V_drewN | apply Kd.V_drew)); exact Kd.V_mono HO382.out (fun _ hk => And.intro hk.1 (And.intro hk.2.1 hk.2.2.2.2.1))⟩, ⟨by repeat (first | (with_reducible first | exact HB.out | apply below_alloc | apply pw_below_drewN | apply below_drew1) | exact HB.out)⟩⟩
              · replace c42 := Bool.eq_false_iff.mpr c42
                subst c42
                have H1 : (laws_FnConvByFields.j1 kj5 t344 t345 t360 t370 t380 true) = some r := by rw [if_neg (show ¬ (false = true) by decide)] at H; exact H
                clear H
                have H := H1
                clear H1
                have H' := Aside0.mk H
                clear H
                go_wp2
                go_meet
                case rel => exact ⟨_, (true), (by first | rfl | (simp; done) | (simp [*]; done)), H', ⟨by have := HJ5.out; first | omega | exact Nat.le_refl _⟩, ⟨by (with_reducible repeat (first | apply Kd.R_alloc | apply Kd.R_drewN | apply Kd.R_drew)); exact Kd.R_mono HO_3.out (fun _ hk => And.intro hk.1.1.1.1.1.1.1 hk.1.1.1.1.2)⟩, ⟨by (with_reducible repeat (first | apply Kd.R_alloc | apply Kd.R_drewN | apply Kd.R_drew)); exact Kd.R_mono HO_4.out (fun _ hk => And.intro hk.1.1.1.1.1.1.1 hk.1.1.1.1.2)⟩, ⟨by (with_reducible repeat (first | apply Kd.R_alloc | apply Kd.R_drewN | apply Kd.R_drew)); exact Kd.R_mono HO363.out (fun _ hk => And.intro hk.1.1.1.1.1.1.1.2 hk.1.1.1.1.1.1.2)⟩, ⟨by (with_reducible repeat (first | apply Kd.V_alloc | apply Kd.V_drewN | apply Kd.V_drew)); exact Kd.V_mono HO372.out (fun _ hk => And.intro hk.1.1.1 (And.intro hk.1.1.2.1 hk.1.1.2.2.2.2))⟩, ⟨by (with_reducible repeat (first | apply Kd.V_alloc | apply Kd.V_drewN | apply Kd.V_drew)); exact Kd.V_mono HO382.out (fun _ hk => And.intro hk.1 (And.intro hk.2.1 hk.2.2.2.2.1))⟩, ⟨by repeat (first | (with_reducible first | exact HB.out | apply below_alloc | apply pw_below_drewN | apply below_drew1) | exact HB.out)⟩⟩
            · replace c41 := Bool.eq_false_iff.mpr c41
              subst c41
              have H1 : (laws_FnConvByFields.j1 kj5 t344 t345 t360 t370 t380 true) = some r := by rw [if_neg (show ¬ (false = true) by decide)] at H; exact H
              clear H
              have H := H1
              clear H1
              have H' := Aside0.mk H
              clear H
              go_wp2
              go_meet
              case rel => exact ⟨_, (true), (by first | rfl | (simp; done) | (simp [*]; done)), H', ⟨by have := HJ5.out; first | omega | exact Nat.le_refl _⟩, ⟨by (with_reducible repeat (first | apply Kd.R_alloc | apply Kd.R_drewN | apply Kd.R_drew)); exact Kd.R_mono HO_3.out (fun _ hk => And.intro hk.1.1.1.1.1.1.1 hk.1.1.1.1.2)⟩, ⟨by (with_reducible repeat (first | apply Kd.R_alloc | apply Kd.R_drewN | apply Kd.R_drew)); exact Kd.R_mono HO_4.out (fun _ hk => And.intro hk.1.1.1.1.1.1.1 hk.1.1.1.1.2)⟩, ⟨by (with_reducible repeat (first | apply Kd.R_alloc | apply Kd.R_drewN | apply Kd.R_drew)); exact Kd.R_mono HO363.out (fun _ hk => And.intro hk.1.1.1.1.1.1.1.2 hk.1.1.1.1.1.1.2)⟩, ⟨by (with_reducible repeat (first | apply Kd.V_alloc | apply Kd.V_drewN | apply Kd.V_drew)); exact Kd.V_mono HO372.out (fun _ hk => And.intro hk.1.1.1 (And.intro hk.1.1.2.1 hk.1.1.2.2.2.2))⟩, ⟨by (with_reducible repeat (first | apply Kd.V_alloc | apply Kd.V_drewN | apply Kd.V_drew)); exact Kd.V_mono HO382.out (fun _ hk => And.intro hk.1 (And.intro hk.2.1 hk.2.2.2.2.1))⟩, ⟨by repeat (first | (with_reducible first | exact HB.out | apply below_alloc | apply pw_below_drewN | apply below_drew1) | exact HB.out)⟩⟩
          case rest =>
            clear HC25
            try clear c1
            try clear c2
            try clear p2
            try clear c3
            try clear c4
            try clear c6
            try clear p6
            try clear c11
            try clear c12
            try clear c12b0
            try clear c12b1
            try clear c13
            try clear c13b0
            try clear c13b1
            try clear c14
            try clear c14b0
            try clear c14b1
            try clear c14b2
            try clear c15
            try clear c22
            try clear c23
            try clear c24
            try clear c25
            try clear c26
            try clear c27
            try clear c28
            try clear c41
            try clear c42
            try clear c43
            try clear p2
            obtain ⟨kq, x98_24, rfl, HA, HJ24, HO_3, HO_4, HO_7, HO_9, HO_11, HB⟩ := hcut
            cases kq with
            | zero => exact absurd HA.out (by simp [laws_FnConvByFields.j1])
            | succ kj24 =>
              have H := HA.out
              clear HA
              simp only [laws_FnConvByFields.j1] at H
              by_cases c45 : x98_24 = true
              · subst c45
                have H1 : (some false) = some r := by rw [if_pos rfl] at H; exact H
                clear H
                have H := H1
                clear H1
                obtain rfl := Option.some.inj H
                go_wp2
                go_ret
                exact ⟨by first | rfl | (simp [errW_none, errW_some] <;> rfl) | (simp [*, errW_none, errW_some] <;> rfl), by repeat (first | (with_reducible first | exact HB.out | apply below_alloc | apply pw_below_drewN | apply below_drew1) | exact HB.out)⟩
              · replace c45 := Bool.eq_false_iff.mpr c45
                subst c45
                have H1 : ((impl_Bound.f (t344.length : Int) (t345.length : Int)).bind fun t384 => (laws_FnConvByFields.l0 kj24 t360 t370 t380 t384 0)) = some r := by rw [if_neg (show ¬ (false = true) by decide)] at H; exact H
                clear H
                have H := H1
                clear H1
                replace H := Option.bind_eq_some_iff.mp H
                obtain ⟨t384, A460, H⟩ := H
                replace H : (laws_FnConvByFields.l0 kj24 t360 t370 t380 t384 0) = some r := H
                have A46 := Aside0.mk A460
                clear A460
                have H' := Aside0.mk H
                clear H
                go_wp2_with (first | ((with_reducible refine gate_callee (f := 29) rfl ?_); refine goesL_ (some 103) rfl rfl Try.func29 (by kernel_rfl) rfl #[.int .i64 (t344.length : Int), .int .i64 (t345.length : Int)] rfl (by (try simp only [List.map_toArray, List.map_cons, List.map_nil]); first | done | rfl | (simp only [List.length_drop, List.length_take]; rfl)) ?_; (with_reducible refine (impl_Bound.calls (t344.length : Int) (t345.length : Int) t384 _ A46.out).mono ?_); rintro e w47 ⟨rfl, hb⟩; refine ⟨_, rfl, ?_⟩; have n0_ := Aside0.mk (Kd.R_below (by (with_reducible repeat (first | apply Kd.R_alloc | apply Kd.R_drewN | apply Kd.R_drew)); exact HO_3.out) hb); have n1_ := Aside0.mk (Kd.R_below (by (with_reducible repeat (first | apply Kd.R_alloc | apply Kd.R_drewN | apply Kd.R_drew)); exact HO_4.out) hb); have n2_ := Aside0.mk (Kd.R_below (by (with_reducible repeat (first | apply Kd.R_alloc | apply Kd.R_drewN | apply Kd.R_drew)); exact HO_7.out) hb); have n3_ := Aside0.mk (Kd.V_below (by (with_reducible repeat (first | apply Kd.V_alloc | apply Kd.V_drewN | apply Kd.V_drew)); exact HO_9.out) hb); have n4_ := Aside0.mk (Kd.V_below (by (with_reducible repeat (first | apply Kd.V_alloc | apply Kd.V_drewN | apply Kd.V_drew)); exact HO_11.out) hb); have n5_ := Aside0.mk (below_step (by repeat (first | (with_reducible first | exact HB.out | apply below_alloc | apply pw_below_drewN | apply below_drew1) | exact HB.out)) hb); clear HO_3; clear HO_4; clear HO_7; clear HO_9; clear HO_11; clear HB; have HO_3 := n0_; have HO_4 := n1_; have HO_7 := n2_; have HO_9 := n3_; have HO_11 := n4_; have HB := n5_; clear n0_ n1_ n2_ n3_ n4_ n5_; (try clear hb); (try clear hb2); (try clear hk); (try clear hi)))
                go_loopg [14] kj24 (fun kq v14 w' => ∃ (x14_3 : Int), v14 = .int .i64 x14_3 ∧ Aside0 (laws_FnConvByFields.l0 kq t360 t370 t380 t384 x14_3 = some r) ∧ Aside0 (kq ≤ kj24) ∧ Aside0 (Kd.R (Kd.int .i64) 3 w' w.heap.size (fun _ => True) v362 t360) ∧ Aside0 (Kd.V (Kd.int .i64) 3 w' w.heap.size (fun k_ => some k_ ≠ (v362 : Value).ownBlock) v371 t370) ∧ Aside0 (Kd.V (Kd.int .i64) 3 w' w.heap.size (fun k_ => some k_ ≠ (v362 : Value).ownBlock) v381 t380) ∧ Aside0 (Below w.heap.size w w'))
                case atStart => exact ⟨(0), (by first | rfl | (simp; done) | (simp [*]; done)), H', ⟨Nat.le_refl _⟩, ⟨by (with_reducible repeat (first | apply Kd.R_alloc | apply Kd.R_drewN | apply Kd.R_drew)); exact Kd.R_mono HO_7.out (fun _ hk => trivial)⟩, ⟨by (with_reducible repeat (first | apply Kd.V_alloc | apply Kd.V_drewN | apply Kd.V_drew)); exact Kd.V_mono HO_9.out (fun _ hk => hk.2.2)⟩, ⟨by (with_reducible repeat (first | apply Kd.V_alloc | apply Kd.V_drewN | apply Kd.V_drew)); exact Kd.V_mono HO_11.out (fun _ hk => hk.2.2)⟩, ⟨by repeat (first | (with_reducible first | exact HB.out | apply below_alloc | apply pw_below_drewN | apply below_drew1) | exact HB.out)⟩⟩
                case round =>
                  clear H'
                  try clear c1
                  try clear c2
                  try clear p2
                  try clear c3
                  try clear c4
                  try clear c6
                  try clear p6
                  try clear c11
                  try clear c12
                  try clear c12b0
                  try clear c12b1
                  try clear c13
                  try clear c13b0
                  try clear c13b1
                  try clear c14
                  try clear c14b0
                  try clear c14b1
                  try clear c14b2
                  try clear c15
                  try clear c22
                  try clear c23
                  try clear c24
                  try clear c25
                  try clear c26
                  try clear c27
                  try clear c28
                  try clear c29
                  try clear c41
                  try clear c42
                  try clear c43
                  try clear c45
                  try clear p2
                  try clear p6
                  obtain ⟨x14_3, rfl, HA, HK3, HO_7, HO_9, HO_11, HB⟩ := hrel
                  cases gk with
                  | zero => exact absurd HA.out (by simp [laws_FnConvByFields.l0])
                  | succ k3 =>
                    have H := HA.out
                    clear HA
                    simp only [laws_FnConvByFields.l0] at H
                    by_cases c48 : x14_3 < (t360.length : Int)
                    · rw [if_pos c48] at H
                      have c48b0 : decide (x14_3 < (t360.length : Int)) = true := decide_eq_true c48
                      clear c48
                      have HC49 := Aside0.mk H
                      clear H
                      obtain ⟨Ao50, co50, eo50⟩ := Kd.R_slice HO_7.out
                      subst eo50
                      obtain ⟨Ao51, co51, eo51⟩ := Kd.V_slice HO_9.out
                      subst eo51
                      go_upto_if 113 with (fail)
                      go_cut [15] (fun v15 wc => ∃ (kq : Nat) (x15_48 : Int), v15 = .int .i64 x15_48 ∧ Aside0 (laws_FnConvByFields.j3 kq t360 t370 t380 t384 x14_3 x15_48 0 = some r) ∧ Aside0 (kq ≤ k3) ∧ Aside0 (Kd.R (Kd.int .i64) 3 wc w.heap.size (fun _ => True) (.slice Ao50 t360.length co50) t360) ∧ Aside0 (Kd.V (Kd.int .i64) 3 wc w.heap.size (fun k_ => some k_ ≠ ((.slice Ao50 t360.length co50) : Value).ownBlock) (.slice Ao51 t370.length co51) t370) ∧ Aside0 (Kd.V (Kd.int .i64) 3 wc w.heap.size (fun k_ => some k_ ≠ ((.slice Ao50 t360.length co50) : Value).ownBlock) v381 t380) ∧ Aside0 (Below w.heap.size w wc))
                      case first =>
                        have H := HC49.out
                        clear HC49
                        by_cases c52 : x14_3 < (t370.length : Int)
                        · rw [if_pos c52] at H
                          have c52b0 : decide (x14_3 < (t370.length : Int)) = true := decide_eq_true c52
                          clear c52
                          (first | rw [c52b0] | (simp only [i64_w, i32_w]; rw [c52b0]) | skip)
                          by_cases c53 : 0 ≤ x14_3
                          · rw [if_pos c53] at H
                            have c53b0 : decide (0 ≤ x14_3) = true := decide_eq_true c53
                            clear c53
                            have H' := Aside0.mk H
                            clear H
                            have p385 : 0 ≤ (x14_3 : Int) := of_decide_eq_true (by first | (with_reducible assumption) | assumption)
                            have q385 : x14_3 < (t370.length : Int) := of_decide_eq_true (by first | (with_reducible assumption) | assumption)
                            obtain ⟨ad385, e385, hx385_0⟩ := Kd.at_int (Kd.V_reads' HO_9.out).2.2 x14_3 p385 q385
                            cases e385
                            replace p385 := eq_true p385
                            replace q385 := eq_true q385
                            go_wp2
                            go_meet
                            case rel => exact ⟨_, (rd t370 x14_3), (by first | rfl | (simp; done) | (simp [*]; done)), H', ⟨by have := HJ5.out; have := HJ24.out; have := HK3.out; first | omega | exact Nat.le_refl _⟩, ⟨by (with_reducible repeat (first | apply Kd.R_alloc | apply Kd.R_drewN | apply Kd.R_drew)); exact HO_7.out⟩, ⟨by (with_reducible repeat (first | apply Kd.V_alloc | apply Kd.V_drewN | apply Kd.V_drew)); exact HO_9.out⟩, ⟨by (with_reducible repeat (first | apply Kd.V_alloc | apply Kd.V_drewN | apply Kd.V_drew)); exact HO_11.out⟩, ⟨by repeat (first | (with_reducible first | exact HB.out | apply below_alloc | apply pw_below_drewN | apply below_drew1) | exact HB.out)⟩⟩
                          · rw [if_neg c53] at H
                            exact absurd H (by simp)
                        · rw [if_neg c52] at H
                          have c52b0 : decide (x14_3 < (t370.length : Int)) = false := decide_eq_false c52
                          clear c52
                          (first | rw [c52b0] | (simp only [i64_w, i32_w]; rw [c52b0]) | skip)
                          have H' := Aside0.mk H
                          clear H
                          go_wp2
                          go_meet
                          case rel => exact ⟨_, (0), (by first | rfl | (simp; done) | (simp [*]; done)), H', ⟨by have := HJ5.out; have := HJ24.out; have := HK3.out; first | omega | exact Nat.le_refl _⟩, ⟨by (with_reducible repeat (first | apply Kd.R_alloc | apply Kd.R_drewN | apply Kd.R_drew)); exact HO_7.out⟩, ⟨by (with_reducible repeat (first | apply Kd.V_alloc | apply Kd.V_drewN | apply Kd.V_drew)); exact HO_9.out⟩, ⟨by (with_reducible repeat (first | apply Kd.V_alloc | apply Kd.V_drewN | apply Kd.V_drew)); exact HO_11.out⟩, ⟨by repeat (first | (with_reducible first | exact HB.out | apply below_alloc | apply pw_below_drewN | apply below_drew1) | exact HB.out)⟩⟩
                      case rest =>
                        clear HC49
                        try clear c1
                        try clear c2
                        try clear p2
                        try clear c3
                        try clear p3
                        try clear q3
                        try clear hx3
                        try clear c4
                        try clear c5
                        try clear c6
                        try clear p6
                        try clear c11
                        try clear c12
                        try clear c12b0
                        try clear c12b1
                        try clear c13
                        try clear c13b0
                        try clear c13b1
                        try clear c14
                        try clear c14b0
                        try clear c14b1
                        try clear c14b2
                        try clear c15
                        try clear c22
                        try clear c23
                        try clear c24
                        try clear c25
                        try clear c26
                        try clear c27
                        try clear c28
                        try clear c29
                        try clear p38
                        try clear q38
                        try clear hx38
                        try clear c41
                        try clear c42
                        try clear c43
                        try clear c45
                        try clear c48
                        try clear c48b0
                        try clear c52
                        try clear c52b0
                        try clear c53
                        try clear c53b0
                        try clear hx385_0
                        try clear p2
                        try clear p385
                        try clear p6
                        try clear q385
                        obtain ⟨kq, x15_48, rfl, HA, HJ48, HO_7, HO_9, HO_11, HB⟩ := hcut
                        cases kq with
                        | zero => exact absurd HA.out (by simp [laws_FnConvByFields.j3])
                        | succ kj48 =>
                          have H := HA.out
                          clear HA
                          simp only [laws_FnConvByFields.j3] at H
                          by_cases c54 : x14_3 < (t380.length : Int)
                          · rw [if_pos c54] at H
                            have c54b0 : decide (x14_3 < (t380.length : Int)) = true := decide_eq_true c54
                            clear c54
                            by_cases c55 : 0 ≤ x14_3
                            · rw [if_pos c55] at H
                              have c55b0 : decide (0 ≤ x14_3) = true := decide_eq_true c55
                              clear c55
                              replace H := Option.bind_eq_some_iff.mp H
                              obtain ⟨⟨t387, t388⟩, A560, H⟩ := H
                              replace H : (if t388 = true then (if x14_3 < (t360.length : Int) then (if t387 = (rd t360 x14_3) then (if (rd t360 x14_3) > t384 then (some false) else (if (rd t360 x14_3) < (wrap64 (-t384)) then (some false) else (laws_FnConvByFields.l0 kj48 t360 t370 t380 t384 (wrap64 (x14_3 + 1))))) else (some false)) else (none)) else (some false)) = some r := H
                              have A56 := Aside0.mk A560
                              clear A560
                              by_cases c57 : t388 = true
                              · subst c57
                                have H1 : (if x14_3 < (t360.length : Int) then (if t387 = (rd t360 x14_3) then (if (rd t360 x14_3) > t384 then (some false) else (if (rd t360 x14_3) < (wrap64 (-t384)) then (some false) else (laws_FnConvByFields.l0 kj48 t360 t370 t380 t384 (wrap64 (x14_3 + 1))))) else (some false)) else (none)) = some r := by rw [if_pos rfl] at H; exact H
                                clear H
                                have H := H1
                                clear H1
                                by_cases c58 : x14_3 < (t360.length : Int)
                                · rw [if_pos c58] at H
                                  have c58b0 : decide (x14_3 < (t360.length : Int)) = true := decide_eq_true c58
                                  clear c58
                                  by_cases c59 : t387 = (rd t360 x14_3)
                                  · rw [if_pos c59] at H
                                    have c59b0 : (t387 == (rd t360 x14_3)) = true := beq_iff_eq.mpr c59
                                    have c59b1 : (t387 != (rd t360 x14_3)) = false := bne_eq_false_iff_eq.mpr c59
                                    clear c59
                                    by_cases c60 : (rd t360 x14_3) > t384
                                    · rw [if_pos c60] at H
                                      have c60b0 : decide (t384 < (rd t360 x14_3)) = true := decide_eq_true c60
                                      clear c60
                                      obtain rfl := Option.some.inj H
                                      obtain ⟨Ao61, co61, eo61⟩ := Kd.V_slice HO_11.out
                                      subst eo61
                                      have p386 : 0 ≤ (x14_3 : Int) := of_decide_eq_true (by first | (with_reducible assumption) | assumption)
                                      have q386 : x14_3 < (t380.length : Int) := of_decide_eq_true (by first | (with_reducible assumption) | assumption)
                                      obtain ⟨ad386, e386, hx386_0⟩ := Kd.at_int (Kd.V_reads' HO_11.out).2.2 x14_3 p386 q386
                                      cases e386
                                      replace p386 := eq_true p386
                                      replace q386 := eq_true q386
                                      go_wp2_with (first | ((with_reducible refine gate_callee (f := 30) rfl ?_); refine goesL_ (some 129) rfl rfl Try.func30 (by kernel_rfl) rfl #[.int .i64 x15_48, .int .i64 (rd t380 x14_3)] rfl (by (try simp only [List.map_toArray, List.map_cons, List.map_nil]); first | done | rfl | (simp only [List.length_drop, List.length_take]; rfl)) ?_; (with_reducible refine (impl_Centered.calls kj48 x15_48 (rd t380 x14_3) t387 true _ A56.out).mono ?_); rintro e w62 ⟨rfl, hb⟩; refine ⟨_, rfl, ?_⟩; have n0_ := Aside0.mk (Kd.R_below (by (with_reducible repeat (first | apply Kd.R_alloc | apply Kd.R_drewN | apply Kd.R_drew)); exact HO_7.out) hb); have n1_ := Aside0.mk (Kd.V_below (by (with_reducible repeat (first | apply Kd.V_alloc | apply Kd.V_drewN | apply Kd.V_drew)); exact HO_9.out) hb); have n2_ := Aside0.mk (Kd.V_below (by (with_reducible repeat (first | apply Kd.V_alloc | apply Kd.V_drewN | apply Kd.V_drew)); exact HO_11.out) hb); have n3_ := Aside0.mk (below_step (by repeat (first | (with_reducible first | exact HB.out | apply below_alloc | apply pw_below_drewN | apply below_drew1) | exact HB.out)) hb); clear HO_7; clear HO_9; clear HO_11; clear HB; have HO_7 := n0_; have HO_9 := n1_; have HO_11 := n2_; have HB := n3_; clear n0_ n1_ n2_ n3_; (try clear hb); (try clear hb2); (try clear hk); (try clear hi); have p389 : 0 ≤ (x14_3 : Int) := of_decide_eq_true (by first | (with_reducible assumption) | assumption); have q389 : x14_3 < (t360.length : Int) := of_decide_eq_true (by first | (with_reducible assumption) | assumption); obtain ⟨ad389, e389, hx389_0⟩ := Kd.at_int (Kd.R_reads' HO_7.out).2.2 x14_3 p389 q389; cases e389; replace p389 := eq_true p389; replace q389 := eq_true q389; have p390 : 0 ≤ (x14_3 : Int) := of_decide_eq_true (by first | (with_reducible assumption) | assumption); have q390 : x14_3 < (t360.length : Int) := of_decide_eq_true (by first | (with_reducible assumption) | assumption); obtain ⟨ad390, e390, hx390_0⟩ := Kd.at_int (Kd.R_reads' HO_7.out).2.2 x14_3 p390 q390; obtain rfl : ad389 = ad390 := (by injection e390); replace p390 := eq_true p390; replace q390 := eq_true q390))
                                      go_ret
                                      exact ⟨by first | rfl | (simp [errW_none, errW_some] <;> rfl) | (simp [*, errW_none, errW_some] <;> rfl), by repeat (first | (with_reducible first | exact HB.out | apply below_alloc | apply pw_below_drewN | apply below_drew1) | exact HB.out)⟩
                                    · rw [if_neg c60] at H
                                      have c60b0 : decide (t384 < (rd t360 x14_3)) = false := decide_eq_false c60
                                      clear c60
                                      by_cases c63 : (rd t360 x14_3) < (wrap64 (-t384))
                                      · rw [if_pos c63] at H
                                        have c63b0 : decide ((rd t360 x14_3) < (wrap64 (-t384))) = true := decide_eq_true c63
                                        clear c63
                                        obtain rfl := Option.some.inj H
                                        obtain ⟨Ao64, co64, eo64⟩ := Kd.V_slice HO_11.out
                                        subst eo64
                                        have p386 : 0 ≤ (x14_3 : Int) := of_decide_eq_true (by first | (with_reducible assumption) | assumption)
                                        have q386 : x14_3 < (t380.length : Int) := of_decide_eq_true (by first | (with_reducible assumption) | assumption)
                                        obtain ⟨ad386, e386, hx386_0⟩ := Kd.at_int (Kd.V_reads' HO_11.out).2.2 x14_3 p386 q386
                                        cases e386
                                        replace p386 := eq_true p386
                                        replace q386 := eq_true q386
                                        go_wp2_with (first | ((with_reducible refine gate_callee (f := 30) rfl ?_); refine goesL_ (some 129) rfl rfl Try.func30 (by kernel_rfl) rfl #[.int .i64 x15_48, .int .i64 (rd t380 x14_3)] rfl (by (try simp only [List.map_toArray, List.map_cons, List.map_nil]); first | done | rfl | (simp only [List.length_drop, List.length_take]; rfl)) ?_; (with_reducible refine (impl_Centered.calls kj48 x15_48 (rd t380 x14_3) t387 true _ A56.out).mono ?_); rintro e w65 ⟨rfl, hb⟩; refine ⟨_, rfl, ?_⟩; have n0_ := Aside0.mk (Kd.R_below (by (with_reducible repeat (first | apply Kd.R_alloc | apply Kd.R_drewN | apply Kd.R_drew)); exact HO_7.out) hb); have n1_ := Aside0.mk (Kd.V_below (by (with_reducible repeat (first | apply Kd.V_alloc | apply Kd.V_drewN | apply Kd.V_drew)); exact HO_9.out) hb); have n2_ := Aside0.mk (Kd.V_below (by (with_reducible repeat (first | apply Kd.V_alloc | apply Kd.V_drewN | apply Kd.V_drew)); exact HO_11.out) hb); have n3_ := Aside0.mk (below_step (by repeat (first | (with_reducible first | exact HB.out | apply below_alloc | apply pw_below_drewN | apply below_drew1) | exact HB.out)) hb); clear HO_7; clear HO_9; clear HO_11; clear HB; have HO_7 := n0_; have HO_9 := n1_; have HO_11 := n2_; have HB := n3_; clear n0_ n1_ n2_ n3_; (try clear hb); (try clear hb2); (try clear hk); (try clear hi); have p389 : 0 ≤ (x14_3 : Int) := of_decide_eq_true (by first | (with_reducible assumption) | assumption); have q389 : x14_3 < (t360.length : Int) := of_decide_eq_true (by first | (with_reducible assumption) | assumption); obtain ⟨ad389, e389, hx389_0⟩ := Kd.at_int (Kd.R_reads' HO_7.out).2.2 x14_3 p389 q389; cases e389; replace p389 := eq_true p389; replace q389 := eq_true q389; have p390 : 0 ≤ (x14_3 : Int) := of_decide_eq_true (by first | (with_reducible assumption) | assumption); have q390 : x14_3 < (t360.length : Int) := of_decide_eq_true (by first | (with_reducible assumption) | assumption); obtain ⟨ad390, e390, hx390_0⟩ := Kd.at_int (Kd.R_reads' HO_7.out).2.2 x14_3 p390 q390; obtain rfl : ad389 = ad390 := (by injection e390); replace p390 := eq_true p390; replace q390 := eq_true q390; have p391 : 0 ≤ (x14_3 : Int) := of_decide_eq_true (by first | (with_reducible assumption) | assumption); have q391 : x14_3 < (t360.length : Int) := of_decide_eq_true (by first | (with_reducible assumption) | assumption); obtain ⟨ad391, e391, hx391_0⟩ := Kd.at_int (Kd.R_reads' HO_7.out).2.2 x14_3 p391 q391; obtain rfl : ad389 = ad391 := (by injection e391); replace p391 := eq_true p391; replace q391 := eq_true q391))
                                        go_ret
                                        exact ⟨by first | rfl | (simp [errW_none, errW_some] <;> rfl) | (simp [*, errW_none, errW_some] <;> rfl), by repeat (first | (with_reducible first | exact HB.out | apply below_alloc | apply pw_below_drewN | apply below_drew1) | exact HB.out)⟩
                                      · rw [if_neg c63] at H
                                        have c63b0 : decide ((rd t360 x14_3) < (wrap64 (-t384))) = false := decide_eq_false c63
                                        clear c63
                                        have H' := Aside0.mk H
                                        clear H
                                        obtain ⟨Ao66, co66, eo66⟩ := Kd.V_slice HO_11.out
                                        subst eo66
                                        have p386 : 0 ≤ (x14_3 : Int) := of_decide_eq_true (by first | (with_reducible assumption) | assumption)
                                        have q386 : x14_3 < (t380.length : Int) := of_decide_eq_true (by first | (with_reducible assumption) | assumption)
                                        obtain ⟨ad386, e386, hx386_0⟩ := Kd.at_int (Kd.V_reads' HO_11.out).2.2 x14_3 p386 q386
                                        cases e386
                                        replace p386 := eq_true p386
                                        replace q386 := eq_true q386
                                        go_wp2_with (first | ((with_reducible refine gate_callee (f := 30) rfl ?_); refine goesL_ (some 129) rfl rfl Try.func30 (by kernel_rfl) rfl #[.int .i64 x15_48, .int .i64 (rd t380 x14_3)] rfl (by (try simp only [List.map_toArray, List.map_cons, List.map_nil]); first | done | rfl | (simp only [List.length_drop, List.length_take]; rfl)) ?_; (with_reducible refine (impl_Centered.calls kj48 x15_48 (rd t380 x14_3) t387 true _ A56.out).mono ?_); rintro e w67 ⟨rfl, hb⟩; refine ⟨_, rfl, ?_⟩; have n0_ := Aside0.mk (Kd.R_below (by (with_reducible repeat (first | apply Kd.R_alloc | apply Kd.R_drewN | apply Kd.R_drew)); exact HO_7.out) hb); have n1_ := Aside0.mk (Kd.V_below (by (with_reducible repeat (first | apply Kd.V_alloc | apply Kd.V_drewN | apply Kd.V_drew)); exact HO_9.out) hb); have n2_ := Aside0.mk (Kd.V_below (by (with_reducible repeat (first | apply Kd.V_alloc | apply Kd.V_drewN | apply Kd.V_drew)); exact HO_11.out) hb); have n3_ := Aside0.mk (below_step (by repeat (first | (with_reducible first | exact HB.out | apply below_alloc | apply pw_below_drewN | apply below_drew1) | exact HB.out)) hb); clear HO_7; clear HO_9; clear HO_11; clear HB; have HO_7 := n0_; have HO_9 := n1_; have HO_11 := n2_; have HB := n3_; clear n0_ n1_ n2_ n3_; (try clear hb); (try clear hb2); (try clear hk); (try clear hi); have p389 : 0 ≤ (x14_3 : Int) := of_decide_eq_true (by first | (with_reducible assumption) | assumption); have q389 : x14_3 < (t360.length : Int) := of_decide_eq_true (by first | (with_reducible assumption) | assumption); obtain ⟨ad389, e389, hx389_0⟩ := Kd.at_int (Kd.R_reads' HO_7.out).2.2 x14_3 p389 q389; cases e389; replace p389 := eq_true p389; replace q389 := eq_true q389; have p390 : 0 ≤ (x14_3 : Int) := of_decide_eq_true (by first | (with_reducible assumption) | assumption); have q390 : x14_3 < (t360.length : Int) := of_decide_eq_true (by first | (with_reducible assumption) | assumption); obtain ⟨ad390, e390, hx390_0⟩ := Kd.at_int (Kd.R_reads' HO_7.out).2.2 x14_3 p390 q390; obtain rfl : ad389 = ad390 := (by injection e390); replace p390 := eq_true p390; replace q390 := eq_true q390; have p391 : 0 ≤ (x14_3 : Int) := of_decide_eq_true (by first | (with_reducible assumption) | assumption); have q391 : x14_3 < (t360.length : Int) := of_decide_eq_true (by first | (with_reducible assumption) | assumption); obtain ⟨ad391, e391, hx391_0⟩ := Kd.at_int (Kd.R_reads' HO_7.out).2.2 x14_3 p391 q391; obtain rfl : ad389 = ad391 := (by injection e391); replace p391 := eq_true p391; replace q391 := eq_true q391))
                                        go_roundg kj48
                                        case measure => have := HJ5.out; have := HJ24.out; have := HK3.out; have := HJ48.out; omega
                                        case rel => exact ⟨(wrap64 (x14_3 + 1)), (by first | rfl | (simp; done) | (simp [*]; done)), H', ⟨by have := HJ5.out; have := HJ24.out; have := HK3.out; have := HJ48.out; omega⟩, ⟨by (with_reducible repeat (first | apply Kd.R_alloc | apply Kd.R_drewN | apply Kd.R_drew)); exact HO_7.out⟩, ⟨by (with_reducible repeat (first | apply Kd.V_alloc | apply Kd.V_drewN | apply Kd.V_drew)); exact HO_9.out⟩, ⟨by (with_reducible repeat (first | apply Kd.V_alloc | apply Kd.V_drewN | apply Kd.V_drew)); exact HO_11.out⟩, ⟨by repeat (first | (with_reducible first | exact HB.out | apply below_alloc | apply pw_below_drewN | apply below_drew1) | exact HB.out)⟩⟩
                                  · rw [if_neg c59] at H
                                    have c59b0 : (t387 == (rd t360 x14_3)) = false := beq_eq_false_iff_ne.mpr c59
                                    have c59b1 : (t387 != (rd t360 x14_3)) = true := bne_iff_ne.mpr c59
                                    obtain rfl := Option.some.inj H
                                    obtain ⟨Ao68, co68, eo68⟩ := Kd.V_slice HO_11.out
                                    subst eo68
                                    have p386 : 0 ≤ (x14_3 : Int) := of_decide_eq_true (by first | (with_reducible assumption) | assumption)
                                    have q386 : x14_3 < (t380.length : Int) := of_decide_eq_true (by first | (with_reducible assumption) | assumption)
                                    obtain ⟨ad386, e386, hx386_0⟩ := Kd.at_int (Kd.V_reads' HO_11.out).2.2 x14_3 p386 q386
                                    cases e386
                                    replace p386 := eq_true p386
                                    replace q386 := eq_true q386
                                    go_wp2_with (first | ((with_reducible refine gate_callee (f := 30) rfl ?_); refine goesL_ (some 129) rfl rfl Try.func30 (by kernel_rfl) rfl #[.int .i64 x15_48, .int .i64 (rd t380 x14_3)] rfl (by (try simp only [List.map_toArray, List.map_cons, List.map_nil]); first | done | rfl | (simp only [List.length_drop, List.length_take]; rfl)) ?_; (with_reducible refine (impl_Centered.calls kj48 x15_48 (rd t380 x14_3) t387 true _ A56.out).mono ?_); rintro e w69 ⟨rfl, hb⟩; refine ⟨_, rfl, ?_⟩; have n0_ := Aside0.mk (Kd.R_below (by (with_reducible repeat (first | apply Kd.R_alloc | apply Kd.R_drewN | apply Kd.R_drew)); exact HO_7.out) hb); have n1_ := Aside0.mk (Kd.V_below (by (with_reducible repeat (first | apply Kd.V_alloc | apply Kd.V_drewN | apply Kd.V_drew)); exact HO_9.out) hb); have n2_ := Aside0.mk (Kd.V_below (by (with_reducible repeat (first | apply Kd.V_alloc | apply Kd.V_drewN | apply Kd.V_drew)); exact HO_11.out) hb); have n3_ := Aside0.mk (below_step (by repeat (first | (with_reducible first | exact HB.out | apply below_alloc | apply pw_below_drewN | apply below_drew1) | exact HB.out)) hb); clear HO_7; clear HO_9; clear HO_11; clear HB; have HO_7 := n0_; have HO_9 := n1_; have HO_11 := n2_; have HB := n3_; clear n0_ n1_ n2_ n3_; (try clear hb); (try clear hb2); (try clear hk); (try clear hi); have p389 : 0 ≤ (x14_3 : Int) := of_decide_eq_true (by first | (with_reducible assumption) | assumption); have q389 : x14_3 < (t360.length : Int) := of_decide_eq_true (by first | (with_reducible assumption) | assumption); obtain ⟨ad389, e389, hx389_0⟩ := Kd.at_int (Kd.R_reads' HO_7.out).2.2 x14_3 p389 q389; cases e389; replace p389 := eq_true p389; replace q389 := eq_true q389))
                                    go_ret
                                    exact ⟨by first | rfl | (simp [errW_none, errW_some] <;> rfl) | (simp [*, errW_none, errW_some] <;> rfl), by repeat (first | (with_reducible first | exact HB.out | apply below_alloc | apply pw_below_drewN | apply below_drew1) | exact HB.out)⟩
                                · rw [if_neg c58] at H
                                  exact absurd H (by simp)
                              · replace c57 := Bool.eq_false_iff.mpr c57
                                subst c57
                                have H1 : (some false) = some r := by rw [if_neg (show ¬ (false = true) by decide)] at H; exact H
                                clear H
                                have H := H1
                                clear H1
                                obtain rfl := Option.some.inj H
                                obtain ⟨Ao70, co70, eo70⟩ := Kd.V_slice HO_11.out
                                subst eo70
                                have p386 : 0 ≤ (x14_3 : Int) := of_decide_eq_true (by first | (with_reducible assumption) | assumption)
                                have q386 : x14_3 < (t380.length : Int) := of_decide_eq_true (by first | (with_reducible assumption) | assumption)
                                obtain ⟨ad386, e386, hx386_0⟩ := Kd.at_int (Kd.V_reads' HO_11.out).2.2 x14_3 p386 q386
                                cases e386
                                replace p386 := eq_true p386
                                replace q386 := eq_true q386
                                go_wp2_with (first | ((with_reducible refine gate_callee (f := 30) rfl ?_); refine goesL_ (some 129) rfl rfl Try.func30 (by kernel_rfl) rfl #[.int .i64 x15_48, .int .i64 (rd t380 x14_3)] rfl (by (try simp only [List.map_toArray, List.map_cons, List.map_nil]); first | done | rfl | (simp only [List.length_drop, List.length_take]; rfl)) ?_; (with_reducible refine (impl_Centered.calls kj48 x15_48 (rd t380 x14_3) t387 false _ A56.out).mono ?_); rintro e w71 ⟨rfl, hb⟩; refine ⟨_, rfl, ?_⟩; have n0_ := Aside0.mk (Kd.R_below (by (with_reducible repeat (first | apply Kd.R_alloc | apply Kd.R_drewN | apply Kd.R_drew)); exact HO_7.out) hb); have n1_ := Aside0.mk (Kd.V_below (by (with_reducible repeat (first | apply Kd.V_alloc | apply Kd.V_drewN | apply Kd.V_drew)); exact HO_9.out) hb); have n2_ := Aside0.mk (Kd.V_below (by (with_reducible repeat (first | apply Kd.V_alloc | apply Kd.V_drewN | apply Kd.V_drew)); exact HO_11.out) hb); have n3_ := Aside0.mk (below_step (by repeat (first | (with_reducible first | exact HB.out | apply below_alloc | apply pw_below_drewN | apply below_drew1) | exact HB.out)) hb); clear HO_7; clear HO_9; clear HO_11; clear HB; have HO_7 := n0_; have HO_9 := n1_; have HO_11 := n2_; have HB := n3_; clear n0_ n1_ n2_ n3_; (try clear hb); (try clear hb2); (try clear hk); (try clear hi)))
                                go_ret
                                exact ⟨by first | rfl | (simp [errW_none, errW_some] <;> rfl) | (simp [*, errW_none, errW_some] <;> rfl), by repeat (first | (with_reducible first | exact HB.out | apply below_alloc | apply pw_below_drewN | apply below_drew1) | exact HB.out)⟩
                            · rw [if_neg c55] at H
                              exact absurd H (by simp)
                          · rw [if_neg c54] at H
                            have c54b0 : decide (x14_3 < (t380.length : Int)) = false := decide_eq_false c54
                            clear c54
                            replace H := Option.bind_eq_some_iff.mp H
                            obtain ⟨⟨t392, t393⟩, A720, H⟩ := H
                            replace H : (if t393 = true then (if 0 ≤ x14_3 then (if x14_3 < (t360.length : Int) then (if t392 = (rd t360 x14_3) then (if (rd t360 x14_3) > t384 then (some false) else (if (rd t360 x14_3) < (wrap64 (-t384)) then (some false) else (laws_FnConvByFields.l0 kj48 t360 t370 t380 t384 (wrap64 (x14_3 + 1))))) else (some false)) else (none)) else (none)) else (some false)) = some r := H
                            have A72 := Aside0.mk A720
                            clear A720
                            by_cases c73 : t393 = true
                            · subst c73
                              have H1 : (if 0 ≤ x14_3 then (if x14_3 < (t360.length : Int) then (if t392 = (rd t360 x14_3) then (if (rd t360 x14_3) > t384 then (some false) else (if (rd t360 x14_3) < (wrap64 (-t384)) then (some false) else (laws_FnConvByFields.l0 kj48 t360 t370 t380 t384 (wrap64 (x14_3 + 1))))) else (some false)) else (none)) else (none)) = some r := by rw [if_pos rfl] at H; exact H
                              clear H
                              have H := H1
                              clear H1
                              by_cases c74 : 0 ≤ x14_3
                              · rw [if_pos c74] at H
                                have c74b0 : decide (0 ≤ x14_3) = true := decide_eq_true c74
                                clear c74
                                by_cases c75 : x14_3 < (t360.length : Int)
                                · rw [if_pos c75] at H
                                  have c75b0 : decide (x14_3 < (t360.length : Int)) = true := decide_eq_true c75
                                  clear c75
                                  by_cases c76 : t392 = (rd t360 x14_3)
                                  · rw [if_pos c76] at H
                                    have c76b0 : (t392 == (rd t360 x14_3)) = true := beq_iff_eq.mpr c76
                                    have c76b1 : (t392 != (rd t360 x14_3)) = false := bne_eq_false_iff_eq.mpr c76
                                    clear c76
                                    by_cases c77 : (rd t360 x14_3) > t384
                                    · rw [if_pos c77] at H
                                      have c77b0 : decide (t384 < (rd t360 x14_3)) = true := decide_eq_true c77
                                      clear c77
                                      obtain rfl := Option.some.inj H
                                      obtain ⟨Ao78, co78, eo78⟩ := Kd.V_slice HO_11.out
                                      subst eo78
                                      go_wp2_with (first | ((with_reducible refine gate_callee (f := 30) rfl ?_); refine goesL_ (some 129) rfl rfl Try.func30 (by kernel_rfl) rfl #[.int .i64 x15_48, .int .i64 0] rfl (by (try simp only [List.map_toArray, List.map_cons, List.map_nil]); first | done | rfl | (simp only [List.length_drop, List.length_take]; rfl)) ?_; (with_reducible refine (impl_Centered.calls kj48 x15_48 0 t392 true _ A72.out).mono ?_); rintro e w79 ⟨rfl, hb⟩; refine ⟨_, rfl, ?_⟩; have n0_ := Aside0.mk (Kd.R_below (by (with_reducible repeat (first | apply Kd.R_alloc | apply Kd.R_drewN | apply Kd.R_drew)); exact HO_7.out) hb); have n1_ := Aside0.mk (Kd.V_below (by (with_reducible repeat (first | apply Kd.V_alloc | apply Kd.V_drewN | apply Kd.V_drew)); exact HO_9.out) hb); have n2_ := Aside0.mk (Kd.V_below (by (with_reducible repeat (first | apply Kd.V_alloc | apply Kd.V_drewN | apply Kd.V_drew)); exact HO_11.out) hb); have n3_ := Aside0.mk (below_step (by repeat (first | (with_reducible first | exact HB.out | apply below_alloc | apply pw_below_drewN | apply below_drew1) | exact HB.out)) hb); clear HO_7; clear HO_9; clear HO_11; clear HB; have HO_7 := n0_; have HO_9 := n1_; have HO_11 := n2_; have HB := n3_; clear n0_ n1_ n2_ n3_; (try clear hb); (try clear hb2); (try clear hk); (try clear hi); have p394 : 0 ≤ (x14_3 : Int) := of_decide_eq_true (by first | (with_reducible assumption) | assumption); have q394 : x14_3 < (t360.length : Int) := of_decide_eq_true (by first | (with_reducible assumption) | assumption); obtain ⟨ad394, e394, hx394_0⟩ := Kd.at_int (Kd.R_reads' HO_7.out).2.2 x14_3 p394 q394; cases e394; replace p394 := eq_true p394; replace q394 := eq_true q394; have p395 : 0 ≤ (x14_3 : Int) := of_decide_eq_true (by first | (with_reducible assumption) | assumption); have q395 : x14_3 < (t360.length : Int) := of_decide_eq_true (by first | (with_reducible assumption) | assumption); obtain ⟨ad395, e395, hx395_0⟩ := Kd.at_int (Kd.R_reads' HO_7.out).2.2 x14_3 p395 q395; obtain rfl : ad394 = ad395 := (by injection e395); replace p395 := eq_true p395; replace q395 := eq_true q395))
                                      go_ret
                                      exact ⟨by first | rfl | (simp [errW_none, errW_some] <;> rfl) | (simp [*, errW_none, errW_some] <;> rfl), by repeat (first | (with_reducible first | exact HB.out | apply below_alloc | apply pw_below_drewN | apply below_drew1) | exact HB.out)⟩
                                    · rw [if_neg c77] at H
                                      have c77b0 : decide (t384 < (rd t360 x14_3)) = false := decide_eq_false c77
                                      clear c77
                                      by_cases c80 : (rd t360 x14_3) < (wrap64 (-t384))
                                      · rw [if_pos c80] at H
                                        have c80b0 : decide ((rd t360 x14_3) < (wrap64 (-t384))) = true := decide_eq_true c80
                                        clear c80
                                        obtain rfl := Option.some.inj H
                                        obtain ⟨Ao81, co81, eo81⟩ := Kd.V_slice HO_11.out
                                        subst eo81
                                        go_wp2_with (first | ((with_reducible refine gate_callee (f := 30) rfl ?_); refine goesL_ (some 129) rfl rfl Try.func30 (by kernel_rfl) rfl #[.int .i64 x15_48, .int .i64 0] rfl (by (try simp only [List.map_toArray, List.map_cons, List.map_nil]); first | done | rfl | (simp only [List.length_drop, List.length_take]; rfl)) ?_; (with_reducible refine (impl_Centered.calls kj48 x15_48 0 t392 true _ A72.out).mono ?_); rintro e w82 ⟨rfl, hb⟩; refine ⟨_, rfl, ?_⟩; have n0_ := Aside0.mk (Kd.R_below (by (with_reducible repeat (first | apply Kd.R_alloc | apply Kd.R_drewN | apply Kd.R_drew)); exact HO_7.out) hb); have n1_ := Aside0.mk (Kd.V_below (by (with_reducible repeat (first | apply Kd.V_alloc | apply Kd.V_drewN | apply Kd.V_drew)); exact HO_9.out) hb); have n2_ := Aside0.mk (Kd.V_below (by (with_reducible repeat (first | apply Kd.V_alloc | apply Kd.V_drewN | apply Kd.V_drew)); exact HO_11.out) hb); have n3_ := Aside0.mk (below_step (by repeat (first | (with_reducible first | exact HB.out | apply below_alloc | apply pw_below_drewN | apply below_drew1) | exact HB.out)) hb); clear HO_7; clear HO_9; clear HO_11; clear HB; have HO_7 := n0_; have HO_9 := n1_; have HO_11 := n2_; have HB := n3_; clear n0_ n1_ n2_ n3_; (try clear hb); (try clear hb2); (try clear hk); (try clear hi); have p394 : 0 ≤ (x14_3 : Int) := of_decide_eq_true (by first | (with_reducible assumption) | assumption); have q394 : x14_3 < (t360.length : Int) := of_decide_eq_true (by first | (with_reducible assumption) | assumption); obtain ⟨ad394, e394, hx394_0⟩ := Kd.at_int (Kd.R_reads' HO_7.out).2.2 x14_3 p394 q394; cases e394; replace p394 := eq_true p394; replace q394 := eq_true q394; have p395 : 0 ≤ (x14_3 : Int) := of_decide_eq_true (by first | (with_reducible assumption) | assumption); have q395 : x14_3 < (t360.length : Int) := of_decide_eq_true (by first | (with_reducible assumption) | assumption); obtain ⟨ad395, e395, hx395_0⟩ := Kd.at_int (Kd.R_reads' HO_7.out).2.2 x14_3 p395 q395; obtain rfl : ad394 = ad395 := (by injection e395); replace p395 := eq_true p395; replace q395 := eq_true q395; have p396 : 0 ≤ (x14_3 : Int) := of_decide_eq_true (by first | (with_reducible assumption) | assumption); have q396 : x14_3 < (t360.length : Int) := of_decide_eq_true (by first | (with_reducible assumption) | assumption); obtain ⟨ad396, e396, hx396_0⟩ := Kd.at_int (Kd.R_reads' HO_7.out).2.2 x14_3 p396 q396; obtain rfl : ad394 = ad396 := (by injection e396); replace p396 := eq_true p396; replace q396 := eq_true q396))
                                        go_ret
                                        exact ⟨by first | rfl | (simp [errW_none, errW_some] <;> rfl) | (simp [*, errW_none, errW_some] <;> rfl), by repeat (first | (with_reducible first | exact HB.out | apply below_alloc | apply pw_below_drewN | apply below_drew1) | exact HB.out)⟩
                                      · rw [if_neg c80] at H
                                        have c80b0 : decide ((rd t360 x14_3) < (wrap64 (-t384))) = false := decide_eq_false c80
                                        clear c80
                                        have H' := Aside0.mk H
                                        clear H
                                        obtain ⟨Ao83, co83, eo83⟩ := Kd.V_slice HO_11.out
                                        subst eo83
                                        go_wp2_with (first | ((with_reducible refine gate_callee (f := 30) rfl ?_); refine goesL_ (some 129) rfl rfl Try.func30 (by kernel_rfl) rfl #[.int .i64 x15_48, .int .i64 0] rfl (by (try simp only [List.map_toArray, List.map_cons, List.map_nil]); first | done | rfl | (simp only [List.length_drop, List.length_take]; rfl)) ?_; (with_reducible refine (impl_Centered.calls kj48 x15_48 0 t392 true _ A72.out).mono ?_); rintro e w84 ⟨rfl, hb⟩; refine ⟨_, rfl, ?_⟩; have n0_ := Aside0.mk (Kd.R_below (by (with_reducible repeat (first | apply Kd.R_alloc | apply Kd.R_drewN | apply Kd.R_drew)); exact HO_7.out) hb); have n1_ := Aside0.mk (Kd.V_below (by (with_reducible repeat (first | apply Kd.V_alloc | apply Kd.V_drewN | apply Kd.V_drew)); exact HO_9.out) hb); have n2_ := Aside0.mk (Kd.V_below (by (with_reducible repeat (first | apply Kd.V_alloc | apply Kd.V_drewN | apply Kd.V_drew)); exact HO_11.out) hb); have n3_ := Aside0.mk (below_step (by repeat (first | (with_reducible first | exact HB.out | apply below_alloc | apply pw_below_drewN | apply below_drew1) | exact HB.out)) hb); clear HO_7; clear HO_9; clear HO_11; clear HB; have HO_7 := n0_; have HO_9 := n1_; have HO_11 := n2_; have HB := n3_; clear n0_ n1_ n2_ n3_; (try clear hb); (try clear hb2); (try clear hk); (try clear hi); have p394 : 0 ≤ (x14_3 : Int) := of_decide_eq_true (by first | (with_reducible assumption) | assumption); have q394 : x14_3 < (t360.length : Int) := of_decide_eq_true (by first | (with_reducible assumption) | assumption); obtain ⟨ad394, e394, hx394_0⟩ := Kd.at_int (Kd.R_reads' HO_7.out).2.2 x14_3 p394 q394; cases e394; replace p394 := eq_true p394; replace q394 := eq_true q394; have p395 : 0 ≤ (x14_3 : Int) := of_decide_eq_true (by first | (with_reducible assumption) | assumption); have q395 : x14_3 < (t360.length : Int) := of_decide_eq_true (by first | (with_reducible assumption) | assumption); obtain ⟨ad395, e395, hx395_0⟩ := Kd.at_int (Kd.R_reads' HO_7.out).2.2 x14_3 p395 q395; obtain rfl : ad394 = ad395 := (by injection e395); replace p395 := eq_true p395; replace q395 := eq_true q395; have p396 : 0 ≤ (x14_3 : Int) := of_decide_eq_true (by first | (with_reducible assumption) | assumption); have q396 : x14_3 < (t360.length : Int) := of_decide_eq_true (by first | (with_reducible assumption) | assumption); obtain ⟨ad396, e396, hx396_0⟩ := Kd.at_int (Kd.R_reads' HO_7.out).2.2 x14_3 p396 q396; obtain rfl : ad394 = ad396 := (by injection e396); replace p396 := eq_true p396; replace q396 := eq_true q396))
                                        go_roundg kj48
                                        case measure => have := HJ5.out; have := HJ24.out; have := HK3.out; have := HJ48.out; omega
                                        case rel => exact ⟨(wrap64 (x14_3 + 1)), (by first | rfl | (simp; done) | (simp [*]; done)), H', ⟨by have := HJ5.out; have := HJ24.out; have := HK3.out; have := HJ48.out; omega⟩, ⟨by (with_reducible repeat (first | apply Kd.R_alloc | apply Kd.R_drewN | apply Kd.R_drew)); exact HO_7.out⟩, ⟨by (with_reducible repeat (first | apply Kd.V_alloc | apply Kd.V_drewN | apply Kd.V_drew)); exact HO_9.out⟩, ⟨by (with_reducible repeat (first | apply Kd.V_alloc | apply Kd.V_drewN | apply Kd.V_drew)); exact HO_11.out⟩, ⟨by repeat (first | (with_reducible first | exact HB.out | apply below_alloc | apply pw_below_drewN | apply below_drew1) | exact HB.out)⟩⟩
                                  · rw [if_neg c76] at H
                                    have c76b0 : (t392 == (rd t360 x14_3)) = false := beq_eq_false_iff_ne.mpr c76
                                    have c76b1 : (t392 != (rd t360 x14_3)) = true := bne_iff_ne.mpr c76
                                    obtain rfl := Option.some.inj H
                                    obtain ⟨Ao85, co85, eo85⟩ := Kd.V_slice HO_11.out
                                    subst eo85
                                    go_wp2_with (first | ((with_reducible refine gate_callee (f := 30) rfl ?_); refine goesL_ (some 129) rfl rfl Try.func30 (by kernel_rfl) rfl #[.int .i64 x15_48, .int .i64 0] rfl (by (try simp only [List.map_toArray, List.map_cons, List.map_nil]); first | done | rfl | (simp only [List.length_drop, List.length_take]; rfl)) ?_; (with_reducible refine (impl_Centered.calls kj48 x15_48 0 t392 true _ A72.out).mono ?_); rintro e w86 ⟨rfl, hb⟩; refine ⟨_, rfl, ?_⟩; have n0_ := Aside0.mk (Kd.R_below (by (with_reducible repeat (first | apply Kd.R_alloc | apply Kd.R_drewN | apply Kd.R_drew)); exact HO_7.out) hb); have n1_ := Aside0.mk (Kd.V_below (by (with_reducible repeat (first | apply Kd.V_alloc | apply Kd.V_drewN | apply Kd.V_drew)); exact HO_9.out) hb); have n2_ := Aside0.mk (Kd.V_below (by (with_reducible repeat (first | apply Kd.V_alloc | apply Kd.V_drewN | apply Kd.V_drew)); exact HO_11.out) hb); have n3_ := Aside0.mk (below_step (by repeat (first | (with_reducible first | exact HB.out | apply below_alloc | apply pw_below_drewN | apply below_drew1) | exact HB.out)) hb); clear HO_7; clear HO_9; clear HO_11; clear HB; have HO_7 := n0_; have HO_9 := n1_; have HO_11 := n2_; have HB := n3_; clear n0_ n1_ n2_ n3_; (try clear hb); (try clear hb2); (try clear hk); (try clear hi); have p394 : 0 ≤ (x14_3 : Int) := of_decide_eq_true (by first | (with_reducible assumption) | assumption); have q394 : x14_3 < (t360.length : Int) := of_decide_eq_true (by first | (with_reducible assumption) | assumption); obtain ⟨ad394, e394, hx394_0⟩ := Kd.at_int (Kd.R_reads' HO_7.out).2.2 x14_3 p394 q394; cases e394; replace p394 := eq_true p394; replace q394 := eq_true q394))
                                    go_ret
                                    exact ⟨by first | rfl | (simp [errW_none, errW_some] <;> rfl) | (simp [*, errW_none, errW_some] <;> rfl), by repeat (first | (with_reducible first | exact HB.out | apply below_alloc | apply pw_below_drewN | apply below_drew1) | exact HB.out)⟩
                                · rw [if_neg c75] at H
                                  exact absurd H (by simp)
                              · rw [if_neg c74] at H
                                exact absurd H (by simp)
                            · replace c73 := Bool.eq_false_iff.mpr c73
                              subst c73
                              have H1 : (some false) = some r := by rw [if_neg (show ¬ (false = true) by decide)] at H; exact H
                              clear H
                              have H := H1
                              clear H1
                              obtain rfl := Option.some.inj H
                              obtain ⟨Ao87, co87, eo87⟩ := Kd.V_slice HO_11.out
                              subst eo87
                              go_wp2_with (first | ((with_reducible refine gate_callee (f := 30) rfl ?_); refine goesL_ (some 129) rfl rfl Try.func30 (by kernel_rfl) rfl #[.int .i64 x15_48, .int .i64 0] rfl (by (try simp only [List.map_toArray, List.map_cons, List.map_nil]); first | done | rfl | (simp only [List.length_drop, List.length_take]; rfl)) ?_; (with_reducible refine (impl_Centered.calls kj48 x15_48 0 t392 false _ A72.out).mono ?_); rintro e w88 ⟨rfl, hb⟩; refine ⟨_, rfl, ?_⟩; have n0_ := Aside0.mk (Kd.R_below (by (with_reducible repeat (first | apply Kd.R_alloc | apply Kd.R_drewN | apply Kd.R_drew)); exact HO_7.out) hb); have n1_ := Aside0.mk (Kd.V_below (by (with_reducible repeat (first | apply Kd.V_alloc | apply Kd.V_drewN | apply Kd.V_drew)); exact HO_9.out) hb); have n2_ := Aside0.mk (Kd.V_below (by (with_reducible repeat (first | apply Kd.V_alloc | apply Kd.V_drewN | apply Kd.V_drew)); exact HO_11.out) hb); have n3_ := Aside0.mk (below_step (by repeat (first | (with_reducible first | exact HB.out | apply below_alloc | apply pw_below_drewN | apply below_drew1) | exact HB.out)) hb); clear HO_7; clear HO_9; clear HO_11; clear HB; have HO_7 := n0_; have HO_9 := n1_; have HO_11 := n2_; have HB := n3_; clear n0_ n1_ n2_ n3_; (try clear hb); (try clear hb2); (try clear hk); (try clear hi)))
                              go_ret
                              exact ⟨by first | rfl | (simp [errW_none, errW_some] <;> rfl) | (simp [*, errW_none, errW_some] <;> rfl), by repeat (first | (with_reducible first | exact HB.out | apply below_alloc | apply pw_below_drewN | apply below_drew1) | exact HB.out)⟩
                    · rw [if_neg c48] at H
                      have c48b0 : decide (x14_3 < (t360.length : Int)) = false := decide_eq_false c48
                      clear c48
                      obtain rfl := Option.some.inj H
                      obtain ⟨Ao89, co89, eo89⟩ := Kd.R_slice HO_7.out
                      subst eo89
                      go_wp2
                      go_ret
                      exact ⟨by first | rfl | (simp [errW_none, errW_some] <;> rfl) | (simp [*, errW_none, errW_some] <;> rfl), by repeat (first | (with_reducible first | exact HB.out | apply below_alloc | apply pw_below_drewN | apply below_drew1) | exact HB.out)⟩

/-- THE ONE PURE STATEMENT of laws_FnConvByFields: yours. -/
def laws_FnConvByFields.Pure : Prop := ∀ (l0 : List Int), l0.length ≤ maxLen → l0.length * 1 ≤ 140737488351232 → (∀ x ∈ l0, (Lit.int .u8 x).wf = true) → ∃ k, laws_FnConvByFields.f k l0 = some true
theorem laws_FnConvByFields.walk (P : laws_FnConvByFields.Pure) (a0 : Option Addr) (len0 cap0 : Nat) (z0 : List Int) (w : World) (w0 : (a0 = none ∧ len0 = 0 ∧ cap0 = 0 ∧ z0 = []) ∨ ∃ x, a0 = some x ∧ len0 ≤ cap0 ∧ cap0 ≤ maxLen ∧ z0.length = cap0 ∧ (∀ i, i < z0.length → w.cell? (x.add i) = some (.int .u8 (z0.getD i 0))) ∧ ∀ n ∈ z0, (Lit.int .u8 n).wf = true) (y0 : len0 * 1 ≤ 140737488351232) :
    Calls Try.prog 6 #[.slice a0 len0 cap0] w fun e w' => e = .returned (.bool true) ∧ Below w.heap.size w w' := by
  obtain ⟨l0, rfl, hr0, hm0, hw0, hc0⟩ := ReadsInt.ofRowC w0
  obtain ⟨k, h⟩ := P l0 hm0 y0 hw0
  refine (laws_FnConvByFields.calls k _ _ l0 true w (Kd.C_of_reads (d := (0 : Int)) (h1 := fun _ => rfl) hr0) hc0 h).mono ?_
  rintro e w' ⟨rfl, hd⟩
  exact ⟨rfl, hd⟩

end Go.Proofs.Ytemffnnndjpleaa.PFnConvByFields
