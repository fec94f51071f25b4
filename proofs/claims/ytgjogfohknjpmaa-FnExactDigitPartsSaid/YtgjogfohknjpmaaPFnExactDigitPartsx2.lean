/- The machine side of this law: each Go function that it reaches as a Lean function, and the proof that the call comes to just its answer; printed by a program of this session out of the kit's print, with a contract of impl.fieldOf that is this session's own. No condition. -/
import Derived.Test.YtgjogfohknjpmaaPFnExactDigitPartsx0
import Derived.Test.YtgjogfohknjpmaaPFnExactDigitPartsx1
namespace Go.Proofs.Ytgjogfohknjpmaa.PFnExactDigitParts
open Go.RowKit Go.Proofs.YtgjogfohknjpmaaW.PrintWords Go.Proofs.YtgjogfohknjpmaaW.PrintLast Go.Proofs.YtgjogfohknjpmaaW.PrintMore
attribute [local go_sem] max2_int min2_int max_two min_two max_three min_three max_four min_four   -- for this text's walks alone
set_option linter.unusedVariables false
set_option linter.unusedSimpArgs false

/-! ### spec_VectorOk: function 45 -/
def spec_VectorOk.f (k : Nat) (a0 : Int) (l1 : List Int) : Option (Bool) := (spec_LogOf.f k (l1.length : Int)).bind fun t113 => (if t113 ≥ 0 then ((spec_TwoPower.f k a0).bind fun t114 => (if t113 ≤ t114 then ((spec_l03Elements.f k a0 l1).bind fun t115 => (some t115)) else (some false))) else (some false))
theorem spec_VectorOk.mono : ∀ a0 a1 k, LeO (spec_VectorOk.f k a0 a1) (spec_VectorOk.f (k + 1) a0 a1) := by
  intro a0 a1 k
  unfold spec_VectorOk.f
  repeat' first
      | (with_reducible exact spec_LogOf.mono _ _)
      | (with_reducible exact spec_TwoPower.mono _ _)
      | (with_reducible exact spec_l03Elements.mono _ _ _)
      | (with_reducible exact LeO.refl _)
      | (with_reducible exact LeO.none _)
      | (with_reducible refine LeO.ite ?_ ?_)
      | (with_reducible refine LeO.bind ?_ (fun _ => ?_))
      | exact spec_LogOf.mono _ _
      | exact spec_TwoPower.mono _ _
      | exact spec_l03Elements.mono _ _ _
      | exact LeO.none _
      | refine LeO.ite ?_ ?_
      | refine LeO.bind ?_ (fun _ => ?_)
set_option maxHeartbeats 8000000 in
set_option maxRecDepth 100000 in
theorem spec_VectorOk.calls (k : Nat) (a0 : Int) (A1 : Option Addr) (c1 : Nat) (l1 : List Int) (r : Bool) (w : World) (hr1 : Kd.C (Kd.int .i64) w A1 l1.length l1) (hc1 : l1.length ≤ c1) (h : spec_VectorOk.f k a0 l1 = some r) :
    Calls Try.prog 45 #[.int .i64 a0, .slice A1 l1.length c1] w fun e w' => e = .returned (.bool r) ∧ Drawn0 w w' := by
  have HR1 := Aside0.mk hr1
  have HC1 := Aside0.mk hc1
  clear hr1 hc1
  have H : ((spec_LogOf.f k (l1.length : Int)).bind fun t113 => (if t113 ≥ 0 then ((spec_TwoPower.f k a0).bind fun t114 => (if t113 ≤ t114 then ((spec_l03Elements.f k a0 l1).bind fun t115 => (some t115)) else (some false))) else (some false))) = some r := h
  clear h
  replace H := Option.bind_eq_some_iff.mp H
  obtain ⟨t113, A30, H⟩ := H
  replace H : (if t113 ≥ 0 then ((spec_TwoPower.f k a0).bind fun t114 => (if t113 ≤ t114 then ((spec_l03Elements.f k a0 l1).bind fun t115 => (some t115)) else (some false))) else (some false)) = some r := H
  have A3 := Aside0.mk A30
  clear A30
  by_cases c4 : t113 ≥ 0
  · rw [if_pos c4] at H
    have c4b0 : decide (0 ≤ t113) = true := decide_eq_true c4
    clear c4
    replace H := Option.bind_eq_some_iff.mp H
    obtain ⟨t114, A50, H⟩ := H
    replace H : (if t113 ≤ t114 then ((spec_l03Elements.f k a0 l1).bind fun t115 => (some t115)) else (some false)) = some r := H
    have A5 := Aside0.mk A50
    clear A50
    by_cases c6 : t113 ≤ t114
    · rw [if_pos c6] at H
      have c6b0 : decide (t113 ≤ t114) = true := decide_eq_true c6
      clear c6
      replace H := Option.bind_eq_some_iff.mp H
      obtain ⟨t115, A70, H⟩ := H
      replace H : (some t115) = some r := H
      have A7 := Aside0.mk A70
      clear A70
      obtain rfl := Option.some.inj H
      go_enter Try.func45, Try.ntmps45
      go_wp2_with (first | ((with_reducible refine gate_callee (f := 76) rfl ?_); refine goesL_ (some 8) rfl rfl Try.func76 (by kernel_rfl) rfl #[.int .i64 (l1.length : Int)] rfl (by (try simp only [List.map_toArray, List.map_cons, List.map_nil]); first | done | rfl | (simp only [List.length_drop, List.length_take]; rfl)) ?_; (with_reducible refine (spec_LogOf.calls k (l1.length : Int) t113 _ A3.out).mono ?_); rintro e w' ⟨rfl, ⟨nd, rfl⟩⟩; refine ⟨_, rfl, ?_⟩) | (go_at_call 59; (with_reducible refine (spec_TwoPower.calls k a0 t114 _ A5.out).mono ?_); rintro e w' ⟨rfl, ⟨nd, rfl⟩⟩) | (go_at_call 56; (with_reducible refine (spec_l03Elements.calls k a0 _ _ l1 t115 _ ?side1 ?side2 A7.out).mono ?_); (case side1 => repeat (first | exact HR1.out | (with_reducible refine Kd.C_alloc ?_ _) | (with_reducible refine Kd.C_drewN ?_ _) | (with_reducible refine Kd.C_drew ?_))); (case side2 => exact HC1.out); rintro e w' ⟨rfl, ⟨nd, rfl⟩⟩))
      go_ret
      exact ⟨by first | rfl | (simp; done) | (simp [*]; done), by repeat (first | exact Drawn0.refl _ | apply Drawn0.step)⟩
    · rw [if_neg c6] at H
      have c6b0 : decide (t113 ≤ t114) = false := decide_eq_false c6
      clear c6
      obtain rfl := Option.some.inj H
      go_enter Try.func45, Try.ntmps45
      go_wp2_with (first | ((with_reducible refine gate_callee (f := 76) rfl ?_); refine goesL_ (some 8) rfl rfl Try.func76 (by kernel_rfl) rfl #[.int .i64 (l1.length : Int)] rfl (by (try simp only [List.map_toArray, List.map_cons, List.map_nil]); first | done | rfl | (simp only [List.length_drop, List.length_take]; rfl)) ?_; (with_reducible refine (spec_LogOf.calls k (l1.length : Int) t113 _ A3.out).mono ?_); rintro e w' ⟨rfl, ⟨nd, rfl⟩⟩; refine ⟨_, rfl, ?_⟩) | (go_at_call 59; (with_reducible refine (spec_TwoPower.calls k a0 t114 _ A5.out).mono ?_); rintro e w' ⟨rfl, ⟨nd, rfl⟩⟩))
      go_ret
      exact ⟨by first | rfl | (simp; done) | (simp [*]; done), by repeat (first | exact Drawn0.refl _ | apply Drawn0.step)⟩
  · rw [if_neg c4] at H
    have c4b0 : decide (0 ≤ t113) = false := decide_eq_false c4
    clear c4
    obtain rfl := Option.some.inj H
    go_enter Try.func45, Try.ntmps45
    go_wp2_with (first | ((with_reducible refine gate_callee (f := 76) rfl ?_); refine goesL_ (some 8) rfl rfl Try.func76 (by kernel_rfl) rfl #[.int .i64 (l1.length : Int)] rfl (by (try simp only [List.map_toArray, List.map_cons, List.map_nil]); first | done | rfl | (simp only [List.length_drop, List.length_take]; rfl)) ?_; (with_reducible refine (spec_LogOf.calls k (l1.length : Int) t113 _ A3.out).mono ?_); rintro e w' ⟨rfl, ⟨nd, rfl⟩⟩; refine ⟨_, rfl, ?_⟩))
    go_ret
    exact ⟨by first | rfl | (simp; done) | (simp [*]; done), by repeat (first | exact Drawn0.refl _ | apply Drawn0.step)⟩

/-! ### spec_l08Base: function 66 -/
def spec_l08Base.f (a0 : Int) : Option (Bool) := (spec_l01In.f a0 2 65536).bind fun t116 => (some t116)
set_option maxHeartbeats 8000000 in
set_option maxRecDepth 100000 in
theorem spec_l08Base.calls (a0 : Int) (r : Bool) (w : World) (h : spec_l08Base.f a0 = some r) :
    Calls Try.prog 66 #[.int .i64 a0] w fun e w' => e = .returned (.bool r) ∧ Drawn0 w w' := by
  have H : ((spec_l01In.f a0 2 65536).bind fun t116 => (some t116)) = some r := h
  clear h
  replace H := Option.bind_eq_some_iff.mp H
  obtain ⟨t116, A20, H⟩ := H
  replace H : (some t116) = some r := H
  have A2 := Aside0.mk A20
  clear A20
  obtain rfl := Option.some.inj H
  go_enter Try.func66, Try.ntmps66
  go_wp2_with (first | ((with_reducible refine gate_callee (f := 55) rfl ?_); refine goesL_ (some 4) rfl rfl Try.func55 (by kernel_rfl) rfl #[.int .i64 a0, .int .i64 2, .int .i64 65536] rfl (by (try simp only [List.map_toArray, List.map_cons, List.map_nil]); first | done | rfl | (simp only [List.length_drop, List.length_take]; rfl)) ?_; (with_reducible refine (spec_l01In.calls a0 2 65536 t116 _ A2.out).mono ?_); rintro e w' ⟨rfl, ⟨nd, rfl⟩⟩; refine ⟨_, rfl, ?_⟩))
  go_ret
  exact ⟨by first | rfl | (simp; done) | (simp [*]; done), by repeat (first | exact Drawn0.refl _ | apply Drawn0.step)⟩

/-! ### spec_l01Copy: function 67 -/
def spec_l01Copy.l0 : Nat → List Int → List Int → Int → Option (List Int)
  | 0, _, _, _ => none
  | k + 1, x0, x3, x4 => if x4 < (x0.length : Int) then (if 0 ≤ x4 then (if x3.length < 17592186044416 then (spec_l01Copy.l0 k x0 (x3 ++ [rd x0 x4]) (wrap64 (x4 + 1))) else (none)) else (none)) else (some x3)
def spec_l01Copy.f (k : Nat) (l0 : List Int) : Option (List Int) := spec_l01Copy.l0 k l0 (([] : List Int)) 0
theorem spec_l01Copy.mono_l : ∀ k, (∀ y0 y1 y2, LeO (spec_l01Copy.l0 k y0 y1 y2) (spec_l01Copy.l0 (k + 1) y0 y1 y2))
  | 0 => fun _ _ _ r h => by simp [spec_l01Copy.l0] at h
  | k + 1 => by
    have ih0 := spec_l01Copy.mono_l k
    · intro y0 y1 y2
      unfold spec_l01Copy.l0
      repeat' first
      | (with_reducible exact ih0 _ _ _)
      | (with_reducible exact LeO.refl _)
      | (with_reducible exact LeO.none _)
      | (with_reducible refine LeO.ite ?_ ?_)
      | (with_reducible refine LeO.bind ?_ (fun _ => ?_))
      | exact ih0 _ _ _
      | exact LeO.none _
      | refine LeO.ite ?_ ?_
      | refine LeO.bind ?_ (fun _ => ?_)
theorem spec_l01Copy.mono : ∀ a0 k, LeO (spec_l01Copy.f k a0) (spec_l01Copy.f (k + 1) a0) := by
  intro a0 k
  have ih0 := spec_l01Copy.mono_l k
  unfold spec_l01Copy.f
  repeat' first
      | (with_reducible exact ih0 _ _ _)
      | (with_reducible exact LeO.refl _)
      | (with_reducible exact LeO.none _)
      | (with_reducible refine LeO.ite ?_ ?_)
      | (with_reducible refine LeO.bind ?_ (fun _ => ?_))
      | exact ih0 _ _ _
      | exact LeO.none _
      | refine LeO.ite ?_ ?_
      | refine LeO.bind ?_ (fun _ => ?_)
set_option maxHeartbeats 8000000 in
set_option maxRecDepth 100000 in
theorem spec_l01Copy.calls (k : Nat) (A0 : Option Addr) (c0 : Nat) (l0 : List Int) (r : List Int) (w : World) (hr0 : Kd.C (Kd.int .i64) w A0 l0.length l0) (hc0 : l0.length ≤ c0) (h : spec_l01Copy.f k l0 = some r) :
    Calls Try.prog 67 #[.slice A0 l0.length c0] w fun e w' => ∃ v0_ : Value, e = .returned (v0_) ∧ Kd.R (Kd.int .i64) 3 w' w.heap.size (fun _ => True) v0_ r ∧ Below w.heap.size w w' := by
  have HR0 := Aside0.mk hr0
  have HC0 := Aside0.mk hc0
  clear hr0 hc0
  have HB := Aside0.mk (Below.refl w.heap.size w)
  have H : (spec_l01Copy.l0 k l0 (([] : List Int)) 0) = some r := h
  clear h
  obtain ⟨y117, hy117⟩ : ∃ y_ : List Int, y_ = (([] : List Int)) := ⟨_, rfl⟩
  replace H : (spec_l01Copy.l0 k l0 y117 0) = some r := by first | (rw [hy117]; with_reducible exact H) | (have H2_ := (Option.bind_some _ _).symm.trans H; rw [hy117]; with_reducible exact H2_) | (have H2_ := (Option.bind_some _ _).symm.trans H; with_reducible exact H2_) | with_reducible exact H | (rw [hy117]; exact H) | exact H
  have Ny117 := Aside0.mk hy117
  clear hy117
  have H' := Aside0.mk H
  clear H
  go_enter Try.func67, Try.ntmps67
  go_wp2_with (first | ((with_reducible refine gate_dst (N := 5) rfl ?_); refine Kd.R_lit (Kd.int .i64) _ 3 ?hg (N := 5) ?hd (xs := ([] : List Int)) (inner := []) (ok := fun _ => True) (okp := fun _ => True) ?hr ?hp (fun _ hk => hk) trivial (Below.refl _ _) (Nat.le_refl _) (by simp) ?_; (case hd => rfl); (case hg => rfl); (case hr => first | (go_simp; done) | (go_simp; rfl)); (case hp => exact (Reps.none _ _)); intro v118 w2 ho3 hb hg_ hnew_; clear hg_ hnew_; (first | rw [← Ny117.out] at ho3 | (simp only [Int.reduceToNat] at ho3; rw [← Ny117.out] at ho3)); have n0_ := Aside0.mk (Kd.R_lower ho3 (below_size (by repeat (first | (with_reducible first | exact HB.out | apply below_alloc | apply pw_below_drewN | apply below_drew1) | exact HB.out)))); have n1_ := Aside0.mk (below_step (by repeat (first | (with_reducible first | exact HB.out | apply below_alloc | apply pw_below_drewN | apply below_drew1) | exact HB.out)) hb); clear HB; have HO119 := n0_; have HB := n1_; clear n0_ n1_; clear hb ho3))
  go_loopg [3, 4] k (fun kq v3 v4 w' => ∃ (x3_1 : List Int) (x4_1 : Int), v4 = .int .i64 x4_1 ∧ Aside0 (spec_l01Copy.l0 kq l0 x3_1 x4_1 = some r) ∧ Aside0 (kq ≤ k) ∧ Aside0 (Kd.R (Kd.int .i64) 3 w' w.heap.size (fun _ => True) v3 x3_1) ∧ Aside0 (Below w.heap.size w w'))
  case atStart => exact ⟨(y117), (0), (by first | rfl | (simp; done) | (simp [*]; done)), H', ⟨Nat.le_refl _⟩, ⟨by (with_reducible repeat (first | apply Kd.R_alloc | apply Kd.R_drewN | apply Kd.R_drew)); exact HO119.out⟩, ⟨by repeat (first | (with_reducible first | exact HB.out | apply below_alloc | apply pw_below_drewN | apply below_drew1) | exact HB.out)⟩⟩
  case round =>
    clear H'
    try clear p2
    obtain ⟨x3_1, x4_1, rfl, HA, HK1, HO_3, HB⟩ := hrel
    cases gk with
    | zero => exact absurd HA.out (by simp [spec_l01Copy.l0])
    | succ k1 =>
      have H := HA.out
      clear HA
      simp only [spec_l01Copy.l0] at H
      by_cases c4 : x4_1 < (l0.length : Int)
      · rw [if_pos c4] at H
        have c4b0 : decide (x4_1 < (l0.length : Int)) = true := decide_eq_true c4
        clear c4
        by_cases c5 : 0 ≤ x4_1
        · rw [if_pos c5] at H
          have c5b0 : decide (0 ≤ x4_1) = true := decide_eq_true c5
          clear c5
          by_cases c6 : x3_1.length < 17592186044416
          · rw [if_pos c6] at H
            have LMc6 := Aside0.mk c6
            clear c6
            obtain ⟨y121, hy121⟩ : ∃ y_ : List Int, y_ = (x3_1 ++ [rd l0 x4_1]) := ⟨_, rfl⟩
            replace H : (spec_l01Copy.l0 k1 l0 y121 (wrap64 (x4_1 + 1))) = some r := by first | (rw [hy121]; with_reducible exact H) | (have H2_ := (Option.bind_some _ _).symm.trans H; rw [hy121]; with_reducible exact H2_) | (have H2_ := (Option.bind_some _ _).symm.trans H; with_reducible exact H2_) | with_reducible exact H | (rw [hy121]; exact H) | exact H
            have Ny121 := Aside0.mk hy121
            clear hy121
            have H' := Aside0.mk H
            clear H
            have p120 : 0 ≤ (x4_1 : Int) := of_decide_eq_true (by first | (with_reducible assumption) | assumption)
            have q120 : x4_1 < (l0.length : Int) := of_decide_eq_true (by first | (with_reducible assumption) | assumption)
            obtain ⟨ad120, e120, hx120_0⟩ := Kd.at_int HR0.out x4_1 p120 q120
            cases e120
            replace hx120_0 := (HB.out.cell (World.block_lt_of_cell? w _ hx120_0)).trans hx120_0
            replace p120 := eq_true p120
            replace q120 := eq_true q120
            go_wp2_with (first | ((with_reducible refine gate_builtin (b := .append) (xs := #[.tmp 12, .tmp 17]) rfl ?_); at_builtin; refine Kd.R_append (Kd.int .i64) (w0 := w) w.heap.size rfl (.tmp 12) (.tmp 17) 22 3 (.int .i64 0) 8 rfl Try.underlying22 info3 rfl (by decide) (by omega) u3 x3_1 (rd l0 x4_1) [.int .i64 (rd l0 x4_1)] (fun _ => True) (fun _ => False) rfl rfl ?aP (fun _ hk => hk.elim) ?aF ?aO ?aB ?aS ?aL ?_; (case aP => exact rfl); (case aB => exact (by repeat (first | (with_reducible first | exact HB.out | apply below_alloc | apply pw_below_drewN | apply below_drew1) | exact HB.out))); (case aF => exact (fun _ _ => trivial)); (case aO => exact (by (with_reducible repeat (first | apply Kd.R_alloc | apply Kd.R_drewN | apply Kd.R_drew)); exact HO_3.out)); (case aS => exact (below_size (by repeat (first | (with_reducible first | exact HB.out | apply below_alloc | apply pw_below_drewN | apply below_drew1) | exact HB.out)))); (case aL => have := LMc6.out; omega); intro v122 w7 ho hb hg hat; rw [← Ny121.out] at ho; have n0_ := Aside0.mk (hb); have n1_ := Aside0.mk (ho); clear HB; clear HO_3; have HB := n0_; have HO123 := n1_; clear n0_ n1_; clear ho hb hg hat))
            go_roundg k1
            case measure => have := HK1.out; omega
            case rel => exact ⟨(y121), (wrap64 (x4_1 + 1)), (by first | rfl | (simp; done) | (simp [*]; done)), H', ⟨by have := HK1.out; omega⟩, ⟨by (with_reducible repeat (first | apply Kd.R_alloc | apply Kd.R_drewN | apply Kd.R_drew)); exact HO123.out⟩, ⟨by repeat (first | (with_reducible first | exact HB.out | apply below_alloc | apply pw_below_drewN | apply below_drew1) | exact HB.out)⟩⟩
          · rw [if_neg c6] at H
            exact absurd H (by simp)
        · rw [if_neg c5] at H
          exact absurd H (by simp)
      · rw [if_neg c4] at H
        have c4b0 : decide (x4_1 < (l0.length : Int)) = false := decide_eq_false c4
        clear c4
        obtain rfl := Option.some.inj H
        go_wp2
        go_ret
        exact ⟨_, by first | rfl | (simp [errW_none, errW_some] <;> rfl) | (simp [*, errW_none, errW_some] <;> rfl), by (with_reducible repeat (first | apply Kd.R_alloc | apply Kd.R_drewN | apply Kd.R_drew)); exact HO_3.out, by repeat (first | (with_reducible first | exact HB.out | apply below_alloc | apply pw_below_drewN | apply below_drew1) | exact HB.out)⟩

/-! ### spec_DigitParts: function 29 -/
mutual
def spec_DigitParts.j0 : Nat → Int → List Int → Int → Int → Bool → Option ((List (List Int)) × Bool)
  | 0, _, _, _, _, _ => none
  | k + 1, x0, x1, x2, x3, x30 => if x30 = true then (some (([] : List (List Int)), false)) else (spec_DigitParts.l0 k x0 x1 x2 x3 1 0)
def spec_DigitParts.j2 : Nat → Int → List Int → Int → Int → Int → Option ((List (List Int)) × Bool)
  | 0, _, _, _, _, _ => none
  | k + 1, x0, x1, x2, x3, x10 => (spec_Modulus.f x0).bind fun t128 => (if x10 < t128 then (some (([] : List (List Int)), false)) else ((spec_l01Copy.f k x1).bind fun t132 => (spec_DigitParts.l1 k x2 x3 (([] : List (List Int))) t132 0)))
def spec_DigitParts.l1 : Nat → Int → Int → List (List Int) → List Int → Int → Option ((List (List Int)) × Bool)
  | 0, _, _, _, _, _ => none
  | k + 1, x2, x3, x12, x13, x14 => if x14 < x3 then (spec_DigitParts.l2 k x2 x3 x12 x13 x14 (([] : List Int)) 0) else (some (x12, true))
def spec_DigitParts.l2 : Nat → Int → Int → List (List Int) → List Int → Int → List Int → Int → Option ((List (List Int)) × Bool)
  | 0, _, _, _, _, _, _, _ => none
  | k + 1, x2, x3, x12, x13, x14, x15, x16 => if x16 < (x13.length : Int) then (if 0 ≤ x16 then (if x2 = 0 then (none) else (if x15.length < 17592186044416 then (spec_DigitParts.l2 k x2 x3 x12 (x13.set (x16 : Int).toNat (wrap64 (Int.tdiv (rd x13 x16) x2))) x14 (x15 ++ [Int.tmod (rd x13 x16) x2]) (wrap64 (x16 + 1))) else (none))) else (none)) else (if x12.length < 5864062014805 then (spec_DigitParts.l1 k x2 x3 (x12 ++ [x15]) x13 (wrap64 (x14 + 1))) else (none))
def spec_DigitParts.l0 : Nat → Int → List Int → Int → Int → Int → Int → Option ((List (List Int)) × Bool)
  | 0, _, _, _, _, _, _ => none
  | k + 1, x0, x1, x2, x3, x10, x11 => if x11 < x3 then ((spec_Modulus.f x0).bind fun t127 => (if x10 < t127 then (spec_DigitParts.l0 k x0 x1 x2 x3 (wrap64 (x10 * x2)) (wrap64 (x11 + 1))) else (spec_DigitParts.j2 k x0 x1 x2 x3 x10))) else (spec_DigitParts.j2 k x0 x1 x2 x3 x10)
end
def spec_DigitParts.f (k : Nat) (a0 : Int) (l1 : List Int) (a2 : Int) (a3 : Int) : Option ((List (List Int)) × Bool) := (spec_VectorOk.f k a0 l1).bind fun t124 => (if t124 = true then ((spec_l08Base.f a2).bind fun t125 => (if t125 = true then ((spec_l01In.f a3 1 32).bind fun t126 => (spec_DigitParts.j0 k a0 l1 a2 a3 (!t126))) else (spec_DigitParts.j0 k a0 l1 a2 a3 true))) else (spec_DigitParts.j0 k a0 l1 a2 a3 true))
theorem spec_DigitParts.mono_l : ∀ k, (∀ y0 y1 y2 y3 y4, LeO (spec_DigitParts.j0 k y0 y1 y2 y3 y4) (spec_DigitParts.j0 (k + 1) y0 y1 y2 y3 y4)) ∧ (∀ y0 y1 y2 y3 y4, LeO (spec_DigitParts.j2 k y0 y1 y2 y3 y4) (spec_DigitParts.j2 (k + 1) y0 y1 y2 y3 y4)) ∧ (∀ y0 y1 y2 y3 y4, LeO (spec_DigitParts.l1 k y0 y1 y2 y3 y4) (spec_DigitParts.l1 (k + 1) y0 y1 y2 y3 y4)) ∧ (∀ y0 y1 y2 y3 y4 y5 y6, LeO (spec_DigitParts.l2 k y0 y1 y2 y3 y4 y5 y6) (spec_DigitParts.l2 (k + 1) y0 y1 y2 y3 y4 y5 y6)) ∧ (∀ y0 y1 y2 y3 y4 y5, LeO (spec_DigitParts.l0 k y0 y1 y2 y3 y4 y5) (spec_DigitParts.l0 (k + 1) y0 y1 y2 y3 y4 y5))
  | 0 => ⟨fun _ _ _ _ _ r h => by simp [spec_DigitParts.j0] at h, fun _ _ _ _ _ r h => by simp [spec_DigitParts.j2] at h, fun _ _ _ _ _ r h => by simp [spec_DigitParts.l1] at h, fun _ _ _ _ _ _ _ r h => by simp [spec_DigitParts.l2] at h, fun _ _ _ _ _ _ r h => by simp [spec_DigitParts.l0] at h⟩
  | k + 1 => by
    obtain ⟨ih0, ih1, ih2, ih3, ih4⟩ := spec_DigitParts.mono_l k
    refine ⟨?_, ?_, ?_, ?_, ?_⟩
    · intro y0 y1 y2 y3 y4
      unfold spec_DigitParts.j0
      repeat' first
      | (with_reducible exact ih0 _ _ _ _ _)
      | (with_reducible exact ih1 _ _ _ _ _)
      | (with_reducible exact ih2 _ _ _ _ _)
      | (with_reducible exact ih3 _ _ _ _ _ _ _)
      | (with_reducible exact ih4 _ _ _ _ _ _)
      | (with_reducible exact spec_VectorOk.mono _ _ _)
      | (with_reducible exact spec_l01Copy.mono _ _)
      | (with_reducible exact LeO.refl _)
      | (with_reducible exact LeO.none _)
      | (with_reducible refine LeO.ite ?_ ?_)
      | (with_reducible refine LeO.bind ?_ (fun _ => ?_))
      | exact ih0 _ _ _ _ _
      | exact ih1 _ _ _ _ _
      | exact ih2 _ _ _ _ _
      | exact ih3 _ _ _ _ _ _ _
      | exact ih4 _ _ _ _ _ _
      | exact spec_VectorOk.mono _ _ _
      | exact spec_l01Copy.mono _ _
      | exact LeO.none _
      | refine LeO.ite ?_ ?_
      | refine LeO.bind ?_ (fun _ => ?_)
    · intro y0 y1 y2 y3 y4
      unfold spec_DigitParts.j2
      repeat' first
      | (with_reducible exact ih0 _ _ _ _ _)
      | (with_reducible exact ih1 _ _ _ _ _)
      | (with_reducible exact ih2 _ _ _ _ _)
      | (with_reducible exact ih3 _ _ _ _ _ _ _)
      | (with_reducible exact ih4 _ _ _ _ _ _)
      | (with_reducible exact spec_VectorOk.mono _ _ _)
      | (with_reducible exact spec_l01Copy.mono _ _)
      | (with_reducible exact LeO.refl _)
      | (with_reducible exact LeO.none _)
      | (with_reducible refine LeO.ite ?_ ?_)
      | (with_reducible refine LeO.bind ?_ (fun _ => ?_))
      | exact ih0 _ _ _ _ _
      | exact ih1 _ _ _ _ _
      | exact ih2 _ _ _ _ _
      | exact ih3 _ _ _ _ _ _ _
      | exact ih4 _ _ _ _ _ _
      | exact spec_VectorOk.mono _ _ _
      | exact spec_l01Copy.mono _ _
      | exact LeO.none _
      | refine LeO.ite ?_ ?_
      | refine LeO.bind ?_ (fun _ => ?_)
    · intro y0 y1 y2 y3 y4
      unfold spec_DigitParts.l1
      repeat' first
      | (with_reducible exact ih0 _ _ _ _ _)
      | (with_reducible exact ih1 _ _ _ _ _)
      | (with_reducible exact ih2 _ _ _ _ _)
      | (with_reducible exact ih3 _ _ _ _ _ _ _)
      | (with_reducible exact ih4 _ _ _ _ _ _)
      | (with_reducible exact spec_VectorOk.mono _ _ _)
      | (with_reducible exact spec_l01Copy.mono _ _)
      | (with_reducible exact LeO.refl _)
      | (with_reducible exact LeO.none _)
      | (with_reducible refine LeO.ite ?_ ?_)
      | (with_reducible refine LeO.bind ?_ (fun _ => ?_))
      | exact ih0 _ _ _ _ _
      | exact ih1 _ _ _ _ _
      | exact ih2 _ _ _ _ _
      | exact ih3 _ _ _ _ _ _ _
      | exact ih4 _ _ _ _ _ _
      | exact spec_VectorOk.mono _ _ _
      | exact spec_l01Copy.mono _ _
      | exact LeO.none _
      | refine LeO.ite ?_ ?_
      | refine LeO.bind ?_ (fun _ => ?_)
    · intro y0 y1 y2 y3 y4 y5 y6
      unfold spec_DigitParts.l2
      repeat' first
      | (with_reducible exact ih0 _ _ _ _ _)
      | (with_reducible exact ih1 _ _ _ _ _)
      | (with_reducible exact ih2 _ _ _ _ _)
      | (with_reducible exact ih3 _ _ _ _ _ _ _)
      | (with_reducible exact ih4 _ _ _ _ _ _)
      | (with_reducible exact spec_VectorOk.mono _ _ _)
      | (with_reducible exact spec_l01Copy.mono _ _)
      | (with_reducible exact LeO.refl _)
      | (with_reducible exact LeO.none _)
      | (with_reducible refine LeO.ite ?_ ?_)
      | (with_reducible refine LeO.bind ?_ (fun _ => ?_))
      | exact ih0 _ _ _ _ _
      | exact ih1 _ _ _ _ _
      | exact ih2 _ _ _ _ _
      | exact ih3 _ _ _ _ _ _ _
      | exact ih4 _ _ _ _ _ _
      | exact spec_VectorOk.mono _ _ _
      | exact spec_l01Copy.mono _ _
      | exact LeO.none _
      | refine LeO.ite ?_ ?_
      | refine LeO.bind ?_ (fun _ => ?_)
    · intro y0 y1 y2 y3 y4 y5
      unfold spec_DigitParts.l0
      repeat' first
      | (with_reducible exact ih0 _ _ _ _ _)
      | (with_reducible exact ih1 _ _ _ _ _)
      | (with_reducible exact ih2 _ _ _ _ _)
      | (with_reducible exact ih3 _ _ _ _ _ _ _)
      | (with_reducible exact ih4 _ _ _ _ _ _)
      | (with_reducible exact spec_VectorOk.mono _ _ _)
      | (with_reducible exact spec_l01Copy.mono _ _)
      | (with_reducible exact LeO.refl _)
      | (with_reducible exact LeO.none _)
      | (with_reducible refine LeO.ite ?_ ?_)
      | (with_reducible refine LeO.bind ?_ (fun _ => ?_))
      | exact ih0 _ _ _ _ _
      | exact ih1 _ _ _ _ _
      | exact ih2 _ _ _ _ _
      | exact ih3 _ _ _ _ _ _ _
      | exact ih4 _ _ _ _ _ _
      | exact spec_VectorOk.mono _ _ _
      | exact spec_l01Copy.mono _ _
      | exact LeO.none _
      | refine LeO.ite ?_ ?_
      | refine LeO.bind ?_ (fun _ => ?_)
theorem spec_DigitParts.mono : ∀ a0 a1 a2 a3 k, LeO (spec_DigitParts.f k a0 a1 a2 a3) (spec_DigitParts.f (k + 1) a0 a1 a2 a3) := by
  intro a0 a1 a2 a3 k
  obtain ⟨ih0, ih1, ih2, ih3, ih4⟩ := spec_DigitParts.mono_l k
  unfold spec_DigitParts.f
  repeat' first
      | (with_reducible exact ih0 _ _ _ _ _)
      | (with_reducible exact ih1 _ _ _ _ _)
      | (with_reducible exact ih2 _ _ _ _ _)
      | (with_reducible exact ih3 _ _ _ _ _ _ _)
      | (with_reducible exact ih4 _ _ _ _ _ _)
      | (with_reducible exact spec_VectorOk.mono _ _ _)
      | (with_reducible exact spec_l01Copy.mono _ _)
      | (with_reducible exact LeO.refl _)
      | (with_reducible exact LeO.none _)
      | (with_reducible refine LeO.ite ?_ ?_)
      | (with_reducible refine LeO.bind ?_ (fun _ => ?_))
      | exact ih0 _ _ _ _ _
      | exact ih1 _ _ _ _ _
      | exact ih2 _ _ _ _ _
      | exact ih3 _ _ _ _ _ _ _
      | exact ih4 _ _ _ _ _ _
      | exact spec_VectorOk.mono _ _ _
      | exact spec_l01Copy.mono _ _
      | exact LeO.none _
      | refine LeO.ite ?_ ?_
      | refine LeO.bind ?_ (fun _ => ?_)
set_option maxHeartbeats 8000000 in
set_option maxRecDepth 100000 in
theorem spec_DigitParts.calls (k : Nat) (a0 : Int) (A1 : Option Addr) (c1 : Nat) (l1 : List Int) (a2 : Int) (a3 : Int) (r1 : List (List Int)) (r2 : Bool) (w : World) (hr1 : Kd.C (Kd.int .i64) w A1 l1.length l1) (hc1 : l1.length ≤ c1) (h : spec_DigitParts.f k a0 l1 a2 a3 = some (r1, r2)) :
    Calls Try.prog 29 #[.int .i64 a0, .slice A1 l1.length c1, .int .i64 a2, .int .i64 a3] w fun e w' => ∃ v0_ : Value, e = .returned (.tuple #[v0_, .bool r2]) ∧ Kd.S (Kd.slice 3 (Kd.int .i64)) 22 w' w.heap.size (fun _ => True) v0_ r1 ∧ Below w.heap.size w w' := by
  have HR1 := Aside0.mk hr1
  have HC1 := Aside0.mk hc1
  clear hr1 hc1
  have HB := Aside0.mk (Below.refl w.heap.size w)
  have H : ((spec_VectorOk.f k a0 l1).bind fun t124 => (if t124 = true then ((spec_l08Base.f a2).bind fun t125 => (if t125 = true then ((spec_l01In.f a3 1 32).bind fun t126 => (spec_DigitParts.j0 k a0 l1 a2 a3 (!t126))) else (spec_DigitParts.j0 k a0 l1 a2 a3 true))) else (spec_DigitParts.j0 k a0 l1 a2 a3 true))) = some (r1, r2) := h
  clear h
  have HC5 := Aside0.mk H
  clear H
  go_enter Try.func29, Try.ntmps29
  go_upto_region 1 with (fail)
  go_cut [30] (fun v30 wc => ∃ (kq : Nat) (x30_4 : Bool), v30 = .bool x30_4 ∧ Aside0 (spec_DigitParts.j0 kq a0 l1 a2 a3 x30_4 = some (r1, r2)) ∧ Aside0 (kq ≤ k) ∧ Aside0 (Below w.heap.size w wc))
  case first =>
    have H := HC5.out
    clear HC5
    replace H := Option.bind_eq_some_iff.mp H
    obtain ⟨t124, A60, H⟩ := H
    replace H : (if t124 = true then ((spec_l08Base.f a2).bind fun t125 => (if t125 = true then ((spec_l01In.f a3 1 32).bind fun t126 => (spec_DigitParts.j0 k a0 l1 a2 a3 (!t126))) else (spec_DigitParts.j0 k a0 l1 a2 a3 true))) else (spec_DigitParts.j0 k a0 l1 a2 a3 true)) = some (r1, r2) := H
    have A6 := Aside0.mk A60
    clear A60
    by_cases c7 : t124 = true
    · subst c7
      have H1 : ((spec_l08Base.f a2).bind fun t125 => (if t125 = true then ((spec_l01In.f a3 1 32).bind fun t126 => (spec_DigitParts.j0 k a0 l1 a2 a3 (!t126))) else (spec_DigitParts.j0 k a0 l1 a2 a3 true))) = some (r1, r2) := by rw [if_pos rfl] at H; exact H
      clear H
      have H := H1
      clear H1
      replace H := Option.bind_eq_some_iff.mp H
      obtain ⟨t125, A80, H⟩ := H
      replace H : (if t125 = true then ((spec_l01In.f a3 1 32).bind fun t126 => (spec_DigitParts.j0 k a0 l1 a2 a3 (!t126))) else (spec_DigitParts.j0 k a0 l1 a2 a3 true)) = some (r1, r2) := H
      have A8 := Aside0.mk A80
      clear A80
      by_cases c9 : t125 = true
      · subst c9
        have H1 : ((spec_l01In.f a3 1 32).bind fun t126 => (spec_DigitParts.j0 k a0 l1 a2 a3 (!t126))) = some (r1, r2) := by rw [if_pos rfl] at H; exact H
        clear H
        have H := H1
        clear H1
        replace H := Option.bind_eq_some_iff.mp H
        obtain ⟨t126, A100, H⟩ := H
        replace H : (spec_DigitParts.j0 k a0 l1 a2 a3 (!t126)) = some (r1, r2) := H
        have A10 := Aside0.mk A100
        clear A100
        have H' := Aside0.mk H
        clear H
        go_wp2_with (first | ((with_reducible refine gate_callee (f := 45) rfl ?_); refine goesL_ (some 19) rfl rfl Try.func45 (by kernel_rfl) rfl #[.int .i64 a0, .slice A1 l1.length c1] rfl (by (try simp only [List.map_toArray, List.map_cons, List.map_nil]); first | done | rfl | (simp only [List.length_drop, List.length_take]; rfl)) ?_; (with_reducible refine (spec_VectorOk.calls k a0 _ _ l1 true _ ?side1 ?side2 A6.out).mono ?_); (case side1 => repeat (first | exact (Kd.C_below HR1.out HB.out) | (with_reducible refine Kd.C_alloc ?_ _) | (with_reducible refine Kd.C_drewN ?_ _) | (with_reducible refine Kd.C_drew ?_))); (case side2 => exact HC1.out); rintro e w' ⟨rfl, ⟨nd, rfl⟩⟩; refine ⟨_, rfl, ?_⟩) | (go_at_call 66; (with_reducible refine (spec_l08Base.calls a2 true _ A8.out).mono ?_); rintro e w' ⟨rfl, ⟨nd, rfl⟩⟩) | (go_at_call 55; (with_reducible refine (spec_l01In.calls a3 1 32 t126 _ A10.out).mono ?_); rintro e w' ⟨rfl, ⟨nd, rfl⟩⟩))
        go_meet
        case rel => exact ⟨_, (!t126), (by first | rfl | (simp; done) | (simp [*]; done)), H', ⟨by first | omega | exact Nat.le_refl _⟩, ⟨by repeat (first | (with_reducible first | exact HB.out | apply below_alloc | apply pw_below_drewN | apply below_drew1) | exact HB.out)⟩⟩
      · replace c9 := Bool.eq_false_iff.mpr c9
        subst c9
        have H1 : (spec_DigitParts.j0 k a0 l1 a2 a3 true) = some (r1, r2) := by rw [if_neg (show ¬ (false = true) by decide)] at H; exact H
        clear H
        have H := H1
        clear H1
        have H' := Aside0.mk H
        clear H
        go_wp2_with (first | ((with_reducible refine gate_callee (f := 45) rfl ?_); refine goesL_ (some 19) rfl rfl Try.func45 (by kernel_rfl) rfl #[.int .i64 a0, .slice A1 l1.length c1] rfl (by (try simp only [List.map_toArray, List.map_cons, List.map_nil]); first | done | rfl | (simp only [List.length_drop, List.length_take]; rfl)) ?_; (with_reducible refine (spec_VectorOk.calls k a0 _ _ l1 true _ ?side1 ?side2 A6.out).mono ?_); (case side1 => repeat (first | exact (Kd.C_below HR1.out HB.out) | (with_reducible refine Kd.C_alloc ?_ _) | (with_reducible refine Kd.C_drewN ?_ _) | (with_reducible refine Kd.C_drew ?_))); (case side2 => exact HC1.out); rintro e w' ⟨rfl, ⟨nd, rfl⟩⟩; refine ⟨_, rfl, ?_⟩) | (go_at_call 66; (with_reducible refine (spec_l08Base.calls a2 false _ A8.out).mono ?_); rintro e w' ⟨rfl, ⟨nd, rfl⟩⟩))
        go_meet
        case rel => exact ⟨_, (true), (by first | rfl | (simp; done) | (simp [*]; done)), H', ⟨by first | omega | exact Nat.le_refl _⟩, ⟨by repeat (first | (with_reducible first | exact HB.out | apply below_alloc | apply pw_below_drewN | apply below_drew1) | exact HB.out)⟩⟩
    · replace c7 := Bool.eq_false_iff.mpr c7
      subst c7
      have H1 : (spec_DigitParts.j0 k a0 l1 a2 a3 true) = some (r1, r2) := by rw [if_neg (show ¬ (false = true) by decide)] at H; exact H
      clear H
      have H := H1
      clear H1
      have H' := Aside0.mk H
      clear H
      go_wp2_with (first | ((with_reducible refine gate_callee (f := 45) rfl ?_); refine goesL_ (some 19) rfl rfl Try.func45 (by kernel_rfl) rfl #[.int .i64 a0, .slice A1 l1.length c1] rfl (by (try simp only [List.map_toArray, List.map_cons, List.map_nil]); first | done | rfl | (simp only [List.length_drop, List.length_take]; rfl)) ?_; (with_reducible refine (spec_VectorOk.calls k a0 _ _ l1 false _ ?side1 ?side2 A6.out).mono ?_); (case side1 => repeat (first | exact (Kd.C_below HR1.out HB.out) | (with_reducible refine Kd.C_alloc ?_ _) | (with_reducible refine Kd.C_drewN ?_ _) | (with_reducible refine Kd.C_drew ?_))); (case side2 => exact HC1.out); rintro e w' ⟨rfl, ⟨nd, rfl⟩⟩; refine ⟨_, rfl, ?_⟩))
      go_meet
      case rel => exact ⟨_, (true), (by first | rfl | (simp; done) | (simp [*]; done)), H', ⟨by first | omega | exact Nat.le_refl _⟩, ⟨by repeat (first | (with_reducible first | exact HB.out | apply below_alloc | apply pw_below_drewN | apply below_drew1) | exact HB.out)⟩⟩
  case rest =>
    clear HC5
    try clear c1
    try clear c2
    try clear p2
    try clear c4
    try clear c7
    try clear c9
    obtain ⟨kq, x30_4, rfl, HA, HJ4, HB⟩ := hcut
    cases kq with
    | zero => exact absurd HA.out (by simp [spec_DigitParts.j0])
    | succ kj4 =>
      have H := HA.out
      clear HA
      simp only [spec_DigitParts.j0] at H
      by_cases c11 : x30_4 = true
      · subst c11
        have H1 : (some (([] : List (List Int)), false)) = some (r1, r2) := by rw [if_pos rfl] at H; exact H
        clear H
        have H := H1
        clear H1
        simp only [Option.some.injEq, Prod.mk.injEq] at H
        obtain ⟨rfl, rfl⟩ := H
        go_wp2
        go_ret2
        exact ⟨_, by first | rfl | (simp [errW_none, errW_some] <;> rfl) | (simp [*, errW_none, errW_some] <;> rfl), by first | exact Kd.S_nil _ _ _ _ _ | exact Kd.N_nil _ _ _ _ _ | exact Kd.V_nil _ _ _ _ _ | exact Kd.Q_nil _ _ _ _ _ | exact Kd.R_nil _ _ _ _ _, by repeat (first | (with_reducible first | exact HB.out | apply below_alloc | apply pw_below_drewN | apply below_drew1) | exact HB.out)⟩
      · replace c11 := Bool.eq_false_iff.mpr c11
        subst c11
        have H1 : (spec_DigitParts.l0 kj4 a0 l1 a2 a3 1 0) = some (r1, r2) := by rw [if_neg (show ¬ (false = true) by decide)] at H; exact H
        clear H
        have H := H1
        clear H1
        have HC12 := Aside0.mk H
        clear H
        go_upto_block 0 with (fail)
        go_cut [10] (fun v10 wc => ∃ (kq : Nat) (x10_11 : Int), v10 = .int .i64 x10_11 ∧ Aside0 (spec_DigitParts.j2 kq a0 l1 a2 a3 x10_11 = some (r1, r2)) ∧ Aside0 (kq ≤ kj4) ∧ Aside0 (Below w.heap.size w wc))
        case first =>
          have H := HC12.out
          clear HC12
          have H' := Aside0.mk H
          clear H
          go_wp2
          go_loopg [10, 11] kj4 (fun kq v10 v11 w' => ∃ (x10_2 : Int) (x11_2 : Int), v10 = .int .i64 x10_2 ∧ v11 = .int .i64 x11_2 ∧ Aside0 (spec_DigitParts.l0 kq a0 l1 a2 a3 x10_2 x11_2 = some (r1, r2)) ∧ Aside0 (kq ≤ kj4) ∧ Aside0 (Below w.heap.size w w'))
          case atStart => exact ⟨(1), (0), (by first | rfl | (simp; done) | (simp [*]; done)), (by first | rfl | (simp; done) | (simp [*]; done)), H', ⟨Nat.le_refl _⟩, ⟨by repeat (first | (with_reducible first | exact HB.out | apply below_alloc | apply pw_below_drewN | apply below_drew1) | exact HB.out)⟩⟩
          case round =>
            clear H'
            try clear c1
            try clear c2
            try clear p2
            try clear c4
            try clear c7
            try clear c9
            try clear c11
            try clear p2
            obtain ⟨x10_2, x11_2, rfl, rfl, HA, HK2, HB⟩ := hrel
            cases gk with
            | zero => exact absurd HA.out (by simp [spec_DigitParts.l0])
            | succ k2 =>
              have H := HA.out
              clear HA
              simp only [spec_DigitParts.l0] at H
              by_cases c13 : x11_2 < a3
              · rw [if_pos c13] at H
                have c13b0 : decide (x11_2 < a3) = true := decide_eq_true c13
                clear c13
                (first | rw [c13b0] | (simp only [i64_w, i32_w]; rw [c13b0]) | skip)
                replace H := Option.bind_eq_some_iff.mp H
                obtain ⟨t127, A140, H⟩ := H
                replace H : (if x10_2 < t127 then (spec_DigitParts.l0 k2 a0 l1 a2 a3 (wrap64 (x10_2 * a2)) (wrap64 (x11_2 + 1))) else (spec_DigitParts.j2 k2 a0 l1 a2 a3 x10_2)) = some (r1, r2) := H
                have A14 := Aside0.mk A140
                clear A140
                by_cases c15 : x10_2 < t127
                · rw [if_pos c15] at H
                  have c15b0 : decide (x10_2 < t127) = true := decide_eq_true c15
                  clear c15
                  have H' := Aside0.mk H
                  clear H
                  go_wp2_with (first | (go_at_call 39; (with_reducible refine (spec_Modulus.calls a0 t127 _ A14.out).mono ?_); rintro e w' ⟨rfl, ⟨nd, rfl⟩⟩))
                  go_roundg k2
                  case measure => have := HJ4.out; have := HK2.out; omega
                  case rel => exact ⟨(wrap64 (x10_2 * a2)), (wrap64 (x11_2 + 1)), (by first | rfl | (simp; done) | (simp [*]; done)), (by first | rfl | (simp; done) | (simp [*]; done)), H', ⟨by have := HJ4.out; have := HK2.out; omega⟩, ⟨by repeat (first | (with_reducible first | exact HB.out | apply below_alloc | apply pw_below_drewN | apply below_drew1) | exact HB.out)⟩⟩
                · rw [if_neg c15] at H
                  have c15b0 : decide (x10_2 < t127) = false := decide_eq_false c15
                  clear c15
                  have H' := Aside0.mk H
                  clear H
                  go_wp2_with (first | (go_at_call 39; (with_reducible refine (spec_Modulus.calls a0 t127 _ A14.out).mono ?_); rintro e w' ⟨rfl, ⟨nd, rfl⟩⟩))
                  go_meet
                  case rel => exact ⟨_, (x10_2), (by first | rfl | (simp; done) | (simp [*]; done)), H', ⟨by have := HJ4.out; have := HK2.out; first | omega | exact Nat.le_refl _⟩, ⟨by repeat (first | (with_reducible first | exact HB.out | apply below_alloc | apply pw_below_drewN | apply below_drew1) | exact HB.out)⟩⟩
              · rw [if_neg c13] at H
                have c13b0 : decide (x11_2 < a3) = false := decide_eq_false c13
                clear c13
                (first | rw [c13b0] | (simp only [i64_w, i32_w]; rw [c13b0]) | skip)
                have H' := Aside0.mk H
                clear H
                go_wp2
                go_meet
                case rel => exact ⟨_, (x10_2), (by first | rfl | (simp; done) | (simp [*]; done)), H', ⟨by have := HJ4.out; have := HK2.out; first | omega | exact Nat.le_refl _⟩, ⟨by repeat (first | (with_reducible first | exact HB.out | apply below_alloc | apply pw_below_drewN | apply below_drew1) | exact HB.out)⟩⟩
        case rest =>
          clear HC12
          try clear c1
          try clear c2
          try clear p2
          try clear c4
          try clear p6
          try clear c7
          try clear c9
          try clear c11
          try clear c13
          try clear c13b0
          try clear c15
          try clear c15b0
          try clear p2
          obtain ⟨kq, x10_11, rfl, HA, HJ11, HB⟩ := hcut
          cases kq with
          | zero => exact absurd HA.out (by simp [spec_DigitParts.j2])
          | succ kj11 =>
            have H := HA.out
            clear HA
            simp only [spec_DigitParts.j2] at H
            replace H := Option.bind_eq_some_iff.mp H
            obtain ⟨t128, A160, H⟩ := H
            replace H : (if x10_11 < t128 then (some (([] : List (List Int)), false)) else ((spec_l01Copy.f kj11 l1).bind fun t132 => (spec_DigitParts.l1 kj11 a2 a3 (([] : List (List Int))) t132 0))) = some (r1, r2) := H
            have A16 := Aside0.mk A160
            clear A160
            by_cases c17 : x10_11 < t128
            · rw [if_pos c17] at H
              have c17b0 : decide (x10_11 < t128) = true := decide_eq_true c17
              clear c17
              simp only [Option.some.injEq, Prod.mk.injEq] at H
              obtain ⟨rfl, rfl⟩ := H
              go_wp2_with (first | ((with_reducible refine gate_callee (f := 39) rfl ?_); refine goesL_ (some 47) rfl rfl Try.func39 (by kernel_rfl) rfl #[.int .i64 a0] rfl (by (try simp only [List.map_toArray, List.map_cons, List.map_nil]); first | done | rfl | (simp only [List.length_drop, List.length_take]; rfl)) ?_; (with_reducible refine (spec_Modulus.calls a0 t128 _ A16.out).mono ?_); rintro e w' ⟨rfl, ⟨nd, rfl⟩⟩; refine ⟨_, rfl, ?_⟩))
              go_ret2
              exact ⟨_, by first | rfl | (simp [errW_none, errW_some] <;> rfl) | (simp [*, errW_none, errW_some] <;> rfl), by first | exact Kd.S_nil _ _ _ _ _ | exact Kd.N_nil _ _ _ _ _ | exact Kd.V_nil _ _ _ _ _ | exact Kd.Q_nil _ _ _ _ _ | exact Kd.R_nil _ _ _ _ _, by repeat (first | (with_reducible first | exact HB.out | apply below_alloc | apply pw_below_drewN | apply below_drew1) | exact HB.out)⟩
            · rw [if_neg c17] at H
              have c17b0 : decide (x10_11 < t128) = false := decide_eq_false c17
              clear c17
              obtain ⟨y129, hy129⟩ : ∃ y_ : List (List Int), y_ = (([] : List (List Int))) := ⟨_, rfl⟩
              replace H : ((spec_l01Copy.f kj11 l1).bind fun t132 => (spec_DigitParts.l1 kj11 a2 a3 y129 t132 0)) = some (r1, r2) := by first | (rw [hy129]; with_reducible exact H) | (have H2_ := (Option.bind_some _ _).symm.trans H; rw [hy129]; with_reducible exact H2_) | (have H2_ := (Option.bind_some _ _).symm.trans H; with_reducible exact H2_) | with_reducible exact H | (rw [hy129]; exact H) | exact H
              have Ny129 := Aside0.mk hy129
              clear hy129
              replace H := Option.bind_eq_some_iff.mp H
              obtain ⟨t132, A180, H⟩ := H
              replace H : (spec_DigitParts.l1 kj11 a2 a3 y129 t132 0) = some (r1, r2) := H
              have A18 := Aside0.mk A180
              clear A180
              have H' := Aside0.mk H
              clear H
              go_wp2_with (first | ((with_reducible refine gate_callee (f := 39) rfl ?_); refine goesL_ (some 47) rfl rfl Try.func39 (by kernel_rfl) rfl #[.int .i64 a0] rfl (by (try simp only [List.map_toArray, List.map_cons, List.map_nil]); first | done | rfl | (simp only [List.length_drop, List.length_take]; rfl)) ?_; (with_reducible refine (spec_Modulus.calls a0 t128 _ A16.out).mono ?_); rintro e w' ⟨rfl, ⟨nd, rfl⟩⟩; refine ⟨_, rfl, ?_⟩) | ((with_reducible refine gate_dst (N := 49) rfl ?_); refine Kd.S_lit (Kd.slice 3 (Kd.int .i64)) _ 22 ?hg (N := 49) ?hd (xs := ([] : List (List Int))) (inner := []) (ok := fun _ => True) (okp := fun _ => True) ?hr ?hp (fun _ hk => hk) trivial (Below.refl _ _) (Nat.le_refl _) (by simp) ?_; (case hd => rfl); (case hg => rfl); (case hr => first | (go_simp; done) | (go_simp; rfl)); (case hp => exact (Reps.none _ _)); intro v130 w19 ho20 hb hg_ hnew_; clear hg_ hnew_; (first | rw [← Ny129.out] at ho20 | (simp only [Int.reduceToNat] at ho20; rw [← Ny129.out] at ho20)); have n0_ := Aside0.mk (Kd.S_lower ho20 (below_size (by repeat (first | (with_reducible first | exact HB.out | apply below_alloc | apply pw_below_drewN | apply below_drew1) | exact HB.out)))); have n1_ := Aside0.mk (below_step (by repeat (first | (with_reducible first | exact HB.out | apply below_alloc | apply pw_below_drewN | apply below_drew1) | exact HB.out)) hb); clear HB; have HO131 := n0_; have HB := n1_; clear n0_ n1_; clear hb ho20) | ((with_reducible refine gate_callee (f := 67) rfl ?_); refine goesL_ (some 51) rfl rfl Try.func67 (by kernel_rfl) rfl #[.slice A1 l1.length c1] rfl (by (try simp only [List.map_toArray, List.map_cons, List.map_nil]); first | done | rfl | (simp only [List.length_drop, List.length_take]; rfl)) ?_; (with_reducible refine (spec_l01Copy.calls kj11 _ _ l1 t132 _ ?side1 ?side2 A18.out).mono ?_); (case side1 => repeat (first | exact (Kd.C_below HR1.out HB.out) | (with_reducible refine Kd.C_alloc ?_ _) | (with_reducible refine Kd.C_drewN ?_ _) | (with_reducible refine Kd.C_drew ?_))); (case side2 => exact HC1.out); rintro e w21 ⟨v133, rfl, ho0, hb⟩; refine ⟨_, rfl, ?_⟩; have n0_ := Aside0.mk (Kd.S_elder' (by (with_reducible repeat (first | apply Kd.S_alloc | apply Kd.S_drewN | apply Kd.S_drew)); exact HO131.out) (Kd.R_base ho0) hb); have n1_ := Aside0.mk (Kd.R_lower ho0 (below_size (by repeat (first | (with_reducible first | exact HB.out | apply below_alloc | apply pw_below_drewN | apply below_drew1) | exact HB.out)))); have n2_ := Aside0.mk (below_step (by repeat (first | (with_reducible first | exact HB.out | apply below_alloc | apply pw_below_drewN | apply below_drew1) | exact HB.out)) hb); clear HO131; clear HB; have HO131 := n0_; have HO134 := n1_; have HB := n2_; clear n0_ n1_ n2_; (try clear hb); (try clear hb2); (try clear hk); (try clear hi); (try clear ho0)))
              go_loopg [12, 14] kj11 (fun kq v12 v14 w' => ∃ (x12_3 : List (List Int)) (x13_3 : List Int) (x14_3 : Int), v14 = .int .i64 x14_3 ∧ Aside0 (spec_DigitParts.l1 kq a2 a3 x12_3 x13_3 x14_3 = some (r1, r2)) ∧ Aside0 (kq ≤ kj11) ∧ Aside0 (Kd.S (Kd.slice 3 (Kd.int .i64)) 22 w' w.heap.size (fun k_ => some k_ ≠ (v133 : Value).ownBlock) v12 x12_3) ∧ Aside0 (Kd.R (Kd.int .i64) 3 w' w.heap.size (fun _ => True) v133 x13_3) ∧ Aside0 (Below w.heap.size w w'))
              case atStart => exact ⟨(y129), (t132), (0), (by first | rfl | (simp; done) | (simp [*]; done)), H', ⟨Nat.le_refl _⟩, ⟨by (with_reducible repeat (first | apply Kd.S_alloc | apply Kd.S_drewN | apply Kd.S_drew)); exact Kd.S_mono HO131.out (fun _ hk => hk.2)⟩, ⟨by (with_reducible repeat (first | apply Kd.R_alloc | apply Kd.R_drewN | apply Kd.R_drew)); exact HO134.out⟩, ⟨by repeat (first | (with_reducible first | exact HB.out | apply below_alloc | apply pw_below_drewN | apply below_drew1) | exact HB.out)⟩⟩
              case round =>
                clear H'
                try clear c1
                try clear c2
                try clear p2
                try clear c3
                try clear c4
                try clear c6
                try clear p6
                try clear c7
                try clear c9
                try clear c11
                try clear c13
                try clear c13b0
                try clear c15
                try clear c15b0
                try clear c17
                try clear c17b0
                try clear p2
                try clear p6
                obtain ⟨x12_3, x13_3, x14_3, rfl, HA, HK3, HO_12, HO_13, HB⟩ := hrel
                cases gk with
                | zero => exact absurd HA.out (by simp [spec_DigitParts.l1])
                | succ k3 =>
                  have H := HA.out
                  clear HA
                  simp only [spec_DigitParts.l1] at H
                  by_cases c22 : x14_3 < a3
                  · rw [if_pos c22] at H
                    have c22b0 : decide (x14_3 < a3) = true := decide_eq_true c22
                    clear c22
                    obtain ⟨y135, hy135⟩ : ∃ y_ : List Int, y_ = (([] : List Int)) := ⟨_, rfl⟩
                    replace H : (spec_DigitParts.l2 k3 a2 a3 x12_3 x13_3 x14_3 y135 0) = some (r1, r2) := by first | (rw [hy135]; with_reducible exact H) | (have H2_ := (Option.bind_some _ _).symm.trans H; rw [hy135]; with_reducible exact H2_) | (have H2_ := (Option.bind_some _ _).symm.trans H; with_reducible exact H2_) | with_reducible exact H | (rw [hy135]; exact H) | exact H
                    have Ny135 := Aside0.mk hy135
                    clear hy135
                    have H' := Aside0.mk H
                    clear H
                    go_wp2_with (first | ((with_reducible refine gate_dst (N := 57) rfl ?_); refine Kd.R_lit (Kd.int .i64) _ 3 ?hg (N := 57) ?hd (xs := ([] : List Int)) (inner := []) (ok := fun _ => True) (okp := fun _ => True) ?hr ?hp (fun _ hk => hk) trivial (Below.refl _ _) (Nat.le_refl _) (by simp) ?_; (case hd => rfl); (case hg => rfl); (case hr => first | (go_simp; done) | (go_simp; rfl)); (case hp => exact (Reps.none _ _)); intro v136 w23 ho24 hb hg_ hnew_; clear hg_ hnew_; (first | rw [← Ny135.out] at ho24 | (simp only [Int.reduceToNat] at ho24; rw [← Ny135.out] at ho24)); have n0_ := Aside0.mk (Kd.S_elder' (by (with_reducible repeat (first | apply Kd.S_alloc | apply Kd.S_drewN | apply Kd.S_drew)); exact HO_12.out) (Kd.R_base ho24) hb); have n1_ := Aside0.mk (Kd.R_elder' (by (with_reducible repeat (first | apply Kd.R_alloc | apply Kd.R_drewN | apply Kd.R_drew)); exact HO_13.out) (Kd.R_base ho24) hb); have n2_ := Aside0.mk (Kd.R_lower (Kd.R_new' ho24 (Kd.R_lt (by (with_reducible repeat (first | apply Kd.R_alloc | apply Kd.R_drewN | apply Kd.R_drew)); exact HO_13.out))) (below_size (by repeat (first | (with_reducible first | exact HB.out | apply below_alloc | apply pw_below_drewN | apply below_drew1) | exact HB.out)))); have n3_ := Aside0.mk (below_step (by repeat (first | (with_reducible first | exact HB.out | apply below_alloc | apply pw_below_drewN | apply below_drew1) | exact HB.out)) hb); clear HO_12; clear HO_13; clear HB; have HO_12 := n0_; have HO_13 := n1_; have HO137 := n2_; have HB := n3_; clear n0_ n1_ n2_ n3_; clear hb ho24))
                    go_loopg [15, 16] k3 (fun kq v15 v16 w' => ∃ (x13_4 : List Int) (x15_4 : List Int) (x16_4 : Int), v16 = .int .i64 x16_4 ∧ Aside0 (spec_DigitParts.l2 kq a2 a3 x12_3 x13_4 x14_3 x15_4 x16_4 = some (r1, r2)) ∧ Aside0 (kq ≤ k3) ∧ Aside0 (Kd.S (Kd.slice 3 (Kd.int .i64)) 22 w' w.heap.size (fun k_ => some k_ ≠ (v133 : Value).ownBlock ∧ some k_ ≠ (v15 : Value).ownBlock) u12 x12_3) ∧ Aside0 (Kd.R (Kd.int .i64) 3 w' w.heap.size (fun k_ => some k_ ≠ (v15 : Value).ownBlock) v133 x13_4) ∧ Aside0 (Kd.R (Kd.int .i64) 3 w' w.heap.size (fun k_ => some k_ ≠ (v133 : Value).ownBlock) v15 x15_4) ∧ Aside0 (Below w.heap.size w w'))
                    case atStart => exact ⟨(x13_3), (y135), (0), (by first | rfl | (simp; done) | (simp [*]; done)), H', ⟨Nat.le_refl _⟩, ⟨by (with_reducible repeat (first | apply Kd.S_alloc | apply Kd.S_drewN | apply Kd.S_drew)); exact HO_12.out⟩, ⟨by (with_reducible repeat (first | apply Kd.R_alloc | apply Kd.R_drewN | apply Kd.R_drew)); exact Kd.R_mono HO_13.out (fun _ hk => hk.2)⟩, ⟨by (with_reducible repeat (first | apply Kd.R_alloc | apply Kd.R_drewN | apply Kd.R_drew)); exact Kd.R_mono HO137.out (fun _ hk => hk.2)⟩, ⟨by repeat (first | (with_reducible first | exact HB.out | apply below_alloc | apply pw_below_drewN | apply below_drew1) | exact HB.out)⟩⟩
                    case round =>
                      clear H'
                      try clear c1
                      try clear c2
                      try clear p2
                      try clear c3
                      try clear c4
                      try clear c6
                      try clear p6
                      try clear c7
                      try clear c9
                      try clear c11
                      try clear c13
                      try clear c13b0
                      try clear c15
                      try clear c15b0
                      try clear c17
                      try clear c17b0
                      try clear c22
                      try clear c22b0
                      try clear p2
                      try clear p6
                      obtain ⟨x13_4, x15_4, x16_4, rfl, HA, HK4, HO_12, HO_13, HO_15, HB⟩ := hrel
                      cases gk with
                      | zero => exact absurd HA.out (by simp [spec_DigitParts.l2])
                      | succ k4 =>
                        have H := HA.out
                        clear HA
                        simp only [spec_DigitParts.l2] at H
                        by_cases c25 : x16_4 < (x13_4.length : Int)
                        · rw [if_pos c25] at H
                          have c25b0 : decide (x16_4 < (x13_4.length : Int)) = true := decide_eq_true c25
                          clear c25
                          by_cases c26 : 0 ≤ x16_4
                          · rw [if_pos c26] at H
                            have c26b0 : decide (0 ≤ x16_4) = true := decide_eq_true c26
                            clear c26
                            by_cases c27 : a2 = 0
                            · rw [if_pos c27] at H
                              exact absurd H (by simp)
                            · rw [if_neg c27] at H
                              have c27b0 : (a2 == 0) = false := beq_eq_false_iff_ne.mpr c27
                              have c27b1 : (a2 != 0) = true := bne_iff_ne.mpr c27
                              by_cases c28 : x15_4.length < 17592186044416
                              · rw [if_pos c28] at H
                                have LMc28 := Aside0.mk c28
                                clear c28
                                obtain ⟨y139, hy139⟩ : ∃ y_ : List Int, y_ = (x15_4 ++ [Int.tmod (rd x13_4 x16_4) a2]) := ⟨_, rfl⟩
                                replace H : (spec_DigitParts.l2 k4 a2 a3 x12_3 (x13_4.set (x16_4 : Int).toNat (wrap64 (Int.tdiv (rd x13_4 x16_4) a2))) x14_3 y139 (wrap64 (x16_4 + 1))) = some (r1, r2) := by first | (rw [hy139]; with_reducible exact H) | (have H2_ := (Option.bind_some _ _).symm.trans H; rw [hy139]; with_reducible exact H2_) | (have H2_ := (Option.bind_some _ _).symm.trans H; with_reducible exact H2_) | with_reducible exact H | (rw [hy139]; exact H) | exact H
                                have Ny139 := Aside0.mk hy139
                                clear hy139
                                obtain ⟨y143, hy143⟩ : ∃ y_ : List Int, y_ = (x13_4.set (x16_4 : Int).toNat (wrap64 (Int.tdiv (rd x13_4 x16_4) a2))) := ⟨_, rfl⟩
                                replace H : (spec_DigitParts.l2 k4 a2 a3 x12_3 y143 x14_3 y139 (wrap64 (x16_4 + 1))) = some (r1, r2) := by first | (rw [hy143]; with_reducible exact H) | (have H2_ := (Option.bind_some _ _).symm.trans H; rw [hy143]; with_reducible exact H2_) | (have H2_ := (Option.bind_some _ _).symm.trans H; with_reducible exact H2_) | with_reducible exact H | (rw [hy143]; exact H) | exact H
                                have Ny143 := Aside0.mk hy143
                                clear hy143
                                have H' := Aside0.mk H
                                clear H
                                obtain ⟨Ao30, co30, eo30⟩ := Kd.R_slice HO_13.out
                                subst eo30
                                have p138 : 0 ≤ (x16_4 : Int) := of_decide_eq_true (by first | (with_reducible assumption) | assumption)
                                have q138 : x16_4 < (x13_4.length : Int) := of_decide_eq_true (by first | (with_reducible assumption) | assumption)
                                obtain ⟨ad138, e138, hx138_0⟩ := Kd.at_int (Kd.R_reads' HO_13.out).2.2 x16_4 p138 q138
                                cases e138
                                replace p138 := eq_true p138
                                replace q138 := eq_true q138
                                go_wp2_with (first | ((with_reducible refine gate_builtin (b := .append) (xs := #[.tmp 64, .tmp 71]) rfl ?_); at_builtin; refine Kd.R_append (Kd.int .i64) (w0 := w) w.heap.size rfl (.tmp 64) (.tmp 71) 22 3 (.int .i64 0) 8 rfl Try.underlying22 info3 rfl (by decide) (by omega) u15 x15_4 (Int.tmod (rd x13_4 x16_4) a2) [.int .i64 (Int.tmod (rd x13_4 x16_4) a2)] (fun k_ => some k_ ≠ (.slice (some ad138) x13_4.length co30 : Value).ownBlock) (fun _ => False) rfl rfl ?aP (fun _ hk => hk.elim) ?aF ?aO ?aB ?aS ?aL ?_; (case aP => exact rfl); (case aB => exact (by repeat (first | (with_reducible first | exact HB.out | apply below_alloc | apply pw_below_drewN | apply below_drew1) | exact HB.out))); (case aF => exact (fun k_ hk => Kd.fresh' (Kd.R_lt (by (with_reducible repeat (first | apply Kd.R_alloc | apply Kd.R_drewN | apply Kd.R_drew)); exact HO_13.out)) k_ hk)); (case aO => exact (by (with_reducible repeat (first | apply Kd.R_alloc | apply Kd.R_drewN | apply Kd.R_drew)); exact HO_15.out)); (case aS => exact (below_size (by repeat (first | (with_reducible first | exact HB.out | apply below_alloc | apply pw_below_drewN | apply below_drew1) | exact HB.out)))); (case aL => have := LMc28.out; omega); intro v140 w31 ho hb hg hat; rw [← Ny139.out] at ho; have n0_ := Aside0.mk (Kd.S_after (ok := (fun k_ => some k_ ≠ (.slice (some ad138) x13_4.length co30 : Value).ownBlock)) (by (with_reducible repeat (first | apply Kd.S_alloc | apply Kd.S_drewN | apply Kd.S_drew)); exact HO_12.out) hg hat); have n1_ := Aside0.mk (Kd.R_after (ok := (fun _ => True)) (by (with_reducible repeat (first | apply Kd.R_alloc | apply Kd.R_drewN | apply Kd.R_drew)); exact Kd.R_mono HO_13.out (fun _ hk => ⟨trivial, hk⟩)) hg hat); have n2_ := Aside0.mk (hb); have n3_ := Aside0.mk (ho); clear HO_12; clear HO_13; clear HB; clear HO_15; have HO_12 := n0_; have HO_13 := n1_; have HB := n2_; have HO141 := n3_; clear n0_ n1_ n2_ n3_; clear ho hb hg hat; have p142 : 0 ≤ (x16_4 : Int) := of_decide_eq_true (by first | (with_reducible assumption) | assumption); have q142 : x16_4 < (x13_4.length : Int) := of_decide_eq_true (by first | (with_reducible assumption) | assumption); obtain ⟨ad142, e142, hx142_0⟩ := Kd.at_int (Kd.R_reads' HO_13.out).2.2 x16_4 p142 q142; obtain rfl : ad138 = ad142 := (by injection e142); replace p142 := eq_true p142; replace q142 := eq_true q142; have p29 : 0 ≤ (x16_4 : Int) := of_decide_eq_true (by first | (with_reducible assumption) | assumption); have q29 : (x16_4 : Int) < ((x13_4.length : Int) : Int) := of_decide_eq_true (by first | (with_reducible assumption) | assumption); obtain ⟨go29, co29, eo29, gb29, gl29, cl29, HG29⟩ := Kd.R_form HO_13.out (by omega); (first | cases eo29 | (injection eo29 with ea_ en_ ec_; (first | subst ea_ | (injection ea_ with ea_; subst ea_)); subst ec_; clear en_)); have GB29 := Aside0.mk gb29; have GG29 := Aside0.mk HG29; clear gb29 gl29 HG29; (first | simp only [add_plain] at hx138_0 | skip); (first | simp only [add_plain] at hx142_0 | skip); obtain ⟨hx29_0, hf29_0⟩ := Kd.R_celln 0 HO_13.out (x16_4 : Int) p29 q29; replace p29 := eq_true p29; replace q29 := eq_true q29; have n_ := Aside0.mk (Kd.R_mono (ok' := (fun k_ => some k_ ≠ (v140 : Value).ownBlock)) HO_13.out (fun k_ hk => hk.2)); clear HO_13; have HO_13 := n_; clear n_; obtain ⟨hy32_, hz32_⟩ := Kd.R_celln 0 HO_13.out (x16_4 : Int) (of_decide_eq_true (by first | (with_reducible assumption) | assumption)) (of_decide_eq_true (by first | (with_reducible assumption) | assumption)); have HP32 := Kd.R_putg HO_13.out (x16_4 : Int) (wrap64 (Int.tdiv (rd x13_4 x16_4) a2))) | ((with_reducible refine gate_store (t := 3) (p := 81) rfl ?_); refine store_event (t := 3) (p := 81) (v := ?vo_w33) (w1 := (w31.setCell ⟨go29, (x16_4 : Int).toNat, none⟩ (.int .i64 (wrap64 (Int.tdiv (rd x13_4 x16_4) a2))))) ?hg ?ho ?hn ?hr ?_; (case ho => rfl); (case hg => rfl); (case hn => rfl); (case hr => first | (go_simp; done) | (go_simp; rfl)); intro w33 hw; have hg : w31.grownBy w33 (some go29) := (by rw [hw]; exact HP32.2); have hp_ : Kd.R (Kd.int .i64) 3 w33 w.heap.size (fun k_ => some k_ ≠ (v140 : Value).ownBlock) (.slice (some ⟨go29, 0, none⟩) x13_4.length co30) y143 := (by rw [hw, Ny143.out]; exact HP32.1); clear HP32; have n0_ := Aside0.mk (Kd.S_after (v := (.slice (some ⟨go29, 0, none⟩) x13_4.length co30)) (v1 := (.slice (some ⟨go29, 0, none⟩) x13_4.length co30)) (ok := (fun k_ => some k_ ≠ (v140 : Value).ownBlock)) (by (with_reducible repeat (first | apply Kd.S_alloc | apply Kd.S_drewN | apply Kd.S_drew)); exact Kd.S_mono HO_12.out (fun _ hk => And.intro hk.2 hk.1)) hg (.inl rfl)); have n1_ := Aside0.mk (hp_); have n2_ := Aside0.mk (Kd.R_after (v := (.slice (some ⟨go29, 0, none⟩) x13_4.length co30)) (v1 := (.slice (some ⟨go29, 0, none⟩) x13_4.length co30)) (ok := (fun _ => True)) (by (with_reducible repeat (first | apply Kd.R_alloc | apply Kd.R_drewN | apply Kd.R_drew)); exact Kd.R_mono HO141.out (fun _ hk => ⟨trivial, hk⟩)) hg (.inl rfl)); have n3_ := Aside0.mk ((by rw [hw]; exact below_set (HB.out) GB29.out : Below w.heap.size w w33)); clear HO_12; clear HO_13; clear HO141; clear HB; have HO_12 := n0_; have HO_13 := n1_; have HO141 := n2_; have HB := n3_; clear n0_ n1_ n2_ n3_; clear hg hw hp_))
                                go_roundg k4
                                case measure => have := HJ4.out; have := HJ11.out; have := HK3.out; have := HK4.out; omega
                                case rel => exact ⟨(y143), (y139), (wrap64 (x16_4 + 1)), (by first | rfl | (simp; done) | (simp [*]; done)), H', ⟨by have := HJ4.out; have := HJ11.out; have := HK3.out; have := HK4.out; omega⟩, ⟨by (with_reducible repeat (first | apply Kd.S_alloc | apply Kd.S_drewN | apply Kd.S_drew)); exact Kd.S_mono HO_12.out (fun _ hk => And.intro hk.2 hk.1)⟩, ⟨by (with_reducible repeat (first | apply Kd.R_alloc | apply Kd.R_drewN | apply Kd.R_drew)); exact HO_13.out⟩, ⟨by (with_reducible repeat (first | apply Kd.R_alloc | apply Kd.R_drewN | apply Kd.R_drew)); exact Kd.R_mono HO141.out (fun _ hk => hk.2)⟩, ⟨by repeat (first | (with_reducible first | exact HB.out | apply below_alloc | apply pw_below_drewN | apply below_drew1) | exact HB.out)⟩⟩
                              · rw [if_neg c28] at H
                                exact absurd H (by simp)
                          · rw [if_neg c26] at H
                            exact absurd H (by simp)
                        · rw [if_neg c25] at H
                          have c25b0 : decide (x16_4 < (x13_4.length : Int)) = false := decide_eq_false c25
                          clear c25
                          by_cases c34 : x12_3.length < 5864062014805
                          · rw [if_pos c34] at H
                            have LMc34 := Aside0.mk c34
                            clear c34
                            obtain ⟨y144, hy144⟩ : ∃ y_ : List (List Int), y_ = (x12_3 ++ [x15_4]) := ⟨_, rfl⟩
                            replace H : (spec_DigitParts.l1 k4 a2 a3 y144 x13_4 (wrap64 (x14_3 + 1))) = some (r1, r2) := by first | (rw [hy144]; with_reducible exact H) | (have H2_ := (Option.bind_some _ _).symm.trans H; rw [hy144]; with_reducible exact H2_) | (have H2_ := (Option.bind_some _ _).symm.trans H; with_reducible exact H2_) | with_reducible exact H | (rw [hy144]; exact H) | exact H
                            have Ny144 := Aside0.mk hy144
                            clear hy144
                            have H' := Aside0.mk H
                            clear H
                            obtain ⟨Ao35, co35, eo35⟩ := Kd.R_slice HO_13.out
                            subst eo35
                            obtain ⟨Ao37, co37, eo37⟩ := Kd.R_slice HO_15.out
                            subst eo37
                            go_wp2_with (first | ((with_reducible refine gate_builtin (b := .append) (xs := #[.tmp 82, .tmp 84]) rfl ?_); at_builtin; refine Kd.S_append (Kd.slice 3 (Kd.int .i64)) (w0 := w) w.heap.size rfl (.tmp 82) (.tmp 84) 37 22 (.slice none 0 0) 24 rfl Try.underlying37 info22 rfl (by decide) (by omega) u12 x12_3 x15_4 [.slice Ao37 x15_4.length co37] (fun k_ => some k_ ≠ (.slice Ao35 x13_4.length co35 : Value).ownBlock) (fun k_ => some k_ = (.slice Ao37 x15_4.length co37 : Value).ownBlock) rfl rfl ?aP (fun k_ hk_ => ((Kd.R_mono (ok' := fun k_ => ((fun k_ => some k_ ≠ (.slice Ao35 x13_4.length co35 : Value).ownBlock)) k_ ∧ some k_ ≠ (u12 : Value).ownBlock) (Kd.R_apart' (HO_15.out) (Kd.S_typed HO_12.out) (by decide)) (fun k_ hk => ⟨hk.1, hk.2⟩))).1 k_ hk_.symm) ?aF ?aO ?aB ?aS ?aL ?_; (case aP => exact Kd.M_row (Kd.R_mono (Kd.R_tight rfl (Kd.R_mono (ok' := fun k_ => ((fun k_ => some k_ ≠ (.slice Ao35 x13_4.length co35 : Value).ownBlock)) k_ ∧ some k_ ≠ (u12 : Value).ownBlock) (Kd.R_apart' (HO_15.out) (Kd.S_typed HO_12.out) (by decide)) (fun k_ hk => ⟨hk.1, hk.2⟩))) (fun _ h_ => h_))); (case aB => exact (by repeat (first | (with_reducible first | exact HB.out | apply below_alloc | apply pw_below_drewN | apply below_drew1) | exact HB.out))); (case aF => exact (fun k_ hk => Kd.fresh' (Kd.R_lt (by (with_reducible repeat (first | apply Kd.R_alloc | apply Kd.R_drewN | apply Kd.R_drew)); exact HO_13.out)) k_ hk)); (case aO => exact (by (with_reducible repeat (first | apply Kd.S_alloc | apply Kd.S_drewN | apply Kd.S_drew)); exact Kd.S_mono HO_12.out (fun k_ hk => ⟨hk.1, fun e_ => hk.2 e_⟩))); (case aS => exact (below_size (by repeat (first | (with_reducible first | exact HB.out | apply below_alloc | apply pw_below_drewN | apply below_drew1) | exact HB.out)))); (case aL => have := LMc34.out; omega); intro v145 w36 ho hb hg hat; rw [← Ny144.out] at ho; have n0_ := Aside0.mk (Kd.R_over' (by (with_reducible repeat (first | apply Kd.R_alloc | apply Kd.R_drewN | apply Kd.R_drew)); exact HO_13.out) (Kd.S_typed (by (with_reducible repeat (first | apply Kd.S_alloc | apply Kd.S_drewN | apply Kd.S_drew)); exact HO_12.out)) (by decide) hg); have n1_ := Aside0.mk (hb); have n2_ := Aside0.mk (ho); clear HO_13; clear HB; clear HO_12; clear HO_15; have HO_13 := n0_; have HB := n1_; have HO146 := n2_; clear n0_ n1_ n2_; clear ho hb hg hat))
                            go_roundg k4
                            case measure => have := HJ4.out; have := HJ11.out; have := HK3.out; have := HK4.out; omega
                            case rel => exact ⟨(y144), (x13_4), (wrap64 (x14_3 + 1)), (by first | rfl | (simp; done) | (simp [*]; done)), H', ⟨by have := HJ4.out; have := HJ11.out; have := HK3.out; have := HK4.out; omega⟩, ⟨by (with_reducible repeat (first | apply Kd.S_alloc | apply Kd.S_drewN | apply Kd.S_drew)); exact HO146.out⟩, ⟨by (with_reducible repeat (first | apply Kd.R_alloc | apply Kd.R_drewN | apply Kd.R_drew)); exact Kd.R_mono HO_13.out (fun _ hk => trivial)⟩, ⟨by repeat (first | (with_reducible first | exact HB.out | apply below_alloc | apply pw_below_drewN | apply below_drew1) | exact HB.out)⟩⟩
                          · rw [if_neg c34] at H
                            exact absurd H (by simp)
                  · rw [if_neg c22] at H
                    have c22b0 : decide (x14_3 < a3) = false := decide_eq_false c22
                    clear c22
                    simp only [Option.some.injEq, Prod.mk.injEq] at H
                    obtain ⟨rfl, rfl⟩ := H
                    go_wp2
                    go_ret2
                    exact ⟨_, by first | rfl | (simp [errW_none, errW_some] <;> rfl) | (simp [*, errW_none, errW_some] <;> rfl), by (with_reducible repeat (first | apply Kd.S_alloc | apply Kd.S_drewN | apply Kd.S_drew)); exact Kd.S_mono HO_12.out (fun _ hk => trivial), by repeat (first | (with_reducible first | exact HB.out | apply below_alloc | apply pw_below_drewN | apply below_drew1) | exact HB.out)⟩

/-! ### impl_fieldOf: function 78 -/
def impl_fieldOf.f (a0 : Int) : Option (Int × Int × Int × Bool) := if a0 < 0 then (some (0, 0, 0, false)) else (if a0 ≥ 9 then (some (0, 0, 0, false)) else (if a0 = 0 then (some (17, 3, 4, true)) else (if a0 = 1 then (some (97, 5, 5, true)) else (if a0 = 2 then (some (193, 5, 6, true)) else (if a0 = 3 then (some (257, 3, 8, true)) else (if a0 = 4 then (some (7681, 17, 9, true)) else (if a0 = 5 then (some (12289, 11, 12, true)) else (if a0 = 6 then (some (998244353, 3, 23, true)) else (if a0 = 7 then (some (469762049, 3, 26, true)) else (some (1004535809, 3, 21, true)))))))))))
/- impl.fieldOf: its table is an array; one walk for each field, one for no field. -/
theorem fo_setRow {w : World} {g : Nat} {t : TypeId} {old cs : Array Value} (h : w.heap[g]? = some (.cells old t (0, 0))) : (w.setRow g cs).heap[g]? = some (.cells cs t (0, 0)) := setRow_heap w g old cs t (0, 0) h
theorem fo_setRow_ne {w : World} {g j : Nat} {cs : Array Value} (h : j ≠ g) : (w.setRow g cs).heap[j]? = w.heap[j]? := setRow_other w g j cs h
theorem fo_below {w W : World} {g : Nat} {cs : Array Value} (h : Below w.heap.size w W) (hg : w.heap.size ≤ g) : Below w.heap.size w (W.setRow g cs) :=
  h.trans ⟨rfl, rfl, rfl, by simp [World.setRow], fun k hk => fo_setRow_ne (by omega)⟩
theorem fo_store {P : Program} {ops : Array Oper} {rest : List Oper} {o : Oper} {a : Act} {Q : Exit → Act → World → Prop} {w W : World} (hgd : o.guard = none) (ty : TypeId) (x y : Operand) (ho : o.op = .store ty x y)
    (hd : o.dst = none) (g : Nat) (cells : Array Value) (hx : a.eval x = .pointer (some ⟨g, 0, none⟩)) (hy : a.eval y = .agg cells)
    (t : TypeId) (old : Array Value) (hg : W.heap[g]? = some (.cells old t (0, 0))) (hi : (P.info? ty).map (·.size) = some cells.size)
    (hold : old.size = cells.size) (h1 : cells.all (·.oneCell') = true) (hb : Below w.heap.size w W) (hgw : w.heap.size ≤ g)
    (h : ∀ w1 : World, w1.heap[g]? = some (.cells cells t (0, 0)) → Below w.heap.size w w1 → (∀ j, j ≠ g → w1.heap[j]? = W.heap[j]?) → wpList P ops Q rest a w1) : wpList P ops Q (o :: rest) a W :=
  wpList_store_row hgd ty x y ho g cells hx hy t old hg hi hold h1 (by rw [hd]; exact h _ (fo_setRow hg) (fo_below hb hgw) (fun j hj => fo_setRow_ne hj))

set_option maxHeartbeats 8000000 in
set_option maxRecDepth 100000 in
theorem fo_0 (w : World)  :
    Calls Try.prog 78 #[.int .i64 0] w fun e w' => e = .returned (.tuple #[.agg #[.int .i64 17, .int .i64 3, .int .i64 4], .bool true]) ∧ Below w.heap.size w w' := by
  have HB := Aside0.mk (Below.refl w.heap.size w)
  go_enter Try.func78, Try.ntmps78
  go_wp2_with (first | ((with_reducible refine gate_dst (N := 2) rfl ?_); refine box_event ?hg (N := 2) ?hd (cs := #[.int .i64 0, .int .i64 0, .int .i64 0]) (t := 54) ?hr ?_; (case hd => rfl); (case hg => rfl); (case hr => first | (go_simp; done) | (go_simp; rfl)); intro g2 hg wb2 hbox hb; have HB2 := Aside0.mk (below_step HB.out hb); have BK2 := Aside0.mk hbox; have GW2 := Aside0.mk (hg ▸ below_size HB.out : w.heap.size ≤ g2); clear HB; have HB := HB2; clear HB2 hb hbox hg) | ((with_reducible refine gate_dst (N := 4) rfl ?_); refine box_event ?hg (N := 4) ?hd (cs := #[.int .i64 0, .int .i64 0, .int .i64 0, .int .i64 0, .int .i64 0, .int .i64 0, .int .i64 0, .int .i64 0, .int .i64 0, .int .i64 0, .int .i64 0, .int .i64 0, .int .i64 0, .int .i64 0, .int .i64 0, .int .i64 0, .int .i64 0, .int .i64 0, .int .i64 0, .int .i64 0, .int .i64 0, .int .i64 0, .int .i64 0, .int .i64 0, .int .i64 0, .int .i64 0, .int .i64 0]) (t := 80) ?hr ?_; (case hd => rfl); (case hg => rfl); (case hr => first | (go_simp; done) | (go_simp; rfl)); intro g4 hg wb4 hbox hb; have BK2b := Aside0.mk (blk_below BK2.out hb); have NE := Aside0.mk (by rw [hg]; exact Nat.ne_of_lt (blk_lt BK2.out) : g2 ≠ g4); have HB4 := Aside0.mk (below_step HB.out hb); have BK4 := Aside0.mk hbox; have GW4 := Aside0.mk (hg ▸ below_size HB.out : w.heap.size ≤ g4); clear HB BK2; have HB := HB4; have BK2 := BK2b; clear HB4 BK2b hb hbox hg) | ((with_reducible refine gate_store (t := 80) (p := 4) rfl ?_); refine fo_store (w := w) rfl 80 (.tmp 4) (.tmp 14) rfl rfl g4 #[.int .i64 17, .int .i64 3, .int .i64 4, .int .i64 97, .int .i64 5, .int .i64 5, .int .i64 193, .int .i64 5, .int .i64 6, .int .i64 257, .int .i64 3, .int .i64 8, .int .i64 7681, .int .i64 17, .int .i64 9, .int .i64 12289, .int .i64 11, .int .i64 12, .int .i64 998244353, .int .i64 3, .int .i64 23, .int .i64 469762049, .int .i64 3, .int .i64 26, .int .i64 1004535809, .int .i64 3, .int .i64 21] rfl rfl 80 #[.int .i64 0, .int .i64 0, .int .i64 0, .int .i64 0, .int .i64 0, .int .i64 0, .int .i64 0, .int .i64 0, .int .i64 0, .int .i64 0, .int .i64 0, .int .i64 0, .int .i64 0, .int .i64 0, .int .i64 0, .int .i64 0, .int .i64 0, .int .i64 0, .int .i64 0, .int .i64 0, .int .i64 0, .int .i64 0, .int .i64 0, .int .i64 0, .int .i64 0, .int .i64 0, .int .i64 0] BK4.out (by kernel_rfl) (by kernel_rfl) (by kernel_rfl) HB.out GW4.out ?_; intro w5 hk hb5 hoth; have HB5 := Aside0.mk hb5; have BK2b := Aside0.mk ((hoth g2 NE.out).trans BK2.out); clear HB BK2 hb5 hoth; have HB := HB5; have BK2 := BK2b; clear HB5 BK2b; have c0 : w5.cell? ⟨g4, 0, none⟩ = some (.int .i64 17) := (blk_cell hk 0).trans rfl; have c1 : w5.cell? ⟨g4, 1, none⟩ = some (.int .i64 3) := (blk_cell hk 1).trans rfl; have c2 : w5.cell? ⟨g4, 2, none⟩ = some (.int .i64 4) := (blk_cell hk 2).trans rfl;  clear hk) | ((with_reducible refine gate_store (t := 54) (p := 2) rfl ?_); refine fo_store (w := w) rfl 54 (.tmp 2) (.tmp 24) rfl rfl g2 #[.int .i64 17, .int .i64 3, .int .i64 4] rfl rfl 54 #[.int .i64 0, .int .i64 0, .int .i64 0] BK2.out (by kernel_rfl) (by kernel_rfl) (by kernel_rfl) HB.out GW2.out ?_; intro w6 hk hb5 hoth; have HB5 := Aside0.mk hb5; have BK2b := Aside0.mk hk; clear HB BK2 hb5 hoth hk; have HB := HB5; have BK2 := BK2b; clear HB5 BK2b))
  refine bodyPost_ret (results_ct rfl _ _ g2 54 #[.int .i64 17, .int .i64 3, .int .i64 4] (0, 0) _ rfl BK2.out Try.underlying54 rfl (by kernel_rfl)) rfl ?_
  exact ⟨rfl, HB.out⟩

set_option maxHeartbeats 8000000 in
set_option maxRecDepth 100000 in
theorem fo_1 (w : World)  :
    Calls Try.prog 78 #[.int .i64 1] w fun e w' => e = .returned (.tuple #[.agg #[.int .i64 97, .int .i64 5, .int .i64 5], .bool true]) ∧ Below w.heap.size w w' := by
  have HB := Aside0.mk (Below.refl w.heap.size w)
  go_enter Try.func78, Try.ntmps78
  go_wp2_with (first | ((with_reducible refine gate_dst (N := 2) rfl ?_); refine box_event ?hg (N := 2) ?hd (cs := #[.int .i64 0, .int .i64 0, .int .i64 0]) (t := 54) ?hr ?_; (case hd => rfl); (case hg => rfl); (case hr => first | (go_simp; done) | (go_simp; rfl)); intro g2 hg wb2 hbox hb; have HB2 := Aside0.mk (below_step HB.out hb); have BK2 := Aside0.mk hbox; have GW2 := Aside0.mk (hg ▸ below_size HB.out : w.heap.size ≤ g2); clear HB; have HB := HB2; clear HB2 hb hbox hg) | ((with_reducible refine gate_dst (N := 4) rfl ?_); refine box_event ?hg (N := 4) ?hd (cs := #[.int .i64 0, .int .i64 0, .int .i64 0, .int .i64 0, .int .i64 0, .int .i64 0, .int .i64 0, .int .i64 0, .int .i64 0, .int .i64 0, .int .i64 0, .int .i64 0, .int .i64 0, .int .i64 0, .int .i64 0, .int .i64 0, .int .i64 0, .int .i64 0, .int .i64 0, .int .i64 0, .int .i64 0, .int .i64 0, .int .i64 0, .int .i64 0, .int .i64 0, .int .i64 0, .int .i64 0]) (t := 80) ?hr ?_; (case hd => rfl); (case hg => rfl); (case hr => first | (go_simp; done) | (go_simp; rfl)); intro g4 hg wb4 hbox hb; have BK2b := Aside0.mk (blk_below BK2.out hb); have NE := Aside0.mk (by rw [hg]; exact Nat.ne_of_lt (blk_lt BK2.out) : g2 ≠ g4); have HB4 := Aside0.mk (below_step HB.out hb); have BK4 := Aside0.mk hbox; have GW4 := Aside0.mk (hg ▸ below_size HB.out : w.heap.size ≤ g4); clear HB BK2; have HB := HB4; have BK2 := BK2b; clear HB4 BK2b hb hbox hg) | ((with_reducible refine gate_store (t := 80) (p := 4) rfl ?_); refine fo_store (w := w) rfl 80 (.tmp 4) (.tmp 14) rfl rfl g4 #[.int .i64 17, .int .i64 3, .int .i64 4, .int .i64 97, .int .i64 5, .int .i64 5, .int .i64 193, .int .i64 5, .int .i64 6, .int .i64 257, .int .i64 3, .int .i64 8, .int .i64 7681, .int .i64 17, .int .i64 9, .int .i64 12289, .int .i64 11, .int .i64 12, .int .i64 998244353, .int .i64 3, .int .i64 23, .int .i64 469762049, .int .i64 3, .int .i64 26, .int .i64 1004535809, .int .i64 3, .int .i64 21] rfl rfl 80 #[.int .i64 0, .int .i64 0, .int .i64 0, .int .i64 0, .int .i64 0, .int .i64 0, .int .i64 0, .int .i64 0, .int .i64 0, .int .i64 0, .int .i64 0, .int .i64 0, .int .i64 0, .int .i64 0, .int .i64 0, .int .i64 0, .int .i64 0, .int .i64 0, .int .i64 0, .int .i64 0, .int .i64 0, .int .i64 0, .int .i64 0, .int .i64 0, .int .i64 0, .int .i64 0, .int .i64 0] BK4.out (by kernel_rfl) (by kernel_rfl) (by kernel_rfl) HB.out GW4.out ?_; intro w5 hk hb5 hoth; have HB5 := Aside0.mk hb5; have BK2b := Aside0.mk ((hoth g2 NE.out).trans BK2.out); clear HB BK2 hb5 hoth; have HB := HB5; have BK2 := BK2b; clear HB5 BK2b; have c0 : w5.cell? ⟨g4, 3, none⟩ = some (.int .i64 97) := (blk_cell hk 3).trans rfl; have c1 : w5.cell? ⟨g4, 4, none⟩ = some (.int .i64 5) := (blk_cell hk 4).trans rfl; have c2 : w5.cell? ⟨g4, 5, none⟩ = some (.int .i64 5) := (blk_cell hk 5).trans rfl;  clear hk) | ((with_reducible refine gate_store (t := 54) (p := 2) rfl ?_); refine fo_store (w := w) rfl 54 (.tmp 2) (.tmp 24) rfl rfl g2 #[.int .i64 97, .int .i64 5, .int .i64 5] rfl rfl 54 #[.int .i64 0, .int .i64 0, .int .i64 0] BK2.out (by kernel_rfl) (by kernel_rfl) (by kernel_rfl) HB.out GW2.out ?_; intro w6 hk hb5 hoth; have HB5 := Aside0.mk hb5; have BK2b := Aside0.mk hk; clear HB BK2 hb5 hoth hk; have HB := HB5; have BK2 := BK2b; clear HB5 BK2b))
  refine bodyPost_ret (results_ct rfl _ _ g2 54 #[.int .i64 97, .int .i64 5, .int .i64 5] (0, 0) _ rfl BK2.out Try.underlying54 rfl (by kernel_rfl)) rfl ?_
  exact ⟨rfl, HB.out⟩

set_option maxHeartbeats 8000000 in
set_option maxRecDepth 100000 in
theorem fo_2 (w : World)  :
    Calls Try.prog 78 #[.int .i64 2] w fun e w' => e = .returned (.tuple #[.agg #[.int .i64 193, .int .i64 5, .int .i64 6], .bool true]) ∧ Below w.heap.size w w' := by
  have HB := Aside0.mk (Below.refl w.heap.size w)
  go_enter Try.func78, Try.ntmps78
  go_wp2_with (first | ((with_reducible refine gate_dst (N := 2) rfl ?_); refine box_event ?hg (N := 2) ?hd (cs := #[.int .i64 0, .int .i64 0, .int .i64 0]) (t := 54) ?hr ?_; (case hd => rfl); (case hg => rfl); (case hr => first | (go_simp; done) | (go_simp; rfl)); intro g2 hg wb2 hbox hb; have HB2 := Aside0.mk (below_step HB.out hb); have BK2 := Aside0.mk hbox; have GW2 := Aside0.mk (hg ▸ below_size HB.out : w.heap.size ≤ g2); clear HB; have HB := HB2; clear HB2 hb hbox hg) | ((with_reducible refine gate_dst (N := 4) rfl ?_); refine box_event ?hg (N := 4) ?hd (cs := #[.int .i64 0, .int .i64 0, .int .i64 0, .int .i64 0, .int .i64 0, .int .i64 0, .int .i64 0, .int .i64 0, .int .i64 0, .int .i64 0, .int .i64 0, .int .i64 0, .int .i64 0, .int .i64 0, .int .i64 0, .int .i64 0, .int .i64 0, .int .i64 0, .int .i64 0, .int .i64 0, .int .i64 0, .int .i64 0, .int .i64 0, .int .i64 0, .int .i64 0, .int .i64 0, .int .i64 0]) (t := 80) ?hr ?_; (case hd => rfl); (case hg => rfl); (case hr => first | (go_simp; done) | (go_simp; rfl)); intro g4 hg wb4 hbox hb; have BK2b := Aside0.mk (blk_below BK2.out hb); have NE := Aside0.mk (by rw [hg]; exact Nat.ne_of_lt (blk_lt BK2.out) : g2 ≠ g4); have HB4 := Aside0.mk (below_step HB.out hb); have BK4 := Aside0.mk hbox; have GW4 := Aside0.mk (hg ▸ below_size HB.out : w.heap.size ≤ g4); clear HB BK2; have HB := HB4; have BK2 := BK2b; clear HB4 BK2b hb hbox hg) | ((with_reducible refine gate_store (t := 80) (p := 4) rfl ?_); refine fo_store (w := w) rfl 80 (.tmp 4) (.tmp 14) rfl rfl g4 #[.int .i64 17, .int .i64 3, .int .i64 4, .int .i64 97, .int .i64 5, .int .i64 5, .int .i64 193, .int .i64 5, .int .i64 6, .int .i64 257, .int .i64 3, .int .i64 8, .int .i64 7681, .int .i64 17, .int .i64 9, .int .i64 12289, .int .i64 11, .int .i64 12, .int .i64 998244353, .int .i64 3, .int .i64 23, .int .i64 469762049, .int .i64 3, .int .i64 26, .int .i64 1004535809, .int .i64 3, .int .i64 21] rfl rfl 80 #[.int .i64 0, .int .i64 0, .int .i64 0, .int .i64 0, .int .i64 0, .int .i64 0, .int .i64 0, .int .i64 0, .int .i64 0, .int .i64 0, .int .i64 0, .int .i64 0, .int .i64 0, .int .i64 0, .int .i64 0, .int .i64 0, .int .i64 0, .int .i64 0, .int .i64 0, .int .i64 0, .int .i64 0, .int .i64 0, .int .i64 0, .int .i64 0, .int .i64 0, .int .i64 0, .int .i64 0] BK4.out (by kernel_rfl) (by kernel_rfl) (by kernel_rfl) HB.out GW4.out ?_; intro w5 hk hb5 hoth; have HB5 := Aside0.mk hb5; have BK2b := Aside0.mk ((hoth g2 NE.out).trans BK2.out); clear HB BK2 hb5 hoth; have HB := HB5; have BK2 := BK2b; clear HB5 BK2b; have c0 : w5.cell? ⟨g4, 6, none⟩ = some (.int .i64 193) := (blk_cell hk 6).trans rfl; have c1 : w5.cell? ⟨g4, 7, none⟩ = some (.int .i64 5) := (blk_cell hk 7).trans rfl; have c2 : w5.cell? ⟨g4, 8, none⟩ = some (.int .i64 6) := (blk_cell hk 8).trans rfl;  clear hk) | ((with_reducible refine gate_store (t := 54) (p := 2) rfl ?_); refine fo_store (w := w) rfl 54 (.tmp 2) (.tmp 24) rfl rfl g2 #[.int .i64 193, .int .i64 5, .int .i64 6] rfl rfl 54 #[.int .i64 0, .int .i64 0, .int .i64 0] BK2.out (by kernel_rfl) (by kernel_rfl) (by kernel_rfl) HB.out GW2.out ?_; intro w6 hk hb5 hoth; have HB5 := Aside0.mk hb5; have BK2b := Aside0.mk hk; clear HB BK2 hb5 hoth hk; have HB := HB5; have BK2 := BK2b; clear HB5 BK2b))
  refine bodyPost_ret (results_ct rfl _ _ g2 54 #[.int .i64 193, .int .i64 5, .int .i64 6] (0, 0) _ rfl BK2.out Try.underlying54 rfl (by kernel_rfl)) rfl ?_
  exact ⟨rfl, HB.out⟩

set_option maxHeartbeats 8000000 in
set_option maxRecDepth 100000 in
theorem fo_3 (w : World)  :
    Calls Try.prog 78 #[.int .i64 3] w fun e w' => e = .returned (.tuple #[.agg #[.int .i64 257, .int .i64 3, .int .i64 8], .bool true]) ∧ Below w.heap.size w w' := by
  have HB := Aside0.mk (Below.refl w.heap.size w)
  go_enter Try.func78, Try.ntmps78
  go_wp2_with (first | ((with_reducible refine gate_dst (N := 2) rfl ?_); refine box_event ?hg (N := 2) ?hd (cs := #[.int .i64 0, .int .i64 0, .int .i64 0]) (t := 54) ?hr ?_; (case hd => rfl); (case hg => rfl); (case hr => first | (go_simp; done) | (go_simp; rfl)); intro g2 hg wb2 hbox hb; have HB2 := Aside0.mk (below_step HB.out hb); have BK2 := Aside0.mk hbox; have GW2 := Aside0.mk (hg ▸ below_size HB.out : w.heap.size ≤ g2); clear HB; have HB := HB2; clear HB2 hb hbox hg) | ((with_reducible refine gate_dst (N := 4) rfl ?_); refine box_event ?hg (N := 4) ?hd (cs := #[.int .i64 0, .int .i64 0, .int .i64 0, .int .i64 0, .int .i64 0, .int .i64 0, .int .i64 0, .int .i64 0, .int .i64 0, .int .i64 0, .int .i64 0, .int .i64 0, .int .i64 0, .int .i64 0, .int .i64 0, .int .i64 0, .int .i64 0, .int .i64 0, .int .i64 0, .int .i64 0, .int .i64 0, .int .i64 0, .int .i64 0, .int .i64 0, .int .i64 0, .int .i64 0, .int .i64 0]) (t := 80) ?hr ?_; (case hd => rfl); (case hg => rfl); (case hr => first | (go_simp; done) | (go_simp; rfl)); intro g4 hg wb4 hbox hb; have BK2b := Aside0.mk (blk_below BK2.out hb); have NE := Aside0.mk (by rw [hg]; exact Nat.ne_of_lt (blk_lt BK2.out) : g2 ≠ g4); have HB4 := Aside0.mk (below_step HB.out hb); have BK4 := Aside0.mk hbox; have GW4 := Aside0.mk (hg ▸ below_size HB.out : w.heap.size ≤ g4); clear HB BK2; have HB := HB4; have BK2 := BK2b; clear HB4 BK2b hb hbox hg) | ((with_reducible refine gate_store (t := 80) (p := 4) rfl ?_); refine fo_store (w := w) rfl 80 (.tmp 4) (.tmp 14) rfl rfl g4 #[.int .i64 17, .int .i64 3, .int .i64 4, .int .i64 97, .int .i64 5, .int .i64 5, .int .i64 193, .int .i64 5, .int .i64 6, .int .i64 257, .int .i64 3, .int .i64 8, .int .i64 7681, .int .i64 17, .int .i64 9, .int .i64 12289, .int .i64 11, .int .i64 12, .int .i64 998244353, .int .i64 3, .int .i64 23, .int .i64 469762049, .int .i64 3, .int .i64 26, .int .i64 1004535809, .int .i64 3, .int .i64 21] rfl rfl 80 #[.int .i64 0, .int .i64 0, .int .i64 0, .int .i64 0, .int .i64 0, .int .i64 0, .int .i64 0, .int .i64 0, .int .i64 0, .int .i64 0, .int .i64 0, .int .i64 0, .int .i64 0, .int .i64 0, .int .i64 0, .int .i64 0, .int .i64 0, .int .i64 0, .int .i64 0, .int .i64 0, .int .i64 0, .int .i64 0, .int .i64 0, .int .i64 0, .int .i64 0, .int .i64 0, .int .i64 0] BK4.out (by kernel_rfl) (by kernel_rfl) (by kernel_rfl) HB.out GW4.out ?_; intro w5 hk hb5 hoth; have HB5 := Aside0.mk hb5; have BK2b := Aside0.mk ((hoth g2 NE.out).trans BK2.out); clear HB BK2 hb5 hoth; have HB := HB5; have BK2 := BK2b; clear HB5 BK2b; have c0 : w5.cell? ⟨g4, 9, none⟩ = some (.int .i64 257) := (blk_cell hk 9).trans rfl; have c1 : w5.cell? ⟨g4, 10, none⟩ = some (.int .i64 3) := (blk_cell hk 10).trans rfl; have c2 : w5.cell? ⟨g4, 11, none⟩ = some (.int .i64 8) := (blk_cell hk 11).trans rfl;  clear hk) | ((with_reducible refine gate_store (t := 54) (p := 2) rfl ?_); refine fo_store (w := w) rfl 54 (.tmp 2) (.tmp 24) rfl rfl g2 #[.int .i64 257, .int .i64 3, .int .i64 8] rfl rfl 54 #[.int .i64 0, .int .i64 0, .int .i64 0] BK2.out (by kernel_rfl) (by kernel_rfl) (by kernel_rfl) HB.out GW2.out ?_; intro w6 hk hb5 hoth; have HB5 := Aside0.mk hb5; have BK2b := Aside0.mk hk; clear HB BK2 hb5 hoth hk; have HB := HB5; have BK2 := BK2b; clear HB5 BK2b))
  refine bodyPost_ret (results_ct rfl _ _ g2 54 #[.int .i64 257, .int .i64 3, .int .i64 8] (0, 0) _ rfl BK2.out Try.underlying54 rfl (by kernel_rfl)) rfl ?_
  exact ⟨rfl, HB.out⟩

set_option maxHeartbeats 8000000 in
set_option maxRecDepth 100000 in
theorem fo_4 (w : World)  :
    Calls Try.prog 78 #[.int .i64 4] w fun e w' => e = .returned (.tuple #[.agg #[.int .i64 7681, .int .i64 17, .int .i64 9], .bool true]) ∧ Below w.heap.size w w' := by
  have HB := Aside0.mk (Below.refl w.heap.size w)
  go_enter Try.func78, Try.ntmps78
  go_wp2_with (first | ((with_reducible refine gate_dst (N := 2) rfl ?_); refine box_event ?hg (N := 2) ?hd (cs := #[.int .i64 0, .int .i64 0, .int .i64 0]) (t := 54) ?hr ?_; (case hd => rfl); (case hg => rfl); (case hr => first | (go_simp; done) | (go_simp; rfl)); intro g2 hg wb2 hbox hb; have HB2 := Aside0.mk (below_step HB.out hb); have BK2 := Aside0.mk hbox; have GW2 := Aside0.mk (hg ▸ below_size HB.out : w.heap.size ≤ g2); clear HB; have HB := HB2; clear HB2 hb hbox hg) | ((with_reducible refine gate_dst (N := 4) rfl ?_); refine box_event ?hg (N := 4) ?hd (cs := #[.int .i64 0, .int .i64 0, .int .i64 0, .int .i64 0, .int .i64 0, .int .i64 0, .int .i64 0, .int .i64 0, .int .i64 0, .int .i64 0, .int .i64 0, .int .i64 0, .int .i64 0, .int .i64 0, .int .i64 0, .int .i64 0, .int .i64 0, .int .i64 0, .int .i64 0, .int .i64 0, .int .i64 0, .int .i64 0, .int .i64 0, .int .i64 0, .int .i64 0, .int .i64 0, .int .i64 0]) (t := 80) ?hr ?_; (case hd => rfl); (case hg => rfl); (case hr => first | (go_simp; done) | (go_simp; rfl)); intro g4 hg wb4 hbox hb; have BK2b := Aside0.mk (blk_below BK2.out hb); have NE := Aside0.mk (by rw [hg]; exact Nat.ne_of_lt (blk_lt BK2.out) : g2 ≠ g4); have HB4 := Aside0.mk (below_step HB.out hb); have BK4 := Aside0.mk hbox; have GW4 := Aside0.mk (hg ▸ below_size HB.out : w.heap.size ≤ g4); clear HB BK2; have HB := HB4; have BK2 := BK2b; clear HB4 BK2b hb hbox hg) | ((with_reducible refine gate_store (t := 80) (p := 4) rfl ?_); refine fo_store (w := w) rfl 80 (.tmp 4) (.tmp 14) rfl rfl g4 #[.int .i64 17, .int .i64 3, .int .i64 4, .int .i64 97, .int .i64 5, .int .i64 5, .int .i64 193, .int .i64 5, .int .i64 6, .int .i64 257, .int .i64 3, .int .i64 8, .int .i64 7681, .int .i64 17, .int .i64 9, .int .i64 12289, .int .i64 11, .int .i64 12, .int .i64 998244353, .int .i64 3, .int .i64 23, .int .i64 469762049, .int .i64 3, .int .i64 26, .int .i64 1004535809, .int .i64 3, .int .i64 21] rfl rfl 80 #[.int .i64 0, .int .i64 0, .int .i64 0, .int .i64 0, .int .i64 0, .int .i64 0, .int .i64 0, .int .i64 0, .int .i64 0, .int .i64 0, .int .i64 0, .int .i64 0, .int .i64 0, .int .i64 0, .int .i64 0, .int .i64 0, .int .i64 0, .int .i64 0, .int .i64 0, .int .i64 0, .int .i64 0, .int .i64 0, .int .i64 0, .int .i64 0, .int .i64 0, .int .i64 0, .int .i64 0] BK4.out (by kernel_rfl) (by kernel_rfl) (by kernel_rfl) HB.out GW4.out ?_; intro w5 hk hb5 hoth; have HB5 := Aside0.mk hb5; have BK2b := Aside0.mk ((hoth g2 NE.out).trans BK2.out); clear HB BK2 hb5 hoth; have HB := HB5; have BK2 := BK2b; clear HB5 BK2b; have c0 : w5.cell? ⟨g4, 12, none⟩ = some (.int .i64 7681) := (blk_cell hk 12).trans rfl; have c1 : w5.cell? ⟨g4, 13, none⟩ = some (.int .i64 17) := (blk_cell hk 13).trans rfl; have c2 : w5.cell? ⟨g4, 14, none⟩ = some (.int .i64 9) := (blk_cell hk 14).trans rfl;  clear hk) | ((with_reducible refine gate_store (t := 54) (p := 2) rfl ?_); refine fo_store (w := w) rfl 54 (.tmp 2) (.tmp 24) rfl rfl g2 #[.int .i64 7681, .int .i64 17, .int .i64 9] rfl rfl 54 #[.int .i64 0, .int .i64 0, .int .i64 0] BK2.out (by kernel_rfl) (by kernel_rfl) (by kernel_rfl) HB.out GW2.out ?_; intro w6 hk hb5 hoth; have HB5 := Aside0.mk hb5; have BK2b := Aside0.mk hk; clear HB BK2 hb5 hoth hk; have HB := HB5; have BK2 := BK2b; clear HB5 BK2b))
  refine bodyPost_ret (results_ct rfl _ _ g2 54 #[.int .i64 7681, .int .i64 17, .int .i64 9] (0, 0) _ rfl BK2.out Try.underlying54 rfl (by kernel_rfl)) rfl ?_
  exact ⟨rfl, HB.out⟩

set_option maxHeartbeats 8000000 in
set_option maxRecDepth 100000 in
theorem fo_5 (w : World)  :
    Calls Try.prog 78 #[.int .i64 5] w fun e w' => e = .returned (.tuple #[.agg #[.int .i64 12289, .int .i64 11, .int .i64 12], .bool true]) ∧ Below w.heap.size w w' := by
  have HB := Aside0.mk (Below.refl w.heap.size w)
  go_enter Try.func78, Try.ntmps78
  go_wp2_with (first | ((with_reducible refine gate_dst (N := 2) rfl ?_); refine box_event ?hg (N := 2) ?hd (cs := #[.int .i64 0, .int .i64 0, .int .i64 0]) (t := 54) ?hr ?_; (case hd => rfl); (case hg => rfl); (case hr => first | (go_simp; done) | (go_simp; rfl)); intro g2 hg wb2 hbox hb; have HB2 := Aside0.mk (below_step HB.out hb); have BK2 := Aside0.mk hbox; have GW2 := Aside0.mk (hg ▸ below_size HB.out : w.heap.size ≤ g2); clear HB; have HB := HB2; clear HB2 hb hbox hg) | ((with_reducible refine gate_dst (N := 4) rfl ?_); refine box_event ?hg (N := 4) ?hd (cs := #[.int .i64 0, .int .i64 0, .int .i64 0, .int .i64 0, .int .i64 0, .int .i64 0, .int .i64 0, .int .i64 0, .int .i64 0, .int .i64 0, .int .i64 0, .int .i64 0, .int .i64 0, .int .i64 0, .int .i64 0, .int .i64 0, .int .i64 0, .int .i64 0, .int .i64 0, .int .i64 0, .int .i64 0, .int .i64 0, .int .i64 0, .int .i64 0, .int .i64 0, .int .i64 0, .int .i64 0]) (t := 80) ?hr ?_; (case hd => rfl); (case hg => rfl); (case hr => first | (go_simp; done) | (go_simp; rfl)); intro g4 hg wb4 hbox hb; have BK2b := Aside0.mk (blk_below BK2.out hb); have NE := Aside0.mk (by rw [hg]; exact Nat.ne_of_lt (blk_lt BK2.out) : g2 ≠ g4); have HB4 := Aside0.mk (below_step HB.out hb); have BK4 := Aside0.mk hbox; have GW4 := Aside0.mk (hg ▸ below_size HB.out : w.heap.size ≤ g4); clear HB BK2; have HB := HB4; have BK2 := BK2b; clear HB4 BK2b hb hbox hg) | ((with_reducible refine gate_store (t := 80) (p := 4) rfl ?_); refine fo_store (w := w) rfl 80 (.tmp 4) (.tmp 14) rfl rfl g4 #[.int .i64 17, .int .i64 3, .int .i64 4, .int .i64 97, .int .i64 5, .int .i64 5, .int .i64 193, .int .i64 5, .int .i64 6, .int .i64 257, .int .i64 3, .int .i64 8, .int .i64 7681, .int .i64 17, .int .i64 9, .int .i64 12289, .int .i64 11, .int .i64 12, .int .i64 998244353, .int .i64 3, .int .i64 23, .int .i64 469762049, .int .i64 3, .int .i64 26, .int .i64 1004535809, .int .i64 3, .int .i64 21] rfl rfl 80 #[.int .i64 0, .int .i64 0, .int .i64 0, .int .i64 0, .int .i64 0, .int .i64 0, .int .i64 0, .int .i64 0, .int .i64 0, .int .i64 0, .int .i64 0, .int .i64 0, .int .i64 0, .int .i64 0, .int .i64 0, .int .i64 0, .int .i64 0, .int .i64 0, .int .i64 0, .int .i64 0, .int .i64 0, .int .i64 0, .int .i64 0, .int .i64 0, .int .i64 0, .int .i64 0, .int .i64 0] BK4.out (by kernel_rfl) (by kernel_rfl) (by kernel_rfl) HB.out GW4.out ?_; intro w5 hk hb5 hoth; have HB5 := Aside0.mk hb5; have BK2b := Aside0.mk ((hoth g2 NE.out).trans BK2.out); clear HB BK2 hb5 hoth; have HB := HB5; have BK2 := BK2b; clear HB5 BK2b; have c0 : w5.cell? ⟨g4, 15, none⟩ = some (.int .i64 12289) := (blk_cell hk 15).trans rfl; have c1 : w5.cell? ⟨g4, 16, none⟩ = some (.int .i64 11) := (blk_cell hk 16).trans rfl; have c2 : w5.cell? ⟨g4, 17, none⟩ = some (.int .i64 12) := (blk_cell hk 17).trans rfl;  clear hk) | ((with_reducible refine gate_store (t := 54) (p := 2) rfl ?_); refine fo_store (w := w) rfl 54 (.tmp 2) (.tmp 24) rfl rfl g2 #[.int .i64 12289, .int .i64 11, .int .i64 12] rfl rfl 54 #[.int .i64 0, .int .i64 0, .int .i64 0] BK2.out (by kernel_rfl) (by kernel_rfl) (by kernel_rfl) HB.out GW2.out ?_; intro w6 hk hb5 hoth; have HB5 := Aside0.mk hb5; have BK2b := Aside0.mk hk; clear HB BK2 hb5 hoth hk; have HB := HB5; have BK2 := BK2b; clear HB5 BK2b))
  refine bodyPost_ret (results_ct rfl _ _ g2 54 #[.int .i64 12289, .int .i64 11, .int .i64 12] (0, 0) _ rfl BK2.out Try.underlying54 rfl (by kernel_rfl)) rfl ?_
  exact ⟨rfl, HB.out⟩

set_option maxHeartbeats 8000000 in
set_option maxRecDepth 100000 in
theorem fo_6 (w : World)  :
    Calls Try.prog 78 #[.int .i64 6] w fun e w' => e = .returned (.tuple #[.agg #[.int .i64 998244353, .int .i64 3, .int .i64 23], .bool true]) ∧ Below w.heap.size w w' := by
  have HB := Aside0.mk (Below.refl w.heap.size w)
  go_enter Try.func78, Try.ntmps78
  go_wp2_with (first | ((with_reducible refine gate_dst (N := 2) rfl ?_); refine box_event ?hg (N := 2) ?hd (cs := #[.int .i64 0, .int .i64 0, .int .i64 0]) (t := 54) ?hr ?_; (case hd => rfl); (case hg => rfl); (case hr => first | (go_simp; done) | (go_simp; rfl)); intro g2 hg wb2 hbox hb; have HB2 := Aside0.mk (below_step HB.out hb); have BK2 := Aside0.mk hbox; have GW2 := Aside0.mk (hg ▸ below_size HB.out : w.heap.size ≤ g2); clear HB; have HB := HB2; clear HB2 hb hbox hg) | ((with_reducible refine gate_dst (N := 4) rfl ?_); refine box_event ?hg (N := 4) ?hd (cs := #[.int .i64 0, .int .i64 0, .int .i64 0, .int .i64 0, .int .i64 0, .int .i64 0, .int .i64 0, .int .i64 0, .int .i64 0, .int .i64 0, .int .i64 0, .int .i64 0, .int .i64 0, .int .i64 0, .int .i64 0, .int .i64 0, .int .i64 0, .int .i64 0, .int .i64 0, .int .i64 0, .int .i64 0, .int .i64 0, .int .i64 0, .int .i64 0, .int .i64 0, .int .i64 0, .int .i64 0]) (t := 80) ?hr ?_; (case hd => rfl); (case hg => rfl); (case hr => first | (go_simp; done) | (go_simp; rfl)); intro g4 hg wb4 hbox hb; have BK2b := Aside0.mk (blk_below BK2.out hb); have NE := Aside0.mk (by rw [hg]; exact Nat.ne_of_lt (blk_lt BK2.out) : g2 ≠ g4); have HB4 := Aside0.mk (below_step HB.out hb); have BK4 := Aside0.mk hbox; have GW4 := Aside0.mk (hg ▸ below_size HB.out : w.heap.size ≤ g4); clear HB BK2; have HB := HB4; have BK2 := BK2b; clear HB4 BK2b hb hbox hg) | ((with_reducible refine gate_store (t := 80) (p := 4) rfl ?_); refine fo_store (w := w) rfl 80 (.tmp 4) (.tmp 14) rfl rfl g4 #[.int .i64 17, .int .i64 3, .int .i64 4, .int .i64 97, .int .i64 5, .int .i64 5, .int .i64 193, .int .i64 5, .int .i64 6, .int .i64 257, .int .i64 3, .int .i64 8, .int .i64 7681, .int .i64 17, .int .i64 9, .int .i64 12289, .int .i64 11, .int .i64 12, .int .i64 998244353, .int .i64 3, .int .i64 23, .int .i64 469762049, .int .i64 3, .int .i64 26, .int .i64 1004535809, .int .i64 3, .int .i64 21] rfl rfl 80 #[.int .i64 0, .int .i64 0, .int .i64 0, .int .i64 0, .int .i64 0, .int .i64 0, .int .i64 0, .int .i64 0, .int .i64 0, .int .i64 0, .int .i64 0, .int .i64 0, .int .i64 0, .int .i64 0, .int .i64 0, .int .i64 0, .int .i64 0, .int .i64 0, .int .i64 0, .int .i64 0, .int .i64 0, .int .i64 0, .int .i64 0, .int .i64 0, .int .i64 0, .int .i64 0, .int .i64 0] BK4.out (by kernel_rfl) (by kernel_rfl) (by kernel_rfl) HB.out GW4.out ?_; intro w5 hk hb5 hoth; have HB5 := Aside0.mk hb5; have BK2b := Aside0.mk ((hoth g2 NE.out).trans BK2.out); clear HB BK2 hb5 hoth; have HB := HB5; have BK2 := BK2b; clear HB5 BK2b; have c0 : w5.cell? ⟨g4, 18, none⟩ = some (.int .i64 998244353) := (blk_cell hk 18).trans rfl; have c1 : w5.cell? ⟨g4, 19, none⟩ = some (.int .i64 3) := (blk_cell hk 19).trans rfl; have c2 : w5.cell? ⟨g4, 20, none⟩ = some (.int .i64 23) := (blk_cell hk 20).trans rfl;  clear hk) | ((with_reducible refine gate_store (t := 54) (p := 2) rfl ?_); refine fo_store (w := w) rfl 54 (.tmp 2) (.tmp 24) rfl rfl g2 #[.int .i64 998244353, .int .i64 3, .int .i64 23] rfl rfl 54 #[.int .i64 0, .int .i64 0, .int .i64 0] BK2.out (by kernel_rfl) (by kernel_rfl) (by kernel_rfl) HB.out GW2.out ?_; intro w6 hk hb5 hoth; have HB5 := Aside0.mk hb5; have BK2b := Aside0.mk hk; clear HB BK2 hb5 hoth hk; have HB := HB5; have BK2 := BK2b; clear HB5 BK2b))
  refine bodyPost_ret (results_ct rfl _ _ g2 54 #[.int .i64 998244353, .int .i64 3, .int .i64 23] (0, 0) _ rfl BK2.out Try.underlying54 rfl (by kernel_rfl)) rfl ?_
  exact ⟨rfl, HB.out⟩

set_option maxHeartbeats 8000000 in
set_option maxRecDepth 100000 in
theorem fo_7 (w : World)  :
    Calls Try.prog 78 #[.int .i64 7] w fun e w' => e = .returned (.tuple #[.agg #[.int .i64 469762049, .int .i64 3, .int .i64 26], .bool true]) ∧ Below w.heap.size w w' := by
  have HB := Aside0.mk (Below.refl w.heap.size w)
  go_enter Try.func78, Try.ntmps78
  go_wp2_with (first | ((with_reducible refine gate_dst (N := 2) rfl ?_); refine box_event ?hg (N := 2) ?hd (cs := #[.int .i64 0, .int .i64 0, .int .i64 0]) (t := 54) ?hr ?_; (case hd => rfl); (case hg => rfl); (case hr => first | (go_simp; done) | (go_simp; rfl)); intro g2 hg wb2 hbox hb; have HB2 := Aside0.mk (below_step HB.out hb); have BK2 := Aside0.mk hbox; have GW2 := Aside0.mk (hg ▸ below_size HB.out : w.heap.size ≤ g2); clear HB; have HB := HB2; clear HB2 hb hbox hg) | ((with_reducible refine gate_dst (N := 4) rfl ?_); refine box_event ?hg (N := 4) ?hd (cs := #[.int .i64 0, .int .i64 0, .int .i64 0, .int .i64 0, .int .i64 0, .int .i64 0, .int .i64 0, .int .i64 0, .int .i64 0, .int .i64 0, .int .i64 0, .int .i64 0, .int .i64 0, .int .i64 0, .int .i64 0, .int .i64 0, .int .i64 0, .int .i64 0, .int .i64 0, .int .i64 0, .int .i64 0, .int .i64 0, .int .i64 0, .int .i64 0, .int .i64 0, .int .i64 0, .int .i64 0]) (t := 80) ?hr ?_; (case hd => rfl); (case hg => rfl); (case hr => first | (go_simp; done) | (go_simp; rfl)); intro g4 hg wb4 hbox hb; have BK2b := Aside0.mk (blk_below BK2.out hb); have NE := Aside0.mk (by rw [hg]; exact Nat.ne_of_lt (blk_lt BK2.out) : g2 ≠ g4); have HB4 := Aside0.mk (below_step HB.out hb); have BK4 := Aside0.mk hbox; have GW4 := Aside0.mk (hg ▸ below_size HB.out : w.heap.size ≤ g4); clear HB BK2; have HB := HB4; have BK2 := BK2b; clear HB4 BK2b hb hbox hg) | ((with_reducible refine gate_store (t := 80) (p := 4) rfl ?_); refine fo_store (w := w) rfl 80 (.tmp 4) (.tmp 14) rfl rfl g4 #[.int .i64 17, .int .i64 3, .int .i64 4, .int .i64 97, .int .i64 5, .int .i64 5, .int .i64 193, .int .i64 5, .int .i64 6, .int .i64 257, .int .i64 3, .int .i64 8, .int .i64 7681, .int .i64 17, .int .i64 9, .int .i64 12289, .int .i64 11, .int .i64 12, .int .i64 998244353, .int .i64 3, .int .i64 23, .int .i64 469762049, .int .i64 3, .int .i64 26, .int .i64 1004535809, .int .i64 3, .int .i64 21] rfl rfl 80 #[.int .i64 0, .int .i64 0, .int .i64 0, .int .i64 0, .int .i64 0, .int .i64 0, .int .i64 0, .int .i64 0, .int .i64 0, .int .i64 0, .int .i64 0, .int .i64 0, .int .i64 0, .int .i64 0, .int .i64 0, .int .i64 0, .int .i64 0, .int .i64 0, .int .i64 0, .int .i64 0, .int .i64 0, .int .i64 0, .int .i64 0, .int .i64 0, .int .i64 0, .int .i64 0, .int .i64 0] BK4.out (by kernel_rfl) (by kernel_rfl) (by kernel_rfl) HB.out GW4.out ?_; intro w5 hk hb5 hoth; have HB5 := Aside0.mk hb5; have BK2b := Aside0.mk ((hoth g2 NE.out).trans BK2.out); clear HB BK2 hb5 hoth; have HB := HB5; have BK2 := BK2b; clear HB5 BK2b; have c0 : w5.cell? ⟨g4, 21, none⟩ = some (.int .i64 469762049) := (blk_cell hk 21).trans rfl; have c1 : w5.cell? ⟨g4, 22, none⟩ = some (.int .i64 3) := (blk_cell hk 22).trans rfl; have c2 : w5.cell? ⟨g4, 23, none⟩ = some (.int .i64 26) := (blk_cell hk 23).trans rfl;  clear hk) | ((with_reducible refine gate_store (t := 54) (p := 2) rfl ?_); refine fo_store (w := w) rfl 54 (.tmp 2) (.tmp 24) rfl rfl g2 #[.int .i64 469762049, .int .i64 3, .int .i64 26] rfl rfl 54 #[.int .i64 0, .int .i64 0, .int .i64 0] BK2.out (by kernel_rfl) (by kernel_rfl) (by kernel_rfl) HB.out GW2.out ?_; intro w6 hk hb5 hoth; have HB5 := Aside0.mk hb5; have BK2b := Aside0.mk hk; clear HB BK2 hb5 hoth hk; have HB := HB5; have BK2 := BK2b; clear HB5 BK2b))
  refine bodyPost_ret (results_ct rfl _ _ g2 54 #[.int .i64 469762049, .int .i64 3, .int .i64 26] (0, 0) _ rfl BK2.out Try.underlying54 rfl (by kernel_rfl)) rfl ?_
  exact ⟨rfl, HB.out⟩

set_option maxHeartbeats 8000000 in
set_option maxRecDepth 100000 in
theorem fo_8 (w : World)  :
    Calls Try.prog 78 #[.int .i64 8] w fun e w' => e = .returned (.tuple #[.agg #[.int .i64 1004535809, .int .i64 3, .int .i64 21], .bool true]) ∧ Below w.heap.size w w' := by
  have HB := Aside0.mk (Below.refl w.heap.size w)
  go_enter Try.func78, Try.ntmps78
  go_wp2_with (first | ((with_reducible refine gate_dst (N := 2) rfl ?_); refine box_event ?hg (N := 2) ?hd (cs := #[.int .i64 0, .int .i64 0, .int .i64 0]) (t := 54) ?hr ?_; (case hd => rfl); (case hg => rfl); (case hr => first | (go_simp; done) | (go_simp; rfl)); intro g2 hg wb2 hbox hb; have HB2 := Aside0.mk (below_step HB.out hb); have BK2 := Aside0.mk hbox; have GW2 := Aside0.mk (hg ▸ below_size HB.out : w.heap.size ≤ g2); clear HB; have HB := HB2; clear HB2 hb hbox hg) | ((with_reducible refine gate_dst (N := 4) rfl ?_); refine box_event ?hg (N := 4) ?hd (cs := #[.int .i64 0, .int .i64 0, .int .i64 0, .int .i64 0, .int .i64 0, .int .i64 0, .int .i64 0, .int .i64 0, .int .i64 0, .int .i64 0, .int .i64 0, .int .i64 0, .int .i64 0, .int .i64 0, .int .i64 0, .int .i64 0, .int .i64 0, .int .i64 0, .int .i64 0, .int .i64 0, .int .i64 0, .int .i64 0, .int .i64 0, .int .i64 0, .int .i64 0, .int .i64 0, .int .i64 0]) (t := 80) ?hr ?_; (case hd => rfl); (case hg => rfl); (case hr => first | (go_simp; done) | (go_simp; rfl)); intro g4 hg wb4 hbox hb; have BK2b := Aside0.mk (blk_below BK2.out hb); have NE := Aside0.mk (by rw [hg]; exact Nat.ne_of_lt (blk_lt BK2.out) : g2 ≠ g4); have HB4 := Aside0.mk (below_step HB.out hb); have BK4 := Aside0.mk hbox; have GW4 := Aside0.mk (hg ▸ below_size HB.out : w.heap.size ≤ g4); clear HB BK2; have HB := HB4; have BK2 := BK2b; clear HB4 BK2b hb hbox hg) | ((with_reducible refine gate_store (t := 80) (p := 4) rfl ?_); refine fo_store (w := w) rfl 80 (.tmp 4) (.tmp 14) rfl rfl g4 #[.int .i64 17, .int .i64 3, .int .i64 4, .int .i64 97, .int .i64 5, .int .i64 5, .int .i64 193, .int .i64 5, .int .i64 6, .int .i64 257, .int .i64 3, .int .i64 8, .int .i64 7681, .int .i64 17, .int .i64 9, .int .i64 12289, .int .i64 11, .int .i64 12, .int .i64 998244353, .int .i64 3, .int .i64 23, .int .i64 469762049, .int .i64 3, .int .i64 26, .int .i64 1004535809, .int .i64 3, .int .i64 21] rfl rfl 80 #[.int .i64 0, .int .i64 0, .int .i64 0, .int .i64 0, .int .i64 0, .int .i64 0, .int .i64 0, .int .i64 0, .int .i64 0, .int .i64 0, .int .i64 0, .int .i64 0, .int .i64 0, .int .i64 0, .int .i64 0, .int .i64 0, .int .i64 0, .int .i64 0, .int .i64 0, .int .i64 0, .int .i64 0, .int .i64 0, .int .i64 0, .int .i64 0, .int .i64 0, .int .i64 0, .int .i64 0] BK4.out (by kernel_rfl) (by kernel_rfl) (by kernel_rfl) HB.out GW4.out ?_; intro w5 hk hb5 hoth; have HB5 := Aside0.mk hb5; have BK2b := Aside0.mk ((hoth g2 NE.out).trans BK2.out); clear HB BK2 hb5 hoth; have HB := HB5; have BK2 := BK2b; clear HB5 BK2b; have c0 : w5.cell? ⟨g4, 24, none⟩ = some (.int .i64 1004535809) := (blk_cell hk 24).trans rfl; have c1 : w5.cell? ⟨g4, 25, none⟩ = some (.int .i64 3) := (blk_cell hk 25).trans rfl; have c2 : w5.cell? ⟨g4, 26, none⟩ = some (.int .i64 21) := (blk_cell hk 26).trans rfl;  clear hk) | ((with_reducible refine gate_store (t := 54) (p := 2) rfl ?_); refine fo_store (w := w) rfl 54 (.tmp 2) (.tmp 24) rfl rfl g2 #[.int .i64 1004535809, .int .i64 3, .int .i64 21] rfl rfl 54 #[.int .i64 0, .int .i64 0, .int .i64 0] BK2.out (by kernel_rfl) (by kernel_rfl) (by kernel_rfl) HB.out GW2.out ?_; intro w6 hk hb5 hoth; have HB5 := Aside0.mk hb5; have BK2b := Aside0.mk hk; clear HB BK2 hb5 hoth hk; have HB := HB5; have BK2 := BK2b; clear HB5 BK2b))
  refine bodyPost_ret (results_ct rfl _ _ g2 54 #[.int .i64 1004535809, .int .i64 3, .int .i64 21] (0, 0) _ rfl BK2.out Try.underlying54 rfl (by kernel_rfl)) rfl ?_
  exact ⟨rfl, HB.out⟩

set_option maxHeartbeats 8000000 in
set_option maxRecDepth 100000 in
theorem fo_neg (w : World) (a0 : Int) (h : a0 < 0) :
    Calls Try.prog 78 #[.int .i64 a0] w fun e w' => e = .returned (.tuple #[.agg #[.int .i64 0, .int .i64 0, .int .i64 0], .bool false]) ∧ Below w.heap.size w w' := by
  have HB := Aside0.mk (Below.refl w.heap.size w)
  have c2b0 : decide (a0 < 0) = true := decide_eq_true h
  go_enter Try.func78, Try.ntmps78
  go_wp2_with (first | ((with_reducible refine gate_dst (N := 2) rfl ?_); refine box_event ?hg (N := 2) ?hd (cs := #[.int .i64 0, .int .i64 0, .int .i64 0]) (t := 54) ?hr ?_; (case hd => rfl); (case hg => rfl); (case hr => first | (go_simp; done) | (go_simp; rfl)); intro g2 hg wb2 hbox hb; have HB2 := Aside0.mk (below_step HB.out hb); have BK2 := Aside0.mk hbox; have GW2 := Aside0.mk (hg ▸ below_size HB.out : w.heap.size ≤ g2); clear HB; have HB := HB2; clear HB2 hb hbox hg) | ((with_reducible refine gate_dst (N := 4) rfl ?_); refine box_event ?hg (N := 4) ?hd (cs := #[.int .i64 0, .int .i64 0, .int .i64 0, .int .i64 0, .int .i64 0, .int .i64 0, .int .i64 0, .int .i64 0, .int .i64 0, .int .i64 0, .int .i64 0, .int .i64 0, .int .i64 0, .int .i64 0, .int .i64 0, .int .i64 0, .int .i64 0, .int .i64 0, .int .i64 0, .int .i64 0, .int .i64 0, .int .i64 0, .int .i64 0, .int .i64 0, .int .i64 0, .int .i64 0, .int .i64 0]) (t := 80) ?hr ?_; (case hd => rfl); (case hg => rfl); (case hr => first | (go_simp; done) | (go_simp; rfl)); intro g4 hg wb4 hbox hb; have BK2b := Aside0.mk (blk_below BK2.out hb); have NE := Aside0.mk (by rw [hg]; exact Nat.ne_of_lt (blk_lt BK2.out) : g2 ≠ g4); have HB4 := Aside0.mk (below_step HB.out hb); have BK4 := Aside0.mk hbox; have GW4 := Aside0.mk (hg ▸ below_size HB.out : w.heap.size ≤ g4); clear HB BK2; have HB := HB4; have BK2 := BK2b; clear HB4 BK2b hb hbox hg) | ((with_reducible refine gate_store (t := 80) (p := 4) rfl ?_); refine fo_store (w := w) rfl 80 (.tmp 4) (.tmp 14) rfl rfl g4 #[.int .i64 17, .int .i64 3, .int .i64 4, .int .i64 97, .int .i64 5, .int .i64 5, .int .i64 193, .int .i64 5, .int .i64 6, .int .i64 257, .int .i64 3, .int .i64 8, .int .i64 7681, .int .i64 17, .int .i64 9, .int .i64 12289, .int .i64 11, .int .i64 12, .int .i64 998244353, .int .i64 3, .int .i64 23, .int .i64 469762049, .int .i64 3, .int .i64 26, .int .i64 1004535809, .int .i64 3, .int .i64 21] rfl rfl 80 #[.int .i64 0, .int .i64 0, .int .i64 0, .int .i64 0, .int .i64 0, .int .i64 0, .int .i64 0, .int .i64 0, .int .i64 0, .int .i64 0, .int .i64 0, .int .i64 0, .int .i64 0, .int .i64 0, .int .i64 0, .int .i64 0, .int .i64 0, .int .i64 0, .int .i64 0, .int .i64 0, .int .i64 0, .int .i64 0, .int .i64 0, .int .i64 0, .int .i64 0, .int .i64 0, .int .i64 0] BK4.out (by kernel_rfl) (by kernel_rfl) (by kernel_rfl) HB.out GW4.out ?_; intro w5 hk hb5 hoth; have HB5 := Aside0.mk hb5; have BK2b := Aside0.mk ((hoth g2 NE.out).trans BK2.out); clear HB BK2 hb5 hoth; have HB := HB5; have BK2 := BK2b; clear HB5 BK2b;  clear hk) | ((with_reducible refine gate_store (t := 54) (p := 2) rfl ?_); refine fo_store (w := w) rfl 54 (.tmp 2) (.tmp 21) rfl rfl g2 #[.int .i64 0, .int .i64 0, .int .i64 0] rfl rfl 54 #[.int .i64 0, .int .i64 0, .int .i64 0] BK2.out (by kernel_rfl) (by kernel_rfl) (by kernel_rfl) HB.out GW2.out ?_; intro w6 hk hb5 hoth; have HB5 := Aside0.mk hb5; have BK2b := Aside0.mk hk; clear HB BK2 hb5 hoth hk; have HB := HB5; have BK2 := BK2b; clear HB5 BK2b))
  refine bodyPost_ret (results_ct rfl _ _ g2 54 #[.int .i64 0, .int .i64 0, .int .i64 0] (0, 0) _ rfl BK2.out Try.underlying54 rfl (by kernel_rfl)) rfl ?_
  exact ⟨rfl, HB.out⟩

set_option maxHeartbeats 8000000 in
set_option maxRecDepth 100000 in
theorem fo_big (w : World) (a0 : Int) (h : a0 ≥ 9) :
    Calls Try.prog 78 #[.int .i64 a0] w fun e w' => e = .returned (.tuple #[.agg #[.int .i64 0, .int .i64 0, .int .i64 0], .bool false]) ∧ Below w.heap.size w w' := by
  have HB := Aside0.mk (Below.refl w.heap.size w)
  have c2b0 : decide (a0 < 0) = false := decide_eq_false (by omega)
  have c5b0 : decide (9 ≤ a0) = true := decide_eq_true h
  go_enter Try.func78, Try.ntmps78
  go_wp2_with (first | ((with_reducible refine gate_dst (N := 2) rfl ?_); refine box_event ?hg (N := 2) ?hd (cs := #[.int .i64 0, .int .i64 0, .int .i64 0]) (t := 54) ?hr ?_; (case hd => rfl); (case hg => rfl); (case hr => first | (go_simp; done) | (go_simp; rfl)); intro g2 hg wb2 hbox hb; have HB2 := Aside0.mk (below_step HB.out hb); have BK2 := Aside0.mk hbox; have GW2 := Aside0.mk (hg ▸ below_size HB.out : w.heap.size ≤ g2); clear HB; have HB := HB2; clear HB2 hb hbox hg) | ((with_reducible refine gate_dst (N := 4) rfl ?_); refine box_event ?hg (N := 4) ?hd (cs := #[.int .i64 0, .int .i64 0, .int .i64 0, .int .i64 0, .int .i64 0, .int .i64 0, .int .i64 0, .int .i64 0, .int .i64 0, .int .i64 0, .int .i64 0, .int .i64 0, .int .i64 0, .int .i64 0, .int .i64 0, .int .i64 0, .int .i64 0, .int .i64 0, .int .i64 0, .int .i64 0, .int .i64 0, .int .i64 0, .int .i64 0, .int .i64 0, .int .i64 0, .int .i64 0, .int .i64 0]) (t := 80) ?hr ?_; (case hd => rfl); (case hg => rfl); (case hr => first | (go_simp; done) | (go_simp; rfl)); intro g4 hg wb4 hbox hb; have BK2b := Aside0.mk (blk_below BK2.out hb); have NE := Aside0.mk (by rw [hg]; exact Nat.ne_of_lt (blk_lt BK2.out) : g2 ≠ g4); have HB4 := Aside0.mk (below_step HB.out hb); have BK4 := Aside0.mk hbox; have GW4 := Aside0.mk (hg ▸ below_size HB.out : w.heap.size ≤ g4); clear HB BK2; have HB := HB4; have BK2 := BK2b; clear HB4 BK2b hb hbox hg) | ((with_reducible refine gate_store (t := 80) (p := 4) rfl ?_); refine fo_store (w := w) rfl 80 (.tmp 4) (.tmp 14) rfl rfl g4 #[.int .i64 17, .int .i64 3, .int .i64 4, .int .i64 97, .int .i64 5, .int .i64 5, .int .i64 193, .int .i64 5, .int .i64 6, .int .i64 257, .int .i64 3, .int .i64 8, .int .i64 7681, .int .i64 17, .int .i64 9, .int .i64 12289, .int .i64 11, .int .i64 12, .int .i64 998244353, .int .i64 3, .int .i64 23, .int .i64 469762049, .int .i64 3, .int .i64 26, .int .i64 1004535809, .int .i64 3, .int .i64 21] rfl rfl 80 #[.int .i64 0, .int .i64 0, .int .i64 0, .int .i64 0, .int .i64 0, .int .i64 0, .int .i64 0, .int .i64 0, .int .i64 0, .int .i64 0, .int .i64 0, .int .i64 0, .int .i64 0, .int .i64 0, .int .i64 0, .int .i64 0, .int .i64 0, .int .i64 0, .int .i64 0, .int .i64 0, .int .i64 0, .int .i64 0, .int .i64 0, .int .i64 0, .int .i64 0, .int .i64 0, .int .i64 0] BK4.out (by kernel_rfl) (by kernel_rfl) (by kernel_rfl) HB.out GW4.out ?_; intro w5 hk hb5 hoth; have HB5 := Aside0.mk hb5; have BK2b := Aside0.mk ((hoth g2 NE.out).trans BK2.out); clear HB BK2 hb5 hoth; have HB := HB5; have BK2 := BK2b; clear HB5 BK2b;  clear hk) | ((with_reducible refine gate_store (t := 54) (p := 2) rfl ?_); refine fo_store (w := w) rfl 54 (.tmp 2) (.tmp 21) rfl rfl g2 #[.int .i64 0, .int .i64 0, .int .i64 0] rfl rfl 54 #[.int .i64 0, .int .i64 0, .int .i64 0] BK2.out (by kernel_rfl) (by kernel_rfl) (by kernel_rfl) HB.out GW2.out ?_; intro w6 hk hb5 hoth; have HB5 := Aside0.mk hb5; have BK2b := Aside0.mk hk; clear HB BK2 hb5 hoth hk; have HB := HB5; have BK2 := BK2b; clear HB5 BK2b))
  refine bodyPost_ret (results_ct rfl _ _ g2 54 #[.int .i64 0, .int .i64 0, .int .i64 0] (0, 0) _ rfl BK2.out Try.underlying54 rfl (by kernel_rfl)) rfl ?_
  exact ⟨rfl, HB.out⟩

theorem impl_fieldOf.calls (a0 : Int) (r1 : Int) (r2 : Int) (r3 : Int) (r4 : Bool) (w : World) (h : impl_fieldOf.f a0 = some (r1, r2, r3, r4)) :
    Calls Try.prog 78 #[.int .i64 a0] w fun e w' => e = .returned (.tuple #[.agg #[.int .i64 r1, .int .i64 r2, .int .i64 r3], .bool r4]) ∧ Below w.heap.size w w' := by
  unfold impl_fieldOf.f at h
  by_cases c : a0 < 0
  · rw [if_pos c] at h
    simp only [Option.some.injEq, Prod.mk.injEq] at h
    obtain ⟨rfl, rfl, rfl, rfl⟩ := h
    exact fo_neg w a0 c
  · rw [if_neg c] at h
    have n_fo_neg := c
    clear c
    by_cases c : a0 ≥ 9
    · rw [if_pos c] at h
      simp only [Option.some.injEq, Prod.mk.injEq] at h
      obtain ⟨rfl, rfl, rfl, rfl⟩ := h
      exact fo_big w a0 c
    · rw [if_neg c] at h
      have n_fo_big := c
      clear c
      by_cases c : a0 = 0
      · rw [if_pos c] at h
        simp only [Option.some.injEq, Prod.mk.injEq] at h
        obtain ⟨rfl, rfl, rfl, rfl⟩ := h
        subst c
        exact fo_0 w
      · rw [if_neg c] at h
        have n_fo_0 := c
        clear c
        by_cases c : a0 = 1
        · rw [if_pos c] at h
          simp only [Option.some.injEq, Prod.mk.injEq] at h
          obtain ⟨rfl, rfl, rfl, rfl⟩ := h
          subst c
          exact fo_1 w
        · rw [if_neg c] at h
          have n_fo_1 := c
          clear c
          by_cases c : a0 = 2
          · rw [if_pos c] at h
            simp only [Option.some.injEq, Prod.mk.injEq] at h
            obtain ⟨rfl, rfl, rfl, rfl⟩ := h
            subst c
            exact fo_2 w
          · rw [if_neg c] at h
            have n_fo_2 := c
            clear c
            by_cases c : a0 = 3
            · rw [if_pos c] at h
              simp only [Option.some.injEq, Prod.mk.injEq] at h
              obtain ⟨rfl, rfl, rfl, rfl⟩ := h
              subst c
              exact fo_3 w
            · rw [if_neg c] at h
              have n_fo_3 := c
              clear c
              by_cases c : a0 = 4
              · rw [if_pos c] at h
                simp only [Option.some.injEq, Prod.mk.injEq] at h
                obtain ⟨rfl, rfl, rfl, rfl⟩ := h
                subst c
                exact fo_4 w
              · rw [if_neg c] at h
                have n_fo_4 := c
                clear c
                by_cases c : a0 = 5
                · rw [if_pos c] at h
                  simp only [Option.some.injEq, Prod.mk.injEq] at h
                  obtain ⟨rfl, rfl, rfl, rfl⟩ := h
                  subst c
                  exact fo_5 w
                · rw [if_neg c] at h
                  have n_fo_5 := c
                  clear c
                  by_cases c : a0 = 6
                  · rw [if_pos c] at h
                    simp only [Option.some.injEq, Prod.mk.injEq] at h
                    obtain ⟨rfl, rfl, rfl, rfl⟩ := h
                    subst c
                    exact fo_6 w
                  · rw [if_neg c] at h
                    have n_fo_6 := c
                    clear c
                    by_cases c : a0 = 7
                    · rw [if_pos c] at h
                      simp only [Option.some.injEq, Prod.mk.injEq] at h
                      obtain ⟨rfl, rfl, rfl, rfl⟩ := h
                      subst c
                      exact fo_7 w
                    · rw [if_neg c] at h
                      have n_fo_7 := c
                      clear c
                      simp only [Option.some.injEq, Prod.mk.injEq] at h
                      obtain ⟨rfl, rfl, rfl, rfl⟩ := h
                      obtain rfl : a0 = 8 := by omega
                      exact fo_8 w

end Go.Proofs.Ytgjogfohknjpmaa.PFnExactDigitParts
