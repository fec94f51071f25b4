/- The machine side of this law: each Go function that it reaches as a Lean function, and the proof that the call comes to just its answer; printed by a program of this session out of the kit's print, with a contract of impl.fieldOf that is this session's own. No condition. -/
import Derived.Test.YtcmhifpbpdbfhaaPFnExactJoinedx0
namespace Go.Proofs.Ytcmhifpbpdbfhaa.PFnExactJoined
open Go.RowKit Go.Proofs.YtcmhifpbpdbfhaaW.PrintWords Go.Proofs.YtcmhifpbpdbfhaaW.PrintLast Go.Proofs.YtcmhifpbpdbfhaaW.PrintMore
attribute [local go_sem] max2_int min2_int max_two min_two max_three min_three max_four min_four   -- for this text's walks alone
set_option linter.unusedVariables false
set_option linter.unusedSimpArgs false

/-! ### spec_Modulus: function 45 -/
def spec_Modulus.f (a0 : Int) : Option (Int) := if a0 = 0 then (some 17) else (if a0 = 1 then (some 97) else (if a0 = 2 then (some 193) else (if a0 = 3 then (some 257) else (if a0 = 4 then (some 7681) else (if a0 = 5 then (some 12289) else (if a0 = 6 then (some 998244353) else (if a0 = 7 then (some 469762049) else (if a0 = 8 then (some 1004535809) else (some 0)))))))))
set_option maxHeartbeats 8000000 in
set_option maxRecDepth 100000 in
theorem spec_Modulus.calls (a0 : Int) (r : Int) (w : World) (h : spec_Modulus.f a0 = some r) :
    Calls Try.prog 45 #[.int .i64 a0] w fun e w' => e = .returned (.int .i64 r) ∧ Drawn0 w w' := by
  have H : (if a0 = 0 then (some 17) else (if a0 = 1 then (some 97) else (if a0 = 2 then (some 193) else (if a0 = 3 then (some 257) else (if a0 = 4 then (some 7681) else (if a0 = 5 then (some 12289) else (if a0 = 6 then (some 998244353) else (if a0 = 7 then (some 469762049) else (if a0 = 8 then (some 1004535809) else (some 0)))))))))) = some r := h
  clear h
  by_cases c2 : a0 = 0
  · rw [if_pos c2] at H
    have c2b0 : (a0 == 0) = true := beq_iff_eq.mpr c2
    have c2b1 : (a0 != 0) = false := bne_eq_false_iff_eq.mpr c2
    clear c2
    obtain rfl := Option.some.inj H
    go_enter Try.func45, Try.ntmps45
    go_wp2
    go_ret
    exact ⟨by first | rfl | (simp; done) | (simp [*]; done), by repeat (first | exact Drawn0.refl _ | apply Drawn0.step)⟩
  · rw [if_neg c2] at H
    have c2b0 : (a0 == 0) = false := beq_eq_false_iff_ne.mpr c2
    have c2b1 : (a0 != 0) = true := bne_iff_ne.mpr c2
    by_cases c3 : a0 = 1
    · rw [if_pos c3] at H
      have c3b0 : (a0 == 1) = true := beq_iff_eq.mpr c3
      have c3b1 : (a0 != 1) = false := bne_eq_false_iff_eq.mpr c3
      clear c3
      obtain rfl := Option.some.inj H
      go_enter Try.func45, Try.ntmps45
      go_wp2
      go_ret
      exact ⟨by first | rfl | (simp; done) | (simp [*]; done), by repeat (first | exact Drawn0.refl _ | apply Drawn0.step)⟩
    · rw [if_neg c3] at H
      have c3b0 : (a0 == 1) = false := beq_eq_false_iff_ne.mpr c3
      have c3b1 : (a0 != 1) = true := bne_iff_ne.mpr c3
      by_cases c4 : a0 = 2
      · rw [if_pos c4] at H
        have c4b0 : (a0 == 2) = true := beq_iff_eq.mpr c4
        have c4b1 : (a0 != 2) = false := bne_eq_false_iff_eq.mpr c4
        clear c4
        obtain rfl := Option.some.inj H
        go_enter Try.func45, Try.ntmps45
        go_wp2
        go_ret
        exact ⟨by first | rfl | (simp; done) | (simp [*]; done), by repeat (first | exact Drawn0.refl _ | apply Drawn0.step)⟩
      · rw [if_neg c4] at H
        have c4b0 : (a0 == 2) = false := beq_eq_false_iff_ne.mpr c4
        have c4b1 : (a0 != 2) = true := bne_iff_ne.mpr c4
        by_cases c5 : a0 = 3
        · rw [if_pos c5] at H
          have c5b0 : (a0 == 3) = true := beq_iff_eq.mpr c5
          have c5b1 : (a0 != 3) = false := bne_eq_false_iff_eq.mpr c5
          clear c5
          obtain rfl := Option.some.inj H
          go_enter Try.func45, Try.ntmps45
          go_wp2
          go_ret
          exact ⟨by first | rfl | (simp; done) | (simp [*]; done), by repeat (first | exact Drawn0.refl _ | apply Drawn0.step)⟩
        · rw [if_neg c5] at H
          have c5b0 : (a0 == 3) = false := beq_eq_false_iff_ne.mpr c5
          have c5b1 : (a0 != 3) = true := bne_iff_ne.mpr c5
          by_cases c6 : a0 = 4
          · rw [if_pos c6] at H
            have c6b0 : (a0 == 4) = true := beq_iff_eq.mpr c6
            have c6b1 : (a0 != 4) = false := bne_eq_false_iff_eq.mpr c6
            clear c6
            obtain rfl := Option.some.inj H
            go_enter Try.func45, Try.ntmps45
            go_wp2
            go_ret
            exact ⟨by first | rfl | (simp; done) | (simp [*]; done), by repeat (first | exact Drawn0.refl _ | apply Drawn0.step)⟩
          · rw [if_neg c6] at H
            have c6b0 : (a0 == 4) = false := beq_eq_false_iff_ne.mpr c6
            have c6b1 : (a0 != 4) = true := bne_iff_ne.mpr c6
            by_cases c7 : a0 = 5
            · rw [if_pos c7] at H
              have c7b0 : (a0 == 5) = true := beq_iff_eq.mpr c7
              have c7b1 : (a0 != 5) = false := bne_eq_false_iff_eq.mpr c7
              clear c7
              obtain rfl := Option.some.inj H
              go_enter Try.func45, Try.ntmps45
              go_wp2
              go_ret
              exact ⟨by first | rfl | (simp; done) | (simp [*]; done), by repeat (first | exact Drawn0.refl _ | apply Drawn0.step)⟩
            · rw [if_neg c7] at H
              have c7b0 : (a0 == 5) = false := beq_eq_false_iff_ne.mpr c7
              have c7b1 : (a0 != 5) = true := bne_iff_ne.mpr c7
              by_cases c8 : a0 = 6
              · rw [if_pos c8] at H
                have c8b0 : (a0 == 6) = true := beq_iff_eq.mpr c8
                have c8b1 : (a0 != 6) = false := bne_eq_false_iff_eq.mpr c8
                clear c8
                obtain rfl := Option.some.inj H
                go_enter Try.func45, Try.ntmps45
                go_wp2
                go_ret
                exact ⟨by first | rfl | (simp; done) | (simp [*]; done), by repeat (first | exact Drawn0.refl _ | apply Drawn0.step)⟩
              · rw [if_neg c8] at H
                have c8b0 : (a0 == 6) = false := beq_eq_false_iff_ne.mpr c8
                have c8b1 : (a0 != 6) = true := bne_iff_ne.mpr c8
                by_cases c9 : a0 = 7
                · rw [if_pos c9] at H
                  have c9b0 : (a0 == 7) = true := beq_iff_eq.mpr c9
                  have c9b1 : (a0 != 7) = false := bne_eq_false_iff_eq.mpr c9
                  clear c9
                  obtain rfl := Option.some.inj H
                  go_enter Try.func45, Try.ntmps45
                  go_wp2
                  go_ret
                  exact ⟨by first | rfl | (simp; done) | (simp [*]; done), by repeat (first | exact Drawn0.refl _ | apply Drawn0.step)⟩
                · rw [if_neg c9] at H
                  have c9b0 : (a0 == 7) = false := beq_eq_false_iff_ne.mpr c9
                  have c9b1 : (a0 != 7) = true := bne_iff_ne.mpr c9
                  by_cases c10 : a0 = 8
                  · rw [if_pos c10] at H
                    have c10b0 : (a0 == 8) = true := beq_iff_eq.mpr c10
                    have c10b1 : (a0 != 8) = false := bne_eq_false_iff_eq.mpr c10
                    clear c10
                    obtain rfl := Option.some.inj H
                    go_enter Try.func45, Try.ntmps45
                    go_wp2
                    go_ret
                    exact ⟨by first | rfl | (simp; done) | (simp [*]; done), by repeat (first | exact Drawn0.refl _ | apply Drawn0.step)⟩
                  · rw [if_neg c10] at H
                    have c10b0 : (a0 == 8) = false := beq_eq_false_iff_ne.mpr c10
                    have c10b1 : (a0 != 8) = true := bne_iff_ne.mpr c10
                    obtain rfl := Option.some.inj H
                    go_enter Try.func45, Try.ntmps45
                    go_wp2
                    go_ret
                    exact ⟨by first | rfl | (simp; done) | (simp [*]; done), by repeat (first | exact Drawn0.refl _ | apply Drawn0.step)⟩

/-! ### spec_l01In: function 48 -/
def spec_l01In.f (a0 : Int) (a1 : Int) (a2 : Int) : Option (Bool) := if a1 ≤ a0 then (some (decide (a0 ≤ a2))) else (some false)
set_option maxHeartbeats 8000000 in
set_option maxRecDepth 100000 in
theorem spec_l01In.calls (a0 : Int) (a1 : Int) (a2 : Int) (r : Bool) (w : World) (h : spec_l01In.f a0 a1 a2 = some r) :
    Calls Try.prog 48 #[.int .i64 a0, .int .i64 a1, .int .i64 a2] w fun e w' => e = .returned (.bool r) ∧ Drawn0 w w' := by
  have H : (if a1 ≤ a0 then (some (decide (a0 ≤ a2))) else (some false)) = some r := h
  clear h
  by_cases c4 : a1 ≤ a0
  · rw [if_pos c4] at H
    have c4b0 : decide (a1 ≤ a0) = true := decide_eq_true c4
    clear c4
    obtain rfl := Option.some.inj H
    go_enter Try.func48, Try.ntmps48
    go_wp2
    go_ret
    exact ⟨by first | rfl | (simp; done) | (simp [*]; done), by repeat (first | exact Drawn0.refl _ | apply Drawn0.step)⟩
  · rw [if_neg c4] at H
    have c4b0 : decide (a1 ≤ a0) = false := decide_eq_false c4
    clear c4
    obtain rfl := Option.some.inj H
    go_enter Try.func48, Try.ntmps48
    go_wp2
    go_ret
    exact ⟨by first | rfl | (simp; done) | (simp [*]; done), by repeat (first | exact Drawn0.refl _ | apply Drawn0.step)⟩

/-! ### spec_Reduce: function 50 -/
def spec_Reduce.f (a0 : Int) (a1 : Int) : Option (Int) := (spec_Modulus.f a0).bind fun t101 => (if t101 = 0 then (some (-1)) else (if (Int.tmod a1 t101) < 0 then (some (wrap64 ((Int.tmod a1 t101) + t101))) else (some (Int.tmod a1 t101))))
set_option maxHeartbeats 8000000 in
set_option maxRecDepth 100000 in
theorem spec_Reduce.calls (a0 : Int) (a1 : Int) (r : Int) (w : World) (h : spec_Reduce.f a0 a1 = some r) :
    Calls Try.prog 50 #[.int .i64 a0, .int .i64 a1] w fun e w' => e = .returned (.int .i64 r) ∧ Drawn0 w w' := by
  have H : ((spec_Modulus.f a0).bind fun t101 => (if t101 = 0 then (some (-1)) else (if (Int.tmod a1 t101) < 0 then (some (wrap64 ((Int.tmod a1 t101) + t101))) else (some (Int.tmod a1 t101))))) = some r := h
  clear h
  replace H := Option.bind_eq_some_iff.mp H
  obtain ⟨t101, A30, H⟩ := H
  replace H : (if t101 = 0 then (some (-1)) else (if (Int.tmod a1 t101) < 0 then (some (wrap64 ((Int.tmod a1 t101) + t101))) else (some (Int.tmod a1 t101)))) = some r := H
  have A3 := Aside0.mk A30
  clear A30
  by_cases c4 : t101 = 0
  · rw [if_pos c4] at H
    have c4b0 : (t101 == 0) = true := beq_iff_eq.mpr c4
    have c4b1 : (t101 != 0) = false := bne_eq_false_iff_eq.mpr c4
    clear c4
    obtain rfl := Option.some.inj H
    go_enter Try.func50, Try.ntmps50
    go_wp2_with (first | ((with_reducible refine gate_callee (f := 45) rfl ?_); refine goesL_ (some 8) rfl rfl Try.func45 (by kernel_rfl) rfl #[.int .i64 a0] rfl (by (try simp only [List.map_toArray, List.map_cons, List.map_nil]); first | done | rfl | (simp only [List.length_drop, List.length_take]; rfl)) ?_; (with_reducible refine (spec_Modulus.calls a0 t101 _ A3.out).mono ?_); rintro e w' ⟨rfl, ⟨nd, rfl⟩⟩; refine ⟨_, rfl, ?_⟩))
    go_ret
    exact ⟨by first | rfl | (simp; done) | (simp [*]; done), by repeat (first | exact Drawn0.refl _ | apply Drawn0.step)⟩
  · rw [if_neg c4] at H
    have c4b0 : (t101 == 0) = false := beq_eq_false_iff_ne.mpr c4
    have c4b1 : (t101 != 0) = true := bne_iff_ne.mpr c4
    by_cases c5 : (Int.tmod a1 t101) < 0
    · rw [if_pos c5] at H
      have c5b0 : decide ((Int.tmod a1 t101) < 0) = true := decide_eq_true c5
      clear c5
      obtain rfl := Option.some.inj H
      go_enter Try.func50, Try.ntmps50
      go_wp2_with (first | ((with_reducible refine gate_callee (f := 45) rfl ?_); refine goesL_ (some 8) rfl rfl Try.func45 (by kernel_rfl) rfl #[.int .i64 a0] rfl (by (try simp only [List.map_toArray, List.map_cons, List.map_nil]); first | done | rfl | (simp only [List.length_drop, List.length_take]; rfl)) ?_; (with_reducible refine (spec_Modulus.calls a0 t101 _ A3.out).mono ?_); rintro e w' ⟨rfl, ⟨nd, rfl⟩⟩; refine ⟨_, rfl, ?_⟩))
      go_ret
      exact ⟨by first | rfl | (simp; done) | (simp [*]; done), by repeat (first | exact Drawn0.refl _ | apply Drawn0.step)⟩
    · rw [if_neg c5] at H
      have c5b0 : decide ((Int.tmod a1 t101) < 0) = false := decide_eq_false c5
      clear c5
      obtain rfl := Option.some.inj H
      go_enter Try.func50, Try.ntmps50
      go_wp2_with (first | ((with_reducible refine gate_callee (f := 45) rfl ?_); refine goesL_ (some 8) rfl rfl Try.func45 (by kernel_rfl) rfl #[.int .i64 a0] rfl (by (try simp only [List.map_toArray, List.map_cons, List.map_nil]); first | done | rfl | (simp only [List.length_drop, List.length_take]; rfl)) ?_; (with_reducible refine (spec_Modulus.calls a0 t101 _ A3.out).mono ?_); rintro e w' ⟨rfl, ⟨nd, rfl⟩⟩; refine ⟨_, rfl, ?_⟩))
      go_ret
      exact ⟨by first | rfl | (simp; done) | (simp [*]; done), by repeat (first | exact Drawn0.refl _ | apply Drawn0.step)⟩

/-! ### spec_Mul: function 75 -/
def spec_Mul.f (a0 : Int) (a1 : Int) (a2 : Int) : Option (Int) := (spec_Modulus.f a0).bind fun t102 => (if t102 = 0 then (some (-1)) else ((spec_Reduce.f a0 a1).bind fun t103 => ((spec_Reduce.f a0 a2).bind fun t104 => ((spec_Reduce.f a0 (wrap64 (t103 * t104))).bind fun t105 => (some t105)))))
set_option maxHeartbeats 8000000 in
set_option maxRecDepth 100000 in
theorem spec_Mul.calls (a0 : Int) (a1 : Int) (a2 : Int) (r : Int) (w : World) (h : spec_Mul.f a0 a1 a2 = some r) :
    Calls Try.prog 75 #[.int .i64 a0, .int .i64 a1, .int .i64 a2] w fun e w' => e = .returned (.int .i64 r) ∧ Drawn0 w w' := by
  have H : ((spec_Modulus.f a0).bind fun t102 => (if t102 = 0 then (some (-1)) else ((spec_Reduce.f a0 a1).bind fun t103 => ((spec_Reduce.f a0 a2).bind fun t104 => ((spec_Reduce.f a0 (wrap64 (t103 * t104))).bind fun t105 => (some t105)))))) = some r := h
  clear h
  replace H := Option.bind_eq_some_iff.mp H
  obtain ⟨t102, A40, H⟩ := H
  replace H : (if t102 = 0 then (some (-1)) else ((spec_Reduce.f a0 a1).bind fun t103 => ((spec_Reduce.f a0 a2).bind fun t104 => ((spec_Reduce.f a0 (wrap64 (t103 * t104))).bind fun t105 => (some t105))))) = some r := H
  have A4 := Aside0.mk A40
  clear A40
  by_cases c5 : t102 = 0
  · rw [if_pos c5] at H
    have c5b0 : (t102 == 0) = true := beq_iff_eq.mpr c5
    have c5b1 : (t102 != 0) = false := bne_eq_false_iff_eq.mpr c5
    clear c5
    obtain rfl := Option.some.inj H
    go_enter Try.func75, Try.ntmps75
    go_wp2_with (first | ((with_reducible refine gate_callee (f := 45) rfl ?_); refine goesL_ (some 8) rfl rfl Try.func45 (by kernel_rfl) rfl #[.int .i64 a0] rfl (by (try simp only [List.map_toArray, List.map_cons, List.map_nil]); first | done | rfl | (simp only [List.length_drop, List.length_take]; rfl)) ?_; (with_reducible refine (spec_Modulus.calls a0 t102 _ A4.out).mono ?_); rintro e w' ⟨rfl, ⟨nd, rfl⟩⟩; refine ⟨_, rfl, ?_⟩))
    go_ret
    exact ⟨by first | rfl | (simp; done) | (simp [*]; done), by repeat (first | exact Drawn0.refl _ | apply Drawn0.step)⟩
  · rw [if_neg c5] at H
    have c5b0 : (t102 == 0) = false := beq_eq_false_iff_ne.mpr c5
    have c5b1 : (t102 != 0) = true := bne_iff_ne.mpr c5
    replace H := Option.bind_eq_some_iff.mp H
    obtain ⟨t103, A60, H⟩ := H
    replace H : ((spec_Reduce.f a0 a2).bind fun t104 => ((spec_Reduce.f a0 (wrap64 (t103 * t104))).bind fun t105 => (some t105))) = some r := H
    have A6 := Aside0.mk A60
    clear A60
    replace H := Option.bind_eq_some_iff.mp H
    obtain ⟨t104, A70, H⟩ := H
    replace H : ((spec_Reduce.f a0 (wrap64 (t103 * t104))).bind fun t105 => (some t105)) = some r := H
    have A7 := Aside0.mk A70
    clear A70
    replace H := Option.bind_eq_some_iff.mp H
    obtain ⟨t105, A80, H⟩ := H
    replace H : (some t105) = some r := H
    have A8 := Aside0.mk A80
    clear A80
    obtain rfl := Option.some.inj H
    go_enter Try.func75, Try.ntmps75
    go_wp2_with (first | ((with_reducible refine gate_callee (f := 45) rfl ?_); refine goesL_ (some 8) rfl rfl Try.func45 (by kernel_rfl) rfl #[.int .i64 a0] rfl (by (try simp only [List.map_toArray, List.map_cons, List.map_nil]); first | done | rfl | (simp only [List.length_drop, List.length_take]; rfl)) ?_; (with_reducible refine (spec_Modulus.calls a0 t102 _ A4.out).mono ?_); rintro e w' ⟨rfl, ⟨nd, rfl⟩⟩; refine ⟨_, rfl, ?_⟩) | ((with_reducible refine gate_callee (f := 50) rfl ?_); refine goesL_ (some 13) rfl rfl Try.func50 (by kernel_rfl) rfl #[.int .i64 a0, .int .i64 a1] rfl (by (try simp only [List.map_toArray, List.map_cons, List.map_nil]); first | done | rfl | (simp only [List.length_drop, List.length_take]; rfl)) ?_; (with_reducible refine (spec_Reduce.calls a0 a1 t103 _ A6.out).mono ?_); rintro e w' ⟨rfl, ⟨nd, rfl⟩⟩; refine ⟨_, rfl, ?_⟩) | ((with_reducible refine gate_callee (f := 50) rfl ?_); refine goesL_ (some 16) rfl rfl Try.func50 (by kernel_rfl) rfl #[.int .i64 a0, .int .i64 a2] rfl (by (try simp only [List.map_toArray, List.map_cons, List.map_nil]); first | done | rfl | (simp only [List.length_drop, List.length_take]; rfl)) ?_; (with_reducible refine (spec_Reduce.calls a0 a2 t104 _ A7.out).mono ?_); rintro e w' ⟨rfl, ⟨nd, rfl⟩⟩; refine ⟨_, rfl, ?_⟩) | ((with_reducible refine gate_callee (f := 50) rfl ?_); refine goesL_ (some 18) rfl rfl Try.func50 (by kernel_rfl) rfl #[.int .i64 a0, .int .i64 (wrap64 (t103 * t104))] rfl (by (try simp only [List.map_toArray, List.map_cons, List.map_nil]); first | done | rfl | (simp only [List.length_drop, List.length_take]; rfl)) ?_; (with_reducible refine (spec_Reduce.calls a0 (wrap64 (t103 * t104)) t105 _ A8.out).mono ?_); rintro e w' ⟨rfl, ⟨nd, rfl⟩⟩; refine ⟨_, rfl, ?_⟩))
    go_ret
    exact ⟨by first | rfl | (simp; done) | (simp [*]; done), by repeat (first | exact Drawn0.refl _ | apply Drawn0.step)⟩

/-! ### spec_Sub: function 76 -/
def spec_Sub.f (a0 : Int) (a1 : Int) (a2 : Int) : Option (Int) := (spec_Modulus.f a0).bind fun t106 => (if t106 = 0 then (some (-1)) else ((spec_Reduce.f a0 a1).bind fun t107 => ((spec_Reduce.f a0 a2).bind fun t108 => ((spec_Reduce.f a0 (wrap64 (t107 - t108))).bind fun t109 => (some t109)))))
set_option maxHeartbeats 8000000 in
set_option maxRecDepth 100000 in
theorem spec_Sub.calls (a0 : Int) (a1 : Int) (a2 : Int) (r : Int) (w : World) (h : spec_Sub.f a0 a1 a2 = some r) :
    Calls Try.prog 76 #[.int .i64 a0, .int .i64 a1, .int .i64 a2] w fun e w' => e = .returned (.int .i64 r) ∧ Drawn0 w w' := by
  have H : ((spec_Modulus.f a0).bind fun t106 => (if t106 = 0 then (some (-1)) else ((spec_Reduce.f a0 a1).bind fun t107 => ((spec_Reduce.f a0 a2).bind fun t108 => ((spec_Reduce.f a0 (wrap64 (t107 - t108))).bind fun t109 => (some t109)))))) = some r := h
  clear h
  replace H := Option.bind_eq_some_iff.mp H
  obtain ⟨t106, A40, H⟩ := H
  replace H : (if t106 = 0 then (some (-1)) else ((spec_Reduce.f a0 a1).bind fun t107 => ((spec_Reduce.f a0 a2).bind fun t108 => ((spec_Reduce.f a0 (wrap64 (t107 - t108))).bind fun t109 => (some t109))))) = some r := H
  have A4 := Aside0.mk A40
  clear A40
  by_cases c5 : t106 = 0
  · rw [if_pos c5] at H
    have c5b0 : (t106 == 0) = true := beq_iff_eq.mpr c5
    have c5b1 : (t106 != 0) = false := bne_eq_false_iff_eq.mpr c5
    clear c5
    obtain rfl := Option.some.inj H
    go_enter Try.func76, Try.ntmps76
    go_wp2_with (first | ((with_reducible refine gate_callee (f := 45) rfl ?_); refine goesL_ (some 8) rfl rfl Try.func45 (by kernel_rfl) rfl #[.int .i64 a0] rfl (by (try simp only [List.map_toArray, List.map_cons, List.map_nil]); first | done | rfl | (simp only [List.length_drop, List.length_take]; rfl)) ?_; (with_reducible refine (spec_Modulus.calls a0 t106 _ A4.out).mono ?_); rintro e w' ⟨rfl, ⟨nd, rfl⟩⟩; refine ⟨_, rfl, ?_⟩))
    go_ret
    exact ⟨by first | rfl | (simp; done) | (simp [*]; done), by repeat (first | exact Drawn0.refl _ | apply Drawn0.step)⟩
  · rw [if_neg c5] at H
    have c5b0 : (t106 == 0) = false := beq_eq_false_iff_ne.mpr c5
    have c5b1 : (t106 != 0) = true := bne_iff_ne.mpr c5
    replace H := Option.bind_eq_some_iff.mp H
    obtain ⟨t107, A60, H⟩ := H
    replace H : ((spec_Reduce.f a0 a2).bind fun t108 => ((spec_Reduce.f a0 (wrap64 (t107 - t108))).bind fun t109 => (some t109))) = some r := H
    have A6 := Aside0.mk A60
    clear A60
    replace H := Option.bind_eq_some_iff.mp H
    obtain ⟨t108, A70, H⟩ := H
    replace H : ((spec_Reduce.f a0 (wrap64 (t107 - t108))).bind fun t109 => (some t109)) = some r := H
    have A7 := Aside0.mk A70
    clear A70
    replace H := Option.bind_eq_some_iff.mp H
    obtain ⟨t109, A80, H⟩ := H
    replace H : (some t109) = some r := H
    have A8 := Aside0.mk A80
    clear A80
    obtain rfl := Option.some.inj H
    go_enter Try.func76, Try.ntmps76
    go_wp2_with (first | ((with_reducible refine gate_callee (f := 45) rfl ?_); refine goesL_ (some 8) rfl rfl Try.func45 (by kernel_rfl) rfl #[.int .i64 a0] rfl (by (try simp only [List.map_toArray, List.map_cons, List.map_nil]); first | done | rfl | (simp only [List.length_drop, List.length_take]; rfl)) ?_; (with_reducible refine (spec_Modulus.calls a0 t106 _ A4.out).mono ?_); rintro e w' ⟨rfl, ⟨nd, rfl⟩⟩; refine ⟨_, rfl, ?_⟩) | ((with_reducible refine gate_callee (f := 50) rfl ?_); refine goesL_ (some 13) rfl rfl Try.func50 (by kernel_rfl) rfl #[.int .i64 a0, .int .i64 a1] rfl (by (try simp only [List.map_toArray, List.map_cons, List.map_nil]); first | done | rfl | (simp only [List.length_drop, List.length_take]; rfl)) ?_; (with_reducible refine (spec_Reduce.calls a0 a1 t107 _ A6.out).mono ?_); rintro e w' ⟨rfl, ⟨nd, rfl⟩⟩; refine ⟨_, rfl, ?_⟩) | ((with_reducible refine gate_callee (f := 50) rfl ?_); refine goesL_ (some 16) rfl rfl Try.func50 (by kernel_rfl) rfl #[.int .i64 a0, .int .i64 a2] rfl (by (try simp only [List.map_toArray, List.map_cons, List.map_nil]); first | done | rfl | (simp only [List.length_drop, List.length_take]; rfl)) ?_; (with_reducible refine (spec_Reduce.calls a0 a2 t108 _ A7.out).mono ?_); rintro e w' ⟨rfl, ⟨nd, rfl⟩⟩; refine ⟨_, rfl, ?_⟩) | ((with_reducible refine gate_callee (f := 50) rfl ?_); refine goesL_ (some 18) rfl rfl Try.func50 (by kernel_rfl) rfl #[.int .i64 a0, .int .i64 (wrap64 (t107 - t108))] rfl (by (try simp only [List.map_toArray, List.map_cons, List.map_nil]); first | done | rfl | (simp only [List.length_drop, List.length_take]; rfl)) ?_; (with_reducible refine (spec_Reduce.calls a0 (wrap64 (t107 - t108)) t109 _ A8.out).mono ?_); rintro e w' ⟨rfl, ⟨nd, rfl⟩⟩; refine ⟨_, rfl, ?_⟩))
    go_ret
    exact ⟨by first | rfl | (simp; done) | (simp [*]; done), by repeat (first | exact Drawn0.refl _ | apply Drawn0.step)⟩

/-! ### spec_Power: function 92 -/
mutual
def spec_Power.j0 : Nat → Int → Int → Int → Option (Int)
  | 0, _, _, _ => none
  | k + 1, x7, x8, x9 => spec_Power.l0 k x7 x8 x9 1
def spec_Power.l0 : Nat → Int → Int → Int → Int → Option (Int)
  | 0, _, _, _, _ => none
  | k + 1, x7, x8, x9, x10 => if x9 > 0 then (if (Int.tmod x9 2) = 1 then (if x7 = 0 then (none) else (spec_Power.l0 k x7 (Int.tmod (wrap64 (x8 * x8)) x7) (wrap64 (Int.tdiv x9 2)) (Int.tmod (wrap64 (x10 * x8)) x7))) else (if x7 = 0 then (none) else (spec_Power.l0 k x7 (Int.tmod (wrap64 (x8 * x8)) x7) (wrap64 (Int.tdiv x9 2)) x10))) else (some x10)
end
def spec_Power.f (k : Nat) (a0 : Int) (a1 : Int) (a2 : Int) : Option (Int) := (spec_Modulus.f a0).bind fun t110 => (if t110 = 0 then (some (-1)) else ((spec_Reduce.f a0 a1).bind fun t111 => (if t111 = 0 then (if a2 = 0 then (some 1) else (if a2 < 0 then (some (-1)) else (some 0))) else (if (wrap64 (t110 - 1)) = 0 then (none) else (if (Int.tmod a2 (wrap64 (t110 - 1))) < 0 then (spec_Power.j0 k t110 t111 (wrap64 ((wrap64 ((Int.tmod a2 (wrap64 (t110 - 1))) + t110)) - 1))) else (spec_Power.j0 k t110 t111 (Int.tmod a2 (wrap64 (t110 - 1)))))))))
theorem spec_Power.mono_l : ∀ k, (∀ y0 y1 y2, LeO (spec_Power.j0 k y0 y1 y2) (spec_Power.j0 (k + 1) y0 y1 y2)) ∧ (∀ y0 y1 y2 y3, LeO (spec_Power.l0 k y0 y1 y2 y3) (spec_Power.l0 (k + 1) y0 y1 y2 y3))
  | 0 => ⟨fun _ _ _ r h => by simp [spec_Power.j0] at h, fun _ _ _ _ r h => by simp [spec_Power.l0] at h⟩
  | k + 1 => by
    obtain ⟨ih0, ih1⟩ := spec_Power.mono_l k
    refine ⟨?_, ?_⟩
    · intro y0 y1 y2
      unfold spec_Power.j0
      repeat' first
      | (with_reducible exact ih0 _ _ _)
      | (with_reducible exact ih1 _ _ _ _)
      | (with_reducible exact LeO.refl _)
      | (with_reducible exact LeO.none _)
      | (with_reducible refine LeO.ite ?_ ?_)
      | (with_reducible refine LeO.bind ?_ (fun _ => ?_))
      | exact ih0 _ _ _
      | exact ih1 _ _ _ _
      | exact LeO.none _
      | refine LeO.ite ?_ ?_
      | refine LeO.bind ?_ (fun _ => ?_)
    · intro y0 y1 y2 y3
      unfold spec_Power.l0
      repeat' first
      | (with_reducible exact ih0 _ _ _)
      | (with_reducible exact ih1 _ _ _ _)
      | (with_reducible exact LeO.refl _)
      | (with_reducible exact LeO.none _)
      | (with_reducible refine LeO.ite ?_ ?_)
      | (with_reducible refine LeO.bind ?_ (fun _ => ?_))
      | exact ih0 _ _ _
      | exact ih1 _ _ _ _
      | exact LeO.none _
      | refine LeO.ite ?_ ?_
      | refine LeO.bind ?_ (fun _ => ?_)
theorem spec_Power.mono : ∀ a0 a1 a2 k, LeO (spec_Power.f k a0 a1 a2) (spec_Power.f (k + 1) a0 a1 a2) := by
  intro a0 a1 a2 k
  obtain ⟨ih0, ih1⟩ := spec_Power.mono_l k
  unfold spec_Power.f
  repeat' first
      | (with_reducible exact ih0 _ _ _)
      | (with_reducible exact ih1 _ _ _ _)
      | (with_reducible exact LeO.refl _)
      | (with_reducible exact LeO.none _)
      | (with_reducible refine LeO.ite ?_ ?_)
      | (with_reducible refine LeO.bind ?_ (fun _ => ?_))
      | exact ih0 _ _ _
      | exact ih1 _ _ _ _
      | exact LeO.none _
      | refine LeO.ite ?_ ?_
      | refine LeO.bind ?_ (fun _ => ?_)
set_option maxHeartbeats 8000000 in
set_option maxRecDepth 100000 in
theorem spec_Power.calls (k : Nat) (a0 : Int) (a1 : Int) (a2 : Int) (r : Int) (w : World) (h : spec_Power.f k a0 a1 a2 = some r) :
    Calls Try.prog 92 #[.int .i64 a0, .int .i64 a1, .int .i64 a2] w fun e w' => e = .returned (.int .i64 r) ∧ Drawn0 w w' := by
  have H : ((spec_Modulus.f a0).bind fun t110 => (if t110 = 0 then (some (-1)) else ((spec_Reduce.f a0 a1).bind fun t111 => (if t111 = 0 then (if a2 = 0 then (some 1) else (if a2 < 0 then (some (-1)) else (some 0))) else (if (wrap64 (t110 - 1)) = 0 then (none) else (if (Int.tmod a2 (wrap64 (t110 - 1))) < 0 then (spec_Power.j0 k t110 t111 (wrap64 ((wrap64 ((Int.tmod a2 (wrap64 (t110 - 1))) + t110)) - 1))) else (spec_Power.j0 k t110 t111 (Int.tmod a2 (wrap64 (t110 - 1)))))))))) = some r := h
  clear h
  replace H := Option.bind_eq_some_iff.mp H
  obtain ⟨t110, A40, H⟩ := H
  replace H : (if t110 = 0 then (some (-1)) else ((spec_Reduce.f a0 a1).bind fun t111 => (if t111 = 0 then (if a2 = 0 then (some 1) else (if a2 < 0 then (some (-1)) else (some 0))) else (if (wrap64 (t110 - 1)) = 0 then (none) else (if (Int.tmod a2 (wrap64 (t110 - 1))) < 0 then (spec_Power.j0 k t110 t111 (wrap64 ((wrap64 ((Int.tmod a2 (wrap64 (t110 - 1))) + t110)) - 1))) else (spec_Power.j0 k t110 t111 (Int.tmod a2 (wrap64 (t110 - 1))))))))) = some r := H
  have A4 := Aside0.mk A40
  clear A40
  by_cases c5 : t110 = 0
  · rw [if_pos c5] at H
    have c5b0 : (t110 == 0) = true := beq_iff_eq.mpr c5
    have c5b1 : (t110 != 0) = false := bne_eq_false_iff_eq.mpr c5
    clear c5
    obtain rfl := Option.some.inj H
    go_enter Try.func92, Try.ntmps92
    go_wp2_with (first | ((with_reducible refine gate_callee (f := 45) rfl ?_); refine goesL_ (some 12) rfl rfl Try.func45 (by kernel_rfl) rfl #[.int .i64 a0] rfl (by (try simp only [List.map_toArray, List.map_cons, List.map_nil]); first | done | rfl | (simp only [List.length_drop, List.length_take]; rfl)) ?_; (with_reducible refine (spec_Modulus.calls a0 t110 _ A4.out).mono ?_); rintro e w' ⟨rfl, ⟨nd, rfl⟩⟩; refine ⟨_, rfl, ?_⟩))
    go_ret
    exact ⟨by first | rfl | (simp; done) | (simp [*]; done), by repeat (first | exact Drawn0.refl _ | apply Drawn0.step)⟩
  · rw [if_neg c5] at H
    have c5b0 : (t110 == 0) = false := beq_eq_false_iff_ne.mpr c5
    have c5b1 : (t110 != 0) = true := bne_iff_ne.mpr c5
    replace H := Option.bind_eq_some_iff.mp H
    obtain ⟨t111, A60, H⟩ := H
    replace H : (if t111 = 0 then (if a2 = 0 then (some 1) else (if a2 < 0 then (some (-1)) else (some 0))) else (if (wrap64 (t110 - 1)) = 0 then (none) else (if (Int.tmod a2 (wrap64 (t110 - 1))) < 0 then (spec_Power.j0 k t110 t111 (wrap64 ((wrap64 ((Int.tmod a2 (wrap64 (t110 - 1))) + t110)) - 1))) else (spec_Power.j0 k t110 t111 (Int.tmod a2 (wrap64 (t110 - 1))))))) = some r := H
    have A6 := Aside0.mk A60
    clear A60
    by_cases c7 : t111 = 0
    · rw [if_pos c7] at H
      have c7b0 : (t111 == 0) = true := beq_iff_eq.mpr c7
      have c7b1 : (t111 != 0) = false := bne_eq_false_iff_eq.mpr c7
      clear c7
      by_cases c8 : a2 = 0
      · rw [if_pos c8] at H
        have c8b0 : (a2 == 0) = true := beq_iff_eq.mpr c8
        have c8b1 : (a2 != 0) = false := bne_eq_false_iff_eq.mpr c8
        clear c8
        obtain rfl := Option.some.inj H
        go_enter Try.func92, Try.ntmps92
        go_wp2_with (first | ((with_reducible refine gate_callee (f := 45) rfl ?_); refine goesL_ (some 12) rfl rfl Try.func45 (by kernel_rfl) rfl #[.int .i64 a0] rfl (by (try simp only [List.map_toArray, List.map_cons, List.map_nil]); first | done | rfl | (simp only [List.length_drop, List.length_take]; rfl)) ?_; (with_reducible refine (spec_Modulus.calls a0 t110 _ A4.out).mono ?_); rintro e w' ⟨rfl, ⟨nd, rfl⟩⟩; refine ⟨_, rfl, ?_⟩) | ((with_reducible refine gate_callee (f := 50) rfl ?_); refine goesL_ (some 17) rfl rfl Try.func50 (by kernel_rfl) rfl #[.int .i64 a0, .int .i64 a1] rfl (by (try simp only [List.map_toArray, List.map_cons, List.map_nil]); first | done | rfl | (simp only [List.length_drop, List.length_take]; rfl)) ?_; (with_reducible refine (spec_Reduce.calls a0 a1 t111 _ A6.out).mono ?_); rintro e w' ⟨rfl, ⟨nd, rfl⟩⟩; refine ⟨_, rfl, ?_⟩))
        go_ret
        exact ⟨by first | rfl | (simp; done) | (simp [*]; done), by repeat (first | exact Drawn0.refl _ | apply Drawn0.step)⟩
      · rw [if_neg c8] at H
        have c8b0 : (a2 == 0) = false := beq_eq_false_iff_ne.mpr c8
        have c8b1 : (a2 != 0) = true := bne_iff_ne.mpr c8
        by_cases c9 : a2 < 0
        · rw [if_pos c9] at H
          have c9b0 : decide (a2 < 0) = true := decide_eq_true c9
          clear c9
          obtain rfl := Option.some.inj H
          go_enter Try.func92, Try.ntmps92
          go_wp2_with (first | ((with_reducible refine gate_callee (f := 45) rfl ?_); refine goesL_ (some 12) rfl rfl Try.func45 (by kernel_rfl) rfl #[.int .i64 a0] rfl (by (try simp only [List.map_toArray, List.map_cons, List.map_nil]); first | done | rfl | (simp only [List.length_drop, List.length_take]; rfl)) ?_; (with_reducible refine (spec_Modulus.calls a0 t110 _ A4.out).mono ?_); rintro e w' ⟨rfl, ⟨nd, rfl⟩⟩; refine ⟨_, rfl, ?_⟩) | ((with_reducible refine gate_callee (f := 50) rfl ?_); refine goesL_ (some 17) rfl rfl Try.func50 (by kernel_rfl) rfl #[.int .i64 a0, .int .i64 a1] rfl (by (try simp only [List.map_toArray, List.map_cons, List.map_nil]); first | done | rfl | (simp only [List.length_drop, List.length_take]; rfl)) ?_; (with_reducible refine (spec_Reduce.calls a0 a1 t111 _ A6.out).mono ?_); rintro e w' ⟨rfl, ⟨nd, rfl⟩⟩; refine ⟨_, rfl, ?_⟩))
          go_ret
          exact ⟨by first | rfl | (simp; done) | (simp [*]; done), by repeat (first | exact Drawn0.refl _ | apply Drawn0.step)⟩
        · rw [if_neg c9] at H
          have c9b0 : decide (a2 < 0) = false := decide_eq_false c9
          clear c9
          obtain rfl := Option.some.inj H
          go_enter Try.func92, Try.ntmps92
          go_wp2_with (first | ((with_reducible refine gate_callee (f := 45) rfl ?_); refine goesL_ (some 12) rfl rfl Try.func45 (by kernel_rfl) rfl #[.int .i64 a0] rfl (by (try simp only [List.map_toArray, List.map_cons, List.map_nil]); first | done | rfl | (simp only [List.length_drop, List.length_take]; rfl)) ?_; (with_reducible refine (spec_Modulus.calls a0 t110 _ A4.out).mono ?_); rintro e w' ⟨rfl, ⟨nd, rfl⟩⟩; refine ⟨_, rfl, ?_⟩) | ((with_reducible refine gate_callee (f := 50) rfl ?_); refine goesL_ (some 17) rfl rfl Try.func50 (by kernel_rfl) rfl #[.int .i64 a0, .int .i64 a1] rfl (by (try simp only [List.map_toArray, List.map_cons, List.map_nil]); first | done | rfl | (simp only [List.length_drop, List.length_take]; rfl)) ?_; (with_reducible refine (spec_Reduce.calls a0 a1 t111 _ A6.out).mono ?_); rintro e w' ⟨rfl, ⟨nd, rfl⟩⟩; refine ⟨_, rfl, ?_⟩))
          go_ret
          exact ⟨by first | rfl | (simp; done) | (simp [*]; done), by repeat (first | exact Drawn0.refl _ | apply Drawn0.step)⟩
    · rw [if_neg c7] at H
      have c7b0 : (t111 == 0) = false := beq_eq_false_iff_ne.mpr c7
      have c7b1 : (t111 != 0) = true := bne_iff_ne.mpr c7
      by_cases c10 : (wrap64 (t110 - 1)) = 0
      · rw [if_pos c10] at H
        exact absurd H (by simp)
      · rw [if_neg c10] at H
        have c10b0 : ((wrap64 (t110 - 1)) == 0) = false := beq_eq_false_iff_ne.mpr c10
        have c10b1 : ((wrap64 (t110 - 1)) != 0) = true := bne_iff_ne.mpr c10
        have HC11 := Aside0.mk H
        clear H
        go_enter Try.func92, Try.ntmps92
        go_upto_if 29 with (first | ((with_reducible refine gate_callee (f := 45) rfl ?_); refine goesL_ (some 12) rfl rfl Try.func45 (by kernel_rfl) rfl #[.int .i64 a0] rfl (by (try simp only [List.map_toArray, List.map_cons, List.map_nil]); first | done | rfl | (simp only [List.length_drop, List.length_take]; rfl)) ?_; (with_reducible refine (spec_Modulus.calls a0 t110 _ A4.out).mono ?_); rintro e w' ⟨rfl, ⟨nd, rfl⟩⟩; refine ⟨_, rfl, ?_⟩) | ((with_reducible refine gate_callee (f := 50) rfl ?_); refine goesL_ (some 17) rfl rfl Try.func50 (by kernel_rfl) rfl #[.int .i64 a0, .int .i64 a1] rfl (by (try simp only [List.map_toArray, List.map_cons, List.map_nil]); first | done | rfl | (simp only [List.length_drop, List.length_take]; rfl)) ?_; (with_reducible refine (spec_Reduce.calls a0 a1 t111 _ A6.out).mono ?_); rintro e w' ⟨rfl, ⟨nd, rfl⟩⟩; refine ⟨_, rfl, ?_⟩))
        (try simp only [Act.put, List.setIfInBounds_toArray, List.set_cons_zero, List.set_cons_succ])
        go_cut [9] (fun v9 wc => ∃ (kq : Nat) (x9_10 : Int), v9 = .int .i64 x9_10 ∧ Aside0 (spec_Power.j0 kq t110 t111 x9_10 = some r) ∧ Aside0 (kq ≤ k) ∧ Drawn0 w wc)
        case first =>
          have H := HC11.out
          clear HC11
          by_cases c12 : (Int.tmod a2 (wrap64 (t110 - 1))) < 0
          · rw [if_pos c12] at H
            have c12b0 : decide ((Int.tmod a2 (wrap64 (t110 - 1))) < 0) = true := decide_eq_true c12
            clear c12
            (first | rw [c12b0] | (simp only [i64_w, i32_w]; rw [c12b0]) | skip)
            have H' := Aside0.mk H
            clear H
            go_wp2
            go_meet
            case rel => exact ⟨_, (wrap64 ((wrap64 ((Int.tmod a2 (wrap64 (t110 - 1))) + t110)) - 1)), (by first | rfl | (simp; done) | (simp [*]; done)), H', ⟨by first | omega | exact Nat.le_refl _⟩, by repeat (first | exact Drawn0.refl _ | apply Drawn0.step)⟩
          · rw [if_neg c12] at H
            have c12b0 : decide ((Int.tmod a2 (wrap64 (t110 - 1))) < 0) = false := decide_eq_false c12
            clear c12
            (first | rw [c12b0] | (simp only [i64_w, i32_w]; rw [c12b0]) | skip)
            have H' := Aside0.mk H
            clear H
            go_wp2
            go_meet
            case rel => exact ⟨_, (Int.tmod a2 (wrap64 (t110 - 1))), (by first | rfl | (simp; done) | (simp [*]; done)), H', ⟨by first | omega | exact Nat.le_refl _⟩, by repeat (first | exact Drawn0.refl _ | apply Drawn0.step)⟩
        case rest =>
          clear HC11
          try clear c1
          try clear p2
          try clear c4
          try clear c5
          try clear c5b0
          try clear c5b1
          try clear p6
          try clear c7
          try clear c7b0
          try clear c7b1
          try clear c8
          try clear c8b0
          try clear c8b1
          try clear c9
          try clear c9b0
          try clear c10
          try clear c10b0
          try clear c10b1
          try clear c12
          try clear c12b0
          obtain ⟨kq, x9_10, rfl, HA, HJ10, ⟨mc10, rfl⟩⟩ := hcut
          cases kq with
          | zero => exact absurd HA.out (by simp [spec_Power.j0])
          | succ kj10 =>
            have H := HA.out
            clear HA
            simp only [spec_Power.j0] at H
            have H' := Aside0.mk H
            clear H
            go_wp2
            go_loopg [8, 9, 10] kj10 (fun kq v8 v9 v10 w' => ∃ (x8_2 : Int) (x9_2 : Int) (x10_2 : Int), v8 = .int .i64 x8_2 ∧ v9 = .int .i64 x9_2 ∧ v10 = .int .i64 x10_2 ∧ Aside0 (spec_Power.l0 kq t110 x8_2 x9_2 x10_2 = some r) ∧ Aside0 (kq ≤ kj10) ∧ Drawn0 w w')
            case atStart => exact ⟨(t111), (x9_10), (1), (by first | rfl | (simp; done) | (simp [*]; done)), (by first | rfl | (simp; done) | (simp [*]; done)), (by first | rfl | (simp; done) | (simp [*]; done)), H', ⟨Nat.le_refl _⟩, by repeat (first | exact Drawn0.refl _ | apply Drawn0.step)⟩
            case round =>
              clear H'
              try clear c1
              try clear p2
              try clear c4
              try clear c5
              try clear c5b0
              try clear c5b1
              try clear p6
              try clear c7
              try clear c7b0
              try clear c7b1
              try clear c8
              try clear c8b0
              try clear c8b1
              try clear c9
              try clear c9b0
              try clear c10
              try clear c10b0
              try clear c10b1
              try clear c12
              try clear c12b0
              try clear p2
              try clear p6
              obtain ⟨x8_2, x9_2, x10_2, rfl, rfl, rfl, HA, HK2, ⟨m2, rfl⟩⟩ := hrel
              cases gk with
              | zero => exact absurd HA.out (by simp [spec_Power.l0])
              | succ k2 =>
                have H := HA.out
                clear HA
                simp only [spec_Power.l0] at H
                by_cases c13 : x9_2 > 0
                · rw [if_pos c13] at H
                  have c13b0 : decide (0 < x9_2) = true := decide_eq_true c13
                  clear c13
                  by_cases c14 : (Int.tmod x9_2 2) = 1
                  · rw [if_pos c14] at H
                    have c14b0 : ((Int.tmod x9_2 2) == 1) = true := beq_iff_eq.mpr c14
                    have c14b1 : ((Int.tmod x9_2 2) != 1) = false := bne_eq_false_iff_eq.mpr c14
                    clear c14
                    by_cases c15 : t110 = 0
                    · rw [if_pos c15] at H
                      exact absurd H (by simp)
                    · rw [if_neg c15] at H
                      have c15b0 : (t110 == 0) = false := beq_eq_false_iff_ne.mpr c15
                      have c15b1 : (t110 != 0) = true := bne_iff_ne.mpr c15
                      have H' := Aside0.mk H
                      clear H
                      go_wp2
                      go_roundg k2
                      case measure => have := HJ10.out; have := HK2.out; omega
                      case rel => exact ⟨(Int.tmod (wrap64 (x8_2 * x8_2)) t110), (wrap64 (Int.tdiv x9_2 2)), (Int.tmod (wrap64 (x10_2 * x8_2)) t110), (by first | rfl | (simp; done) | (simp [*]; done)), (by first | rfl | (simp; done) | (simp [*]; done)), (by first | rfl | (simp; done) | (simp [*]; done)), H', ⟨by have := HJ10.out; have := HK2.out; omega⟩, by repeat (first | exact Drawn0.refl _ | apply Drawn0.step)⟩
                  · rw [if_neg c14] at H
                    have c14b0 : ((Int.tmod x9_2 2) == 1) = false := beq_eq_false_iff_ne.mpr c14
                    have c14b1 : ((Int.tmod x9_2 2) != 1) = true := bne_iff_ne.mpr c14
                    by_cases c16 : t110 = 0
                    · rw [if_pos c16] at H
                      exact absurd H (by simp)
                    · rw [if_neg c16] at H
                      have c16b0 : (t110 == 0) = false := beq_eq_false_iff_ne.mpr c16
                      have c16b1 : (t110 != 0) = true := bne_iff_ne.mpr c16
                      have H' := Aside0.mk H
                      clear H
                      go_wp2
                      go_roundg k2
                      case measure => have := HJ10.out; have := HK2.out; omega
                      case rel => exact ⟨(Int.tmod (wrap64 (x8_2 * x8_2)) t110), (wrap64 (Int.tdiv x9_2 2)), (x10_2), (by first | rfl | (simp; done) | (simp [*]; done)), (by first | rfl | (simp; done) | (simp [*]; done)), (by first | rfl | (simp; done) | (simp [*]; done)), H', ⟨by have := HJ10.out; have := HK2.out; omega⟩, by repeat (first | exact Drawn0.refl _ | apply Drawn0.step)⟩
                · rw [if_neg c13] at H
                  have c13b0 : decide (0 < x9_2) = false := decide_eq_false c13
                  clear c13
                  obtain rfl := Option.some.inj H
                  go_wp2
                  go_ret
                  exact ⟨by first | rfl | (simp; done) | (simp [*]; done), by repeat (first | exact Drawn0.refl _ | apply Drawn0.step)⟩

/-! ### spec_Inverse: function 77 -/
def spec_Inverse.f (k : Nat) (a0 : Int) (a1 : Int) : Option (Int) := (spec_Power.f k a0 a1 (-1)).bind fun t112 => (some t112)
theorem spec_Inverse.mono : ∀ a0 a1 k, LeO (spec_Inverse.f k a0 a1) (spec_Inverse.f (k + 1) a0 a1) := by
  intro a0 a1 k
  unfold spec_Inverse.f
  repeat' first
      | (with_reducible exact spec_Power.mono _ _ _ _)
      | (with_reducible exact LeO.refl _)
      | (with_reducible exact LeO.none _)
      | (with_reducible refine LeO.ite ?_ ?_)
      | (with_reducible refine LeO.bind ?_ (fun _ => ?_))
      | exact spec_Power.mono _ _ _ _
      | exact LeO.none _
      | refine LeO.ite ?_ ?_
      | refine LeO.bind ?_ (fun _ => ?_)
set_option maxHeartbeats 8000000 in
set_option maxRecDepth 100000 in
theorem spec_Inverse.calls (k : Nat) (a0 : Int) (a1 : Int) (r : Int) (w : World) (h : spec_Inverse.f k a0 a1 = some r) :
    Calls Try.prog 77 #[.int .i64 a0, .int .i64 a1] w fun e w' => e = .returned (.int .i64 r) ∧ Drawn0 w w' := by
  have H : ((spec_Power.f k a0 a1 (-1)).bind fun t112 => (some t112)) = some r := h
  clear h
  replace H := Option.bind_eq_some_iff.mp H
  obtain ⟨t112, A30, H⟩ := H
  replace H : (some t112) = some r := H
  have A3 := Aside0.mk A30
  clear A30
  obtain rfl := Option.some.inj H
  go_enter Try.func77, Try.ntmps77
  go_wp2_with (first | ((with_reducible refine gate_callee (f := 92) rfl ?_); refine goesL_ (some 7) rfl rfl Try.func92 (by kernel_rfl) rfl #[.int .i64 a0, .int .i64 a1, .int .i64 (-1)] rfl (by (try simp only [List.map_toArray, List.map_cons, List.map_nil]); first | done | rfl | (simp only [List.length_drop, List.length_take]; rfl)) ?_; (with_reducible refine (spec_Power.calls k a0 a1 (-1) t112 _ A3.out).mono ?_); rintro e w' ⟨rfl, ⟨nd, rfl⟩⟩; refine ⟨_, rfl, ?_⟩))
  go_ret
  exact ⟨by first | rfl | (simp; done) | (simp [*]; done), by repeat (first | exact Drawn0.refl _ | apply Drawn0.step)⟩

/-! ### spec_Joined: function 40 -/
def spec_Joined.j0 : Nat → Int → Int → Bool → Option (Int)
  | 0, _, _, _ => none
  | k + 1, x0, x1, x16 => if x16 = true then (some (-1)) else ((spec_Modulus.f 6).bind fun t117 => ((spec_Sub.f 7 x1 x0).bind fun t118 => ((spec_Modulus.f 6).bind fun t119 => ((spec_Inverse.f k 7 t119).bind fun t120 => ((spec_Mul.f 7 t118 t120).bind fun t121 => (some (wrap64 (x0 + (wrap64 (t117 * t121))))))))))
def spec_Joined.f (k : Nat) (a0 : Int) (a1 : Int) : Option (Int) := (spec_Modulus.f 6).bind fun t113 => ((spec_l01In.f a0 0 (wrap64 (t113 - 1))).bind fun t114 => (if t114 = true then ((spec_Modulus.f 7).bind fun t115 => ((spec_l01In.f a1 0 (wrap64 (t115 - 1))).bind fun t116 => (spec_Joined.j0 k a0 a1 (!t116)))) else (spec_Joined.j0 k a0 a1 true)))
theorem spec_Joined.mono_l : ∀ k, (∀ y0 y1 y2, LeO (spec_Joined.j0 k y0 y1 y2) (spec_Joined.j0 (k + 1) y0 y1 y2))
  | 0 => fun _ _ _ r h => by simp [spec_Joined.j0] at h
  | k + 1 => by
    have ih0 := spec_Joined.mono_l k
    · intro y0 y1 y2
      unfold spec_Joined.j0
      repeat' first
      | (with_reducible exact ih0 _ _ _)
      | (with_reducible exact spec_Inverse.mono _ _ _)
      | (with_reducible exact LeO.refl _)
      | (with_reducible exact LeO.none _)
      | (with_reducible refine LeO.ite ?_ ?_)
      | (with_reducible refine LeO.bind ?_ (fun _ => ?_))
      | exact ih0 _ _ _
      | exact spec_Inverse.mono _ _ _
      | exact LeO.none _
      | refine LeO.ite ?_ ?_
      | refine LeO.bind ?_ (fun _ => ?_)
theorem spec_Joined.mono : ∀ a0 a1 k, LeO (spec_Joined.f k a0 a1) (spec_Joined.f (k + 1) a0 a1) := by
  intro a0 a1 k
  have ih0 := spec_Joined.mono_l k
  unfold spec_Joined.f
  repeat' first
      | (with_reducible exact ih0 _ _ _)
      | (with_reducible exact spec_Inverse.mono _ _ _)
      | (with_reducible exact LeO.refl _)
      | (with_reducible exact LeO.none _)
      | (with_reducible refine LeO.ite ?_ ?_)
      | (with_reducible refine LeO.bind ?_ (fun _ => ?_))
      | exact ih0 _ _ _
      | exact spec_Inverse.mono _ _ _
      | exact LeO.none _
      | refine LeO.ite ?_ ?_
      | refine LeO.bind ?_ (fun _ => ?_)
set_option maxHeartbeats 8000000 in
set_option maxRecDepth 100000 in
theorem spec_Joined.calls (k : Nat) (a0 : Int) (a1 : Int) (r : Int) (w : World) (h : spec_Joined.f k a0 a1 = some r) :
    Calls Try.prog 40 #[.int .i64 a0, .int .i64 a1] w fun e w' => e = .returned (.int .i64 r) ∧ Drawn0 w w' := by
  have H : ((spec_Modulus.f 6).bind fun t113 => ((spec_l01In.f a0 0 (wrap64 (t113 - 1))).bind fun t114 => (if t114 = true then ((spec_Modulus.f 7).bind fun t115 => ((spec_l01In.f a1 0 (wrap64 (t115 - 1))).bind fun t116 => (spec_Joined.j0 k a0 a1 (!t116)))) else (spec_Joined.j0 k a0 a1 true)))) = some r := h
  clear h
  have HC3 := Aside0.mk H
  clear H
  go_enter Try.func40, Try.ntmps40
  go_upto_region 1 with (fail)
  go_cut [16] (fun v16 wc => ∃ (kq : Nat) (x16_2 : Bool), v16 = .bool x16_2 ∧ Aside0 (spec_Joined.j0 kq a0 a1 x16_2 = some r) ∧ Aside0 (kq ≤ k) ∧ Drawn0 w wc)
  case first =>
    have H := HC3.out
    clear HC3
    replace H := Option.bind_eq_some_iff.mp H
    obtain ⟨t113, A40, H⟩ := H
    replace H : ((spec_l01In.f a0 0 (wrap64 (t113 - 1))).bind fun t114 => (if t114 = true then ((spec_Modulus.f 7).bind fun t115 => ((spec_l01In.f a1 0 (wrap64 (t115 - 1))).bind fun t116 => (spec_Joined.j0 k a0 a1 (!t116)))) else (spec_Joined.j0 k a0 a1 true))) = some r := H
    have A4 := Aside0.mk A40
    clear A40
    replace H := Option.bind_eq_some_iff.mp H
    obtain ⟨t114, A50, H⟩ := H
    replace H : (if t114 = true then ((spec_Modulus.f 7).bind fun t115 => ((spec_l01In.f a1 0 (wrap64 (t115 - 1))).bind fun t116 => (spec_Joined.j0 k a0 a1 (!t116)))) else (spec_Joined.j0 k a0 a1 true)) = some r := H
    have A5 := Aside0.mk A50
    clear A50
    by_cases c6 : t114 = true
    · subst c6
      have H1 : ((spec_Modulus.f 7).bind fun t115 => ((spec_l01In.f a1 0 (wrap64 (t115 - 1))).bind fun t116 => (spec_Joined.j0 k a0 a1 (!t116)))) = some r := by rw [if_pos rfl] at H; exact H
      clear H
      have H := H1
      clear H1
      replace H := Option.bind_eq_some_iff.mp H
      obtain ⟨t115, A70, H⟩ := H
      replace H : ((spec_l01In.f a1 0 (wrap64 (t115 - 1))).bind fun t116 => (spec_Joined.j0 k a0 a1 (!t116))) = some r := H
      have A7 := Aside0.mk A70
      clear A70
      replace H := Option.bind_eq_some_iff.mp H
      obtain ⟨t116, A80, H⟩ := H
      replace H : (spec_Joined.j0 k a0 a1 (!t116)) = some r := H
      have A8 := Aside0.mk A80
      clear A80
      have H' := Aside0.mk H
      clear H
      go_wp2_with (first | ((with_reducible refine gate_callee (f := 45) rfl ?_); refine goesL_ (some 6) rfl rfl Try.func45 (by kernel_rfl) rfl #[.int .i64 6] rfl (by (try simp only [List.map_toArray, List.map_cons, List.map_nil]); first | done | rfl | (simp only [List.length_drop, List.length_take]; rfl)) ?_; (with_reducible refine (spec_Modulus.calls 6 t113 _ A4.out).mono ?_); rintro e w' ⟨rfl, ⟨nd, rfl⟩⟩; refine ⟨_, rfl, ?_⟩) | ((with_reducible refine gate_callee (f := 48) rfl ?_); refine goesL_ (some 8) rfl rfl Try.func48 (by kernel_rfl) rfl #[.int .i64 a0, .int .i64 0, .int .i64 (wrap64 (t113 - 1))] rfl (by (try simp only [List.map_toArray, List.map_cons, List.map_nil]); first | done | rfl | (simp only [List.length_drop, List.length_take]; rfl)) ?_; (with_reducible refine (spec_l01In.calls a0 0 (wrap64 (t113 - 1)) true _ A5.out).mono ?_); rintro e w' ⟨rfl, ⟨nd, rfl⟩⟩; refine ⟨_, rfl, ?_⟩) | (go_at_call 45; (with_reducible refine (spec_Modulus.calls 7 t115 _ A7.out).mono ?_); rintro e w' ⟨rfl, ⟨nd, rfl⟩⟩) | (go_at_call 48; (with_reducible refine (spec_l01In.calls a1 0 (wrap64 (t115 - 1)) t116 _ A8.out).mono ?_); rintro e w' ⟨rfl, ⟨nd, rfl⟩⟩))
      go_meet
      case rel => exact ⟨_, (!t116), (by first | rfl | (simp; done) | (simp [*]; done)), H', ⟨by first | omega | exact Nat.le_refl _⟩, by repeat (first | exact Drawn0.refl _ | apply Drawn0.step)⟩
    · replace c6 := Bool.eq_false_iff.mpr c6
      subst c6
      have H1 : (spec_Joined.j0 k a0 a1 true) = some r := by rw [if_neg (show ¬ (false = true) by decide)] at H; exact H
      clear H
      have H := H1
      clear H1
      have H' := Aside0.mk H
      clear H
      go_wp2_with (first | ((with_reducible refine gate_callee (f := 45) rfl ?_); refine goesL_ (some 6) rfl rfl Try.func45 (by kernel_rfl) rfl #[.int .i64 6] rfl (by (try simp only [List.map_toArray, List.map_cons, List.map_nil]); first | done | rfl | (simp only [List.length_drop, List.length_take]; rfl)) ?_; (with_reducible refine (spec_Modulus.calls 6 t113 _ A4.out).mono ?_); rintro e w' ⟨rfl, ⟨nd, rfl⟩⟩; refine ⟨_, rfl, ?_⟩) | ((with_reducible refine gate_callee (f := 48) rfl ?_); refine goesL_ (some 8) rfl rfl Try.func48 (by kernel_rfl) rfl #[.int .i64 a0, .int .i64 0, .int .i64 (wrap64 (t113 - 1))] rfl (by (try simp only [List.map_toArray, List.map_cons, List.map_nil]); first | done | rfl | (simp only [List.length_drop, List.length_take]; rfl)) ?_; (with_reducible refine (spec_l01In.calls a0 0 (wrap64 (t113 - 1)) false _ A5.out).mono ?_); rintro e w' ⟨rfl, ⟨nd, rfl⟩⟩; refine ⟨_, rfl, ?_⟩))
      go_meet
      case rel => exact ⟨_, (true), (by first | rfl | (simp; done) | (simp [*]; done)), H', ⟨by first | omega | exact Nat.le_refl _⟩, by repeat (first | exact Drawn0.refl _ | apply Drawn0.step)⟩
  case rest =>
    clear HC3
    try clear p2
    try clear c4
    try clear c6
    try clear p6
    obtain ⟨kq, x16_2, rfl, HA, HJ2, ⟨mc2, rfl⟩⟩ := hcut
    cases kq with
    | zero => exact absurd HA.out (by simp [spec_Joined.j0])
    | succ kj2 =>
      have H := HA.out
      clear HA
      simp only [spec_Joined.j0] at H
      by_cases c9 : x16_2 = true
      · subst c9
        have H1 : (some (-1)) = some r := by rw [if_pos rfl] at H; exact H
        clear H
        have H := H1
        clear H1
        obtain rfl := Option.some.inj H
        go_wp2
        go_ret
        exact ⟨by first | rfl | (simp; done) | (simp [*]; done), by repeat (first | exact Drawn0.refl _ | apply Drawn0.step)⟩
      · replace c9 := Bool.eq_false_iff.mpr c9
        subst c9
        have H1 : ((spec_Modulus.f 6).bind fun t117 => ((spec_Sub.f 7 a1 a0).bind fun t118 => ((spec_Modulus.f 6).bind fun t119 => ((spec_Inverse.f kj2 7 t119).bind fun t120 => ((spec_Mul.f 7 t118 t120).bind fun t121 => (some (wrap64 (a0 + (wrap64 (t117 * t121)))))))))) = some r := by rw [if_neg (show ¬ (false = true) by decide)] at H; exact H
        clear H
        have H := H1
        clear H1
        replace H := Option.bind_eq_some_iff.mp H
        obtain ⟨t117, A100, H⟩ := H
        replace H : ((spec_Sub.f 7 a1 a0).bind fun t118 => ((spec_Modulus.f 6).bind fun t119 => ((spec_Inverse.f kj2 7 t119).bind fun t120 => ((spec_Mul.f 7 t118 t120).bind fun t121 => (some (wrap64 (a0 + (wrap64 (t117 * t121))))))))) = some r := H
        have A10 := Aside0.mk A100
        clear A100
        replace H := Option.bind_eq_some_iff.mp H
        obtain ⟨t118, A110, H⟩ := H
        replace H : ((spec_Modulus.f 6).bind fun t119 => ((spec_Inverse.f kj2 7 t119).bind fun t120 => ((spec_Mul.f 7 t118 t120).bind fun t121 => (some (wrap64 (a0 + (wrap64 (t117 * t121)))))))) = some r := H
        have A11 := Aside0.mk A110
        clear A110
        replace H := Option.bind_eq_some_iff.mp H
        obtain ⟨t119, A120, H⟩ := H
        replace H : ((spec_Inverse.f kj2 7 t119).bind fun t120 => ((spec_Mul.f 7 t118 t120).bind fun t121 => (some (wrap64 (a0 + (wrap64 (t117 * t121))))))) = some r := H
        have A12 := Aside0.mk A120
        clear A120
        replace H := Option.bind_eq_some_iff.mp H
        obtain ⟨t120, A130, H⟩ := H
        replace H : ((spec_Mul.f 7 t118 t120).bind fun t121 => (some (wrap64 (a0 + (wrap64 (t117 * t121)))))) = some r := H
        have A13 := Aside0.mk A130
        clear A130
        replace H := Option.bind_eq_some_iff.mp H
        obtain ⟨t121, A140, H⟩ := H
        replace H : (some (wrap64 (a0 + (wrap64 (t117 * t121))))) = some r := H
        have A14 := Aside0.mk A140
        clear A140
        obtain rfl := Option.some.inj H
        go_wp2_with (first | ((with_reducible refine gate_callee (f := 45) rfl ?_); refine goesL_ (some 18) rfl rfl Try.func45 (by kernel_rfl) rfl #[.int .i64 6] rfl (by (try simp only [List.map_toArray, List.map_cons, List.map_nil]); first | done | rfl | (simp only [List.length_drop, List.length_take]; rfl)) ?_; (with_reducible refine (spec_Modulus.calls 6 t117 _ A10.out).mono ?_); rintro e w' ⟨rfl, ⟨nd, rfl⟩⟩; refine ⟨_, rfl, ?_⟩) | ((with_reducible refine gate_callee (f := 76) rfl ?_); refine goesL_ (some 21) rfl rfl Try.func76 (by kernel_rfl) rfl #[.int .i64 7, .int .i64 a1, .int .i64 a0] rfl (by (try simp only [List.map_toArray, List.map_cons, List.map_nil]); first | done | rfl | (simp only [List.length_drop, List.length_take]; rfl)) ?_; (with_reducible refine (spec_Sub.calls 7 a1 a0 t118 _ A11.out).mono ?_); rintro e w' ⟨rfl, ⟨nd, rfl⟩⟩; refine ⟨_, rfl, ?_⟩) | ((with_reducible refine gate_callee (f := 45) rfl ?_); refine goesL_ (some 22) rfl rfl Try.func45 (by kernel_rfl) rfl #[.int .i64 6] rfl (by (try simp only [List.map_toArray, List.map_cons, List.map_nil]); first | done | rfl | (simp only [List.length_drop, List.length_take]; rfl)) ?_; (with_reducible refine (spec_Modulus.calls 6 t119 _ A12.out).mono ?_); rintro e w' ⟨rfl, ⟨nd, rfl⟩⟩; refine ⟨_, rfl, ?_⟩) | ((with_reducible refine gate_callee (f := 77) rfl ?_); refine goesL_ (some 23) rfl rfl Try.func77 (by kernel_rfl) rfl #[.int .i64 7, .int .i64 t119] rfl (by (try simp only [List.map_toArray, List.map_cons, List.map_nil]); first | done | rfl | (simp only [List.length_drop, List.length_take]; rfl)) ?_; (with_reducible refine (spec_Inverse.calls kj2 7 t119 t120 _ A13.out).mono ?_); rintro e w' ⟨rfl, ⟨nd, rfl⟩⟩; refine ⟨_, rfl, ?_⟩) | ((with_reducible refine gate_callee (f := 75) rfl ?_); refine goesL_ (some 24) rfl rfl Try.func75 (by kernel_rfl) rfl #[.int .i64 7, .int .i64 t118, .int .i64 t120] rfl (by (try simp only [List.map_toArray, List.map_cons, List.map_nil]); first | done | rfl | (simp only [List.length_drop, List.length_take]; rfl)) ?_; (with_reducible refine (spec_Mul.calls 7 t118 t120 t121 _ A14.out).mono ?_); rintro e w' ⟨rfl, ⟨nd, rfl⟩⟩; refine ⟨_, rfl, ?_⟩))
        go_ret
        exact ⟨by first | rfl | (simp; done) | (simp [*]; done), by repeat (first | exact Drawn0.refl _ | apply Drawn0.step)⟩

/-! ### impl_fieldOf: function 81 -/
def impl_fieldOf.f (a0 : Int) : Option (Int × Int × Int × Bool) := if a0 < 0 then (some (0, 0, 0, false)) else (if a0 ≥ 9 then (some (0, 0, 0, false)) else (if a0 = 0 then (some (17, 3, 4, true)) else (if a0 = 1 then (some (97, 5, 5, true)) else (if a0 = 2 then (some (193, 5, 6, true)) else (if a0 = 3 then (some (257, 3, 8, true)) else (if a0 = 4 then (some (7681, 17, 9, true)) else (if a0 = 5 then (some (12289, 11, 12, true)) else (if a0 = 6 then (some (998244353, 3, 23, true)) else (if a0 = 7 then (some (469762049, 3, 26, true)) else (some (1004535809, 3, 21, true)))))))))))
/- impl.fieldOf: its table is an array; one walk for each field, one for no field. -/
theorem fo_setRow {w : World} {g : Nat} {t : TypeId} {old cs : Array Value} (h : w.heap[g]? = some (.cells old t (0, 0))) : (w.setRow g cs).heap[g]? = some (.cells cs t (0, 0)) := setRow_heap w g old cs t (0, 0) h
theorem fo_setRow_ne {w : World} {g j : Nat} {cs : Array Value} (h : j ≠ g) : (w.setRow g cs).heap[j]? = w.heap[j]? := setRow_other w g j cs h
theorem fo_below {w W : World} {g : Nat} {cs : Array Value} (h : Below w.heap.size w W) (hg : w.heap.size ≤ g) : Below w.heap.size w (W.setRow g cs) :=
  h.trans ⟨rfl, rfl, rfl, by simp [World.setRow], fun k hk => fo_setRow_ne (by omega)⟩
theorem fo_store {P : Program} {ops : Array Oper} {rest : List Oper} {o : Oper} {a : Act} {Q : Exit → Act → World → Prop} {w W : World} (hgd : o.guard = none) (ty : TypeId) (x y : Operand) (ho : o.op = .store ty x y)
    (hd : o.dst = none) (g : Nat) (cells : Array Value) (hx : a.eval x = .pointer (some ⟨g, 0, none⟩)) (hy : a.eval y = .agg cells)
    (t : TypeId) (old : Array Value) (hg : W.heap[g]? = some (.cells old t (0, 0))) (hi : (P.info? ty).map (·.size) = some cells.size)
    (hold : old.size = cells.size) (h1 : cells.all (·.oneCell') = true) (hb : Below w.heap.size w W) (hgw : w.heap.size ≤ g)
    (h : ∀ w1 : World, w1.heap[g]? = some (.cells cells t (0, 0)) → Below w.heap.size w w1 → (∀ j, j ≠ g → w1.heap[j]? = W.heap[j]?) → wpList P ops Q rest a w1) : wpList P ops Q (o :: rest) a W :=
  wpList_store_row hgd ty x y ho g cells hx hy t old hg hi hold h1 (by rw [hd]; exact h _ (fo_setRow hg) (fo_below hb hgw) (fun j hj => fo_setRow_ne hj))

set_option maxHeartbeats 8000000 in
set_option maxRecDepth 100000 in
theorem fo_0 (w : World)  :
    Calls Try.prog 81 #[.int .i64 0] w fun e w' => e = .returned (.tuple #[.agg #[.int .i64 17, .int .i64 3, .int .i64 4], .bool true]) ∧ Below w.heap.size w w' := by
  have HB := Aside0.mk (Below.refl w.heap.size w)
  go_enter Try.func81, Try.ntmps81
  go_wp2_with (first | ((with_reducible refine gate_dst (N := 2) rfl ?_); refine box_event ?hg (N := 2) ?hd (cs := #[.int .i64 0, .int .i64 0, .int .i64 0]) (t := 50) ?hr ?_; (case hd => rfl); (case hg => rfl); (case hr => first | (go_simp; done) | (go_simp; rfl)); intro g2 hg wb2 hbox hb; have HB2 := Aside0.mk (below_step HB.out hb); have BK2 := Aside0.mk hbox; have GW2 := Aside0.mk (hg ▸ below_size HB.out : w.heap.size ≤ g2); clear HB; have HB := HB2; clear HB2 hb hbox hg) | ((with_reducible refine gate_dst (N := 4) rfl ?_); refine box_event ?hg (N := 4) ?hd (cs := #[.int .i64 0, .int .i64 0, .int .i64 0, .int .i64 0, .int .i64 0, .int .i64 0, .int .i64 0, .int .i64 0, .int .i64 0, .int .i64 0, .int .i64 0, .int .i64 0, .int .i64 0, .int .i64 0, .int .i64 0, .int .i64 0, .int .i64 0, .int .i64 0, .int .i64 0, .int .i64 0, .int .i64 0, .int .i64 0, .int .i64 0, .int .i64 0, .int .i64 0, .int .i64 0, .int .i64 0]) (t := 75) ?hr ?_; (case hd => rfl); (case hg => rfl); (case hr => first | (go_simp; done) | (go_simp; rfl)); intro g4 hg wb4 hbox hb; have BK2b := Aside0.mk (blk_below BK2.out hb); have NE := Aside0.mk (by rw [hg]; exact Nat.ne_of_lt (blk_lt BK2.out) : g2 ≠ g4); have HB4 := Aside0.mk (below_step HB.out hb); have BK4 := Aside0.mk hbox; have GW4 := Aside0.mk (hg ▸ below_size HB.out : w.heap.size ≤ g4); clear HB BK2; have HB := HB4; have BK2 := BK2b; clear HB4 BK2b hb hbox hg) | ((with_reducible refine gate_store (t := 75) (p := 4) rfl ?_); refine fo_store (w := w) rfl 75 (.tmp 4) (.tmp 14) rfl rfl g4 #[.int .i64 17, .int .i64 3, .int .i64 4, .int .i64 97, .int .i64 5, .int .i64 5, .int .i64 193, .int .i64 5, .int .i64 6, .int .i64 257, .int .i64 3, .int .i64 8, .int .i64 7681, .int .i64 17, .int .i64 9, .int .i64 12289, .int .i64 11, .int .i64 12, .int .i64 998244353, .int .i64 3, .int .i64 23, .int .i64 469762049, .int .i64 3, .int .i64 26, .int .i64 1004535809, .int .i64 3, .int .i64 21] rfl rfl 75 #[.int .i64 0, .int .i64 0, .int .i64 0, .int .i64 0, .int .i64 0, .int .i64 0, .int .i64 0, .int .i64 0, .int .i64 0, .int .i64 0, .int .i64 0, .int .i64 0, .int .i64 0, .int .i64 0, .int .i64 0, .int .i64 0, .int .i64 0, .int .i64 0, .int .i64 0, .int .i64 0, .int .i64 0, .int .i64 0, .int .i64 0, .int .i64 0, .int .i64 0, .int .i64 0, .int .i64 0] BK4.out (by kernel_rfl) (by kernel_rfl) (by kernel_rfl) HB.out GW4.out ?_; intro w5 hk hb5 hoth; have HB5 := Aside0.mk hb5; have BK2b := Aside0.mk ((hoth g2 NE.out).trans BK2.out); clear HB BK2 hb5 hoth; have HB := HB5; have BK2 := BK2b; clear HB5 BK2b; have c0 : w5.cell? ⟨g4, 0, none⟩ = some (.int .i64 17) := (blk_cell hk 0).trans rfl; have c1 : w5.cell? ⟨g4, 1, none⟩ = some (.int .i64 3) := (blk_cell hk 1).trans rfl; have c2 : w5.cell? ⟨g4, 2, none⟩ = some (.int .i64 4) := (blk_cell hk 2).trans rfl;  clear hk) | ((with_reducible refine gate_store (t := 50) (p := 2) rfl ?_); refine fo_store (w := w) rfl 50 (.tmp 2) (.tmp 24) rfl rfl g2 #[.int .i64 17, .int .i64 3, .int .i64 4] rfl rfl 50 #[.int .i64 0, .int .i64 0, .int .i64 0] BK2.out (by kernel_rfl) (by kernel_rfl) (by kernel_rfl) HB.out GW2.out ?_; intro w6 hk hb5 hoth; have HB5 := Aside0.mk hb5; have BK2b := Aside0.mk hk; clear HB BK2 hb5 hoth hk; have HB := HB5; have BK2 := BK2b; clear HB5 BK2b))
  refine bodyPost_ret (results_ct rfl _ _ g2 50 #[.int .i64 17, .int .i64 3, .int .i64 4] (0, 0) _ rfl BK2.out Try.underlying50 rfl (by kernel_rfl)) rfl ?_
  exact ⟨rfl, HB.out⟩

set_option maxHeartbeats 8000000 in
set_option maxRecDepth 100000 in
theorem fo_1 (w : World)  :
    Calls Try.prog 81 #[.int .i64 1] w fun e w' => e = .returned (.tuple #[.agg #[.int .i64 97, .int .i64 5, .int .i64 5], .bool true]) ∧ Below w.heap.size w w' := by
  have HB := Aside0.mk (Below.refl w.heap.size w)
  go_enter Try.func81, Try.ntmps81
  go_wp2_with (first | ((with_reducible refine gate_dst (N := 2) rfl ?_); refine box_event ?hg (N := 2) ?hd (cs := #[.int .i64 0, .int .i64 0, .int .i64 0]) (t := 50) ?hr ?_; (case hd => rfl); (case hg => rfl); (case hr => first | (go_simp; done) | (go_simp; rfl)); intro g2 hg wb2 hbox hb; have HB2 := Aside0.mk (below_step HB.out hb); have BK2 := Aside0.mk hbox; have GW2 := Aside0.mk (hg ▸ below_size HB.out : w.heap.size ≤ g2); clear HB; have HB := HB2; clear HB2 hb hbox hg) | ((with_reducible refine gate_dst (N := 4) rfl ?_); refine box_event ?hg (N := 4) ?hd (cs := #[.int .i64 0, .int .i64 0, .int .i64 0, .int .i64 0, .int .i64 0, .int .i64 0, .int .i64 0, .int .i64 0, .int .i64 0, .int .i64 0, .int .i64 0, .int .i64 0, .int .i64 0, .int .i64 0, .int .i64 0, .int .i64 0, .int .i64 0, .int .i64 0, .int .i64 0, .int .i64 0, .int .i64 0, .int .i64 0, .int .i64 0, .int .i64 0, .int .i64 0, .int .i64 0, .int .i64 0]) (t := 75) ?hr ?_; (case hd => rfl); (case hg => rfl); (case hr => first | (go_simp; done) | (go_simp; rfl)); intro g4 hg wb4 hbox hb; have BK2b := Aside0.mk (blk_below BK2.out hb); have NE := Aside0.mk (by rw [hg]; exact Nat.ne_of_lt (blk_lt BK2.out) : g2 ≠ g4); have HB4 := Aside0.mk (below_step HB.out hb); have BK4 := Aside0.mk hbox; have GW4 := Aside0.mk (hg ▸ below_size HB.out : w.heap.size ≤ g4); clear HB BK2; have HB := HB4; have BK2 := BK2b; clear HB4 BK2b hb hbox hg) | ((with_reducible refine gate_store (t := 75) (p := 4) rfl ?_); refine fo_store (w := w) rfl 75 (.tmp 4) (.tmp 14) rfl rfl g4 #[.int .i64 17, .int .i64 3, .int .i64 4, .int .i64 97, .int .i64 5, .int .i64 5, .int .i64 193, .int .i64 5, .int .i64 6, .int .i64 257, .int .i64 3, .int .i64 8, .int .i64 7681, .int .i64 17, .int .i64 9, .int .i64 12289, .int .i64 11, .int .i64 12, .int .i64 998244353, .int .i64 3, .int .i64 23, .int .i64 469762049, .int .i64 3, .int .i64 26, .int .i64 1004535809, .int .i64 3, .int .i64 21] rfl rfl 75 #[.int .i64 0, .int .i64 0, .int .i64 0, .int .i64 0, .int .i64 0, .int .i64 0, .int .i64 0, .int .i64 0, .int .i64 0, .int .i64 0, .int .i64 0, .int .i64 0, .int .i64 0, .int .i64 0, .int .i64 0, .int .i64 0, .int .i64 0, .int .i64 0, .int .i64 0, .int .i64 0, .int .i64 0, .int .i64 0, .int .i64 0, .int .i64 0, .int .i64 0, .int .i64 0, .int .i64 0] BK4.out (by kernel_rfl) (by kernel_rfl) (by kernel_rfl) HB.out GW4.out ?_; intro w5 hk hb5 hoth; have HB5 := Aside0.mk hb5; have BK2b := Aside0.mk ((hoth g2 NE.out).trans BK2.out); clear HB BK2 hb5 hoth; have HB := HB5; have BK2 := BK2b; clear HB5 BK2b; have c0 : w5.cell? ⟨g4, 3, none⟩ = some (.int .i64 97) := (blk_cell hk 3).trans rfl; have c1 : w5.cell? ⟨g4, 4, none⟩ = some (.int .i64 5) := (blk_cell hk 4).trans rfl; have c2 : w5.cell? ⟨g4, 5, none⟩ = some (.int .i64 5) := (blk_cell hk 5).trans rfl;  clear hk) | ((with_reducible refine gate_store (t := 50) (p := 2) rfl ?_); refine fo_store (w := w) rfl 50 (.tmp 2) (.tmp 24) rfl rfl g2 #[.int .i64 97, .int .i64 5, .int .i64 5] rfl rfl 50 #[.int .i64 0, .int .i64 0, .int .i64 0] BK2.out (by kernel_rfl) (by kernel_rfl) (by kernel_rfl) HB.out GW2.out ?_; intro w6 hk hb5 hoth; have HB5 := Aside0.mk hb5; have BK2b := Aside0.mk hk; clear HB BK2 hb5 hoth hk; have HB := HB5; have BK2 := BK2b; clear HB5 BK2b))
  refine bodyPost_ret (results_ct rfl _ _ g2 50 #[.int .i64 97, .int .i64 5, .int .i64 5] (0, 0) _ rfl BK2.out Try.underlying50 rfl (by kernel_rfl)) rfl ?_
  exact ⟨rfl, HB.out⟩

set_option maxHeartbeats 8000000 in
set_option maxRecDepth 100000 in
theorem fo_2 (w : World)  :
    Calls Try.prog 81 #[.int .i64 2] w fun e w' => e = .returned (.tuple #[.agg #[.int .i64 193, .int .i64 5, .int .i64 6], .bool true]) ∧ Below w.heap.size w w' := by
  have HB := Aside0.mk (Below.refl w.heap.size w)
  go_enter Try.func81, Try.ntmps81
  go_wp2_with (first | ((with_reducible refine gate_dst (N := 2) rfl ?_); refine box_event ?hg (N := 2) ?hd (cs := #[.int .i64 0, .int .i64 0, .int .i64 0]) (t := 50) ?hr ?_; (case hd => rfl); (case hg => rfl); (case hr => first | (go_simp; done) | (go_simp; rfl)); intro g2 hg wb2 hbox hb; have HB2 := Aside0.mk (below_step HB.out hb); have BK2 := Aside0.mk hbox; have GW2 := Aside0.mk (hg ▸ below_size HB.out : w.heap.size ≤ g2); clear HB; have HB := HB2; clear HB2 hb hbox hg) | ((with_reducible refine gate_dst (N := 4) rfl ?_); refine box_event ?hg (N := 4) ?hd (cs := #[.int .i64 0, .int .i64 0, .int .i64 0, .int .i64 0, .int .i64 0, .int .i64 0, .int .i64 0, .int .i64 0, .int .i64 0, .int .i64 0, .int .i64 0, .int .i64 0, .int .i64 0, .int .i64 0, .int .i64 0, .int .i64 0, .int .i64 0, .int .i64 0, .int .i64 0, .int .i64 0, .int .i64 0, .int .i64 0, .int .i64 0, .int .i64 0, .int .i64 0, .int .i64 0, .int .i64 0]) (t := 75) ?hr ?_; (case hd => rfl); (case hg => rfl); (case hr => first | (go_simp; done) | (go_simp; rfl)); intro g4 hg wb4 hbox hb; have BK2b := Aside0.mk (blk_below BK2.out hb); have NE := Aside0.mk (by rw [hg]; exact Nat.ne_of_lt (blk_lt BK2.out) : g2 ≠ g4); have HB4 := Aside0.mk (below_step HB.out hb); have BK4 := Aside0.mk hbox; have GW4 := Aside0.mk (hg ▸ below_size HB.out : w.heap.size ≤ g4); clear HB BK2; have HB := HB4; have BK2 := BK2b; clear HB4 BK2b hb hbox hg) | ((with_reducible refine gate_store (t := 75) (p := 4) rfl ?_); refine fo_store (w := w) rfl 75 (.tmp 4) (.tmp 14) rfl rfl g4 #[.int .i64 17, .int .i64 3, .int .i64 4, .int .i64 97, .int .i64 5, .int .i64 5, .int .i64 193, .int .i64 5, .int .i64 6, .int .i64 257, .int .i64 3, .int .i64 8, .int .i64 7681, .int .i64 17, .int .i64 9, .int .i64 12289, .int .i64 11, .int .i64 12, .int .i64 998244353, .int .i64 3, .int .i64 23, .int .i64 469762049, .int .i64 3, .int .i64 26, .int .i64 1004535809, .int .i64 3, .int .i64 21] rfl rfl 75 #[.int .i64 0, .int .i64 0, .int .i64 0, .int .i64 0, .int .i64 0, .int .i64 0, .int .i64 0, .int .i64 0, .int .i64 0, .int .i64 0, .int .i64 0, .int .i64 0, .int .i64 0, .int .i64 0, .int .i64 0, .int .i64 0, .int .i64 0, .int .i64 0, .int .i64 0, .int .i64 0, .int .i64 0, .int .i64 0, .int .i64 0, .int .i64 0, .int .i64 0, .int .i64 0, .int .i64 0] BK4.out (by kernel_rfl) (by kernel_rfl) (by kernel_rfl) HB.out GW4.out ?_; intro w5 hk hb5 hoth; have HB5 := Aside0.mk hb5; have BK2b := Aside0.mk ((hoth g2 NE.out).trans BK2.out); clear HB BK2 hb5 hoth; have HB := HB5; have BK2 := BK2b; clear HB5 BK2b; have c0 : w5.cell? ⟨g4, 6, none⟩ = some (.int .i64 193) := (blk_cell hk 6).trans rfl; have c1 : w5.cell? ⟨g4, 7, none⟩ = some (.int .i64 5) := (blk_cell hk 7).trans rfl; have c2 : w5.cell? ⟨g4, 8, none⟩ = some (.int .i64 6) := (blk_cell hk 8).trans rfl;  clear hk) | ((with_reducible refine gate_store (t := 50) (p := 2) rfl ?_); refine fo_store (w := w) rfl 50 (.tmp 2) (.tmp 24) rfl rfl g2 #[.int .i64 193, .int .i64 5, .int .i64 6] rfl rfl 50 #[.int .i64 0, .int .i64 0, .int .i64 0] BK2.out (by kernel_rfl) (by kernel_rfl) (by kernel_rfl) HB.out GW2.out ?_; intro w6 hk hb5 hoth; have HB5 := Aside0.mk hb5; have BK2b := Aside0.mk hk; clear HB BK2 hb5 hoth hk; have HB := HB5; have BK2 := BK2b; clear HB5 BK2b))
  refine bodyPost_ret (results_ct rfl _ _ g2 50 #[.int .i64 193, .int .i64 5, .int .i64 6] (0, 0) _ rfl BK2.out Try.underlying50 rfl (by kernel_rfl)) rfl ?_
  exact ⟨rfl, HB.out⟩

set_option maxHeartbeats 8000000 in
set_option maxRecDepth 100000 in
theorem fo_3 (w : World)  :
    Calls Try.prog 81 #[.int .i64 3] w fun e w' => e = .returned (.tuple #[.agg #[.int .i64 257, .int .i64 3, .int .i64 8], .bool true]) ∧ Below w.heap.size w w' := by
  have HB := Aside0.mk (Below.refl w.heap.size w)
  go_enter Try.func81, Try.ntmps81
  go_wp2_with (first | ((with_reducible refine gate_dst (N := 2) rfl ?_); refine box_event ?hg (N := 2) ?hd (cs := #[.int .i64 0, .int .i64 0, .int .i64 0]) (t := 50) ?hr ?_; (case hd => rfl); (case hg => rfl); (case hr => first | (go_simp; done) | (go_simp; rfl)); intro g2 hg wb2 hbox hb; have HB2 := Aside0.mk (below_step HB.out hb); have BK2 := Aside0.mk hbox; have GW2 := Aside0.mk (hg ▸ below_size HB.out : w.heap.size ≤ g2); clear HB; have HB := HB2; clear HB2 hb hbox hg) | ((with_reducible refine gate_dst (N := 4) rfl ?_); refine box_event ?hg (N := 4) ?hd (cs := #[.int .i64 0, .int .i64 0, .int .i64 0, .int .i64 0, .int .i64 0, .int .i64 0, .int .i64 0, .int .i64 0, .int .i64 0, .int .i64 0, .int .i64 0, .int .i64 0, .int .i64 0, .int .i64 0, .int .i64 0, .int .i64 0, .int .i64 0, .int .i64 0, .int .i64 0, .int .i64 0, .int .i64 0, .int .i64 0, .int .i64 0, .int .i64 0, .int .i64 0, .int .i64 0, .int .i64 0]) (t := 75) ?hr ?_; (case hd => rfl); (case hg => rfl); (case hr => first | (go_simp; done) | (go_simp; rfl)); intro g4 hg wb4 hbox hb; have BK2b := Aside0.mk (blk_below BK2.out hb); have NE := Aside0.mk (by rw [hg]; exact Nat.ne_of_lt (blk_lt BK2.out) : g2 ≠ g4); have HB4 := Aside0.mk (below_step HB.out hb); have BK4 := Aside0.mk hbox; have GW4 := Aside0.mk (hg ▸ below_size HB.out : w.heap.size ≤ g4); clear HB BK2; have HB := HB4; have BK2 := BK2b; clear HB4 BK2b hb hbox hg) | ((with_reducible refine gate_store (t := 75) (p := 4) rfl ?_); refine fo_store (w := w) rfl 75 (.tmp 4) (.tmp 14) rfl rfl g4 #[.int .i64 17, .int .i64 3, .int .i64 4, .int .i64 97, .int .i64 5, .int .i64 5, .int .i64 193, .int .i64 5, .int .i64 6, .int .i64 257, .int .i64 3, .int .i64 8, .int .i64 7681, .int .i64 17, .int .i64 9, .int .i64 12289, .int .i64 11, .int .i64 12, .int .i64 998244353, .int .i64 3, .int .i64 23, .int .i64 469762049, .int .i64 3, .int .i64 26, .int .i64 1004535809, .int .i64 3, .int .i64 21] rfl rfl 75 #[.int .i64 0, .int .i64 0, .int .i64 0, .int .i64 0, .int .i64 0, .int .i64 0, .int .i64 0, .int .i64 0, .int .i64 0, .int .i64 0, .int .i64 0, .int .i64 0, .int .i64 0, .int .i64 0, .int .i64 0, .int .i64 0, .int .i64 0, .int .i64 0, .int .i64 0, .int .i64 0, .int .i64 0, .int .i64 0, .int .i64 0, .int .i64 0, .int .i64 0, .int .i64 0, .int .i64 0] BK4.out (by kernel_rfl) (by kernel_rfl) (by kernel_rfl) HB.out GW4.out ?_; intro w5 hk hb5 hoth; have HB5 := Aside0.mk hb5; have BK2b := Aside0.mk ((hoth g2 NE.out).trans BK2.out); clear HB BK2 hb5 hoth; have HB := HB5; have BK2 := BK2b; clear HB5 BK2b; have c0 : w5.cell? ⟨g4, 9, none⟩ = some (.int .i64 257) := (blk_cell hk 9).trans rfl; have c1 : w5.cell? ⟨g4, 10, none⟩ = some (.int .i64 3) := (blk_cell hk 10).trans rfl; have c2 : w5.cell? ⟨g4, 11, none⟩ = some (.int .i64 8) := (blk_cell hk 11).trans rfl;  clear hk) | ((with_reducible refine gate_store (t := 50) (p := 2) rfl ?_); refine fo_store (w := w) rfl 50 (.tmp 2) (.tmp 24) rfl rfl g2 #[.int .i64 257, .int .i64 3, .int .i64 8] rfl rfl 50 #[.int .i64 0, .int .i64 0, .int .i64 0] BK2.out (by kernel_rfl) (by kernel_rfl) (by kernel_rfl) HB.out GW2.out ?_; intro w6 hk hb5 hoth; have HB5 := Aside0.mk hb5; have BK2b := Aside0.mk hk; clear HB BK2 hb5 hoth hk; have HB := HB5; have BK2 := BK2b; clear HB5 BK2b))
  refine bodyPost_ret (results_ct rfl _ _ g2 50 #[.int .i64 257, .int .i64 3, .int .i64 8] (0, 0) _ rfl BK2.out Try.underlying50 rfl (by kernel_rfl)) rfl ?_
  exact ⟨rfl, HB.out⟩

set_option maxHeartbeats 8000000 in
set_option maxRecDepth 100000 in
theorem fo_4 (w : World)  :
    Calls Try.prog 81 #[.int .i64 4] w fun e w' => e = .returned (.tuple #[.agg #[.int .i64 7681, .int .i64 17, .int .i64 9], .bool true]) ∧ Below w.heap.size w w' := by
  have HB := Aside0.mk (Below.refl w.heap.size w)
  go_enter Try.func81, Try.ntmps81
  go_wp2_with (first | ((with_reducible refine gate_dst (N := 2) rfl ?_); refine box_event ?hg (N := 2) ?hd (cs := #[.int .i64 0, .int .i64 0, .int .i64 0]) (t := 50) ?hr ?_; (case hd => rfl); (case hg => rfl); (case hr => first | (go_simp; done) | (go_simp; rfl)); intro g2 hg wb2 hbox hb; have HB2 := Aside0.mk (below_step HB.out hb); have BK2 := Aside0.mk hbox; have GW2 := Aside0.mk (hg ▸ below_size HB.out : w.heap.size ≤ g2); clear HB; have HB := HB2; clear HB2 hb hbox hg) | ((with_reducible refine gate_dst (N := 4) rfl ?_); refine box_event ?hg (N := 4) ?hd (cs := #[.int .i64 0, .int .i64 0, .int .i64 0, .int .i64 0, .int .i64 0, .int .i64 0, .int .i64 0, .int .i64 0, .int .i64 0, .int .i64 0, .int .i64 0, .int .i64 0, .int .i64 0, .int .i64 0, .int .i64 0, .int .i64 0, .int .i64 0, .int .i64 0, .int .i64 0, .int .i64 0, .int .i64 0, .int .i64 0, .int .i64 0, .int .i64 0, .int .i64 0, .int .i64 0, .int .i64 0]) (t := 75) ?hr ?_; (case hd => rfl); (case hg => rfl); (case hr => first | (go_simp; done) | (go_simp; rfl)); intro g4 hg wb4 hbox hb; have BK2b := Aside0.mk (blk_below BK2.out hb); have NE := Aside0.mk (by rw [hg]; exact Nat.ne_of_lt (blk_lt BK2.out) : g2 ≠ g4); have HB4 := Aside0.mk (below_step HB.out hb); have BK4 := Aside0.mk hbox; have GW4 := Aside0.mk (hg ▸ below_size HB.out : w.heap.size ≤ g4); clear HB BK2; have HB := HB4; have BK2 := BK2b; clear HB4 BK2b hb hbox hg) | ((with_reducible refine gate_store (t := 75) (p := 4) rfl ?_); refine fo_store (w := w) rfl 75 (.tmp 4) (.tmp 14) rfl rfl g4 #[.int .i64 17, .int .i64 3, .int .i64 4, .int .i64 97, .int .i64 5, .int .i64 5, .int .i64 193, .int .i64 5, .int .i64 6, .int .i64 257, .int .i64 3, .int .i64 8, .int .i64 7681, .int .i64 17, .int .i64 9, .int .i64 12289, .int .i64 11, .int .i64 12, .int .i64 998244353, .int .i64 3, .int .i64 23, .int .i64 469762049, .int .i64 3, .int .i64 26, .int .i64 1004535809, .int .i64 3, .int .i64 21] rfl rfl 75 #[.int .i64 0, .int .i64 0, .int .i64 0, .int .i64 0, .int .i64 0, .int .i64 0, .int .i64 0, .int .i64 0, .int .i64 0, .int .i64 0, .int .i64 0, .int .i64 0, .int .i64 0, .int .i64 0, .int .i64 0, .int .i64 0, .int .i64 0, .int .i64 0, .int .i64 0, .int .i64 0, .int .i64 0, .int .i64 0, .int .i64 0, .int .i64 0, .int .i64 0, .int .i64 0, .int .i64 0] BK4.out (by kernel_rfl) (by kernel_rfl) (by kernel_rfl) HB.out GW4.out ?_; intro w5 hk hb5 hoth; have HB5 := Aside0.mk hb5; have BK2b := Aside0.mk ((hoth g2 NE.out).trans BK2.out); clear HB BK2 hb5 hoth; have HB := HB5; have BK2 := BK2b; clear HB5 BK2b; have c0 : w5.cell? ⟨g4, 12, none⟩ = some (.int .i64 7681) := (blk_cell hk 12).trans rfl; have c1 : w5.cell? ⟨g4, 13, none⟩ = some (.int .i64 17) := (blk_cell hk 13).trans rfl; have c2 : w5.cell? ⟨g4, 14, none⟩ = some (.int .i64 9) := (blk_cell hk 14).trans rfl;  clear hk) | ((with_reducible refine gate_store (t := 50) (p := 2) rfl ?_); refine fo_store (w := w) rfl 50 (.tmp 2) (.tmp 24) rfl rfl g2 #[.int .i64 7681, .int .i64 17, .int .i64 9] rfl rfl 50 #[.int .i64 0, .int .i64 0, .int .i64 0] BK2.out (by kernel_rfl) (by kernel_rfl) (by kernel_rfl) HB.out GW2.out ?_; intro w6 hk hb5 hoth; have HB5 := Aside0.mk hb5; have BK2b := Aside0.mk hk; clear HB BK2 hb5 hoth hk; have HB := HB5; have BK2 := BK2b; clear HB5 BK2b))
  refine bodyPost_ret (results_ct rfl _ _ g2 50 #[.int .i64 7681, .int .i64 17, .int .i64 9] (0, 0) _ rfl BK2.out Try.underlying50 rfl (by kernel_rfl)) rfl ?_
  exact ⟨rfl, HB.out⟩

set_option maxHeartbeats 8000000 in
set_option maxRecDepth 100000 in
theorem fo_5 (w : World)  :
    Calls Try.prog 81 #[.int .i64 5] w fun e w' => e = .returned (.tuple #[.agg #[.int .i64 12289, .int .i64 11, .int .i64 12], .bool true]) ∧ Below w.heap.size w w' := by
  have HB := Aside0.mk (Below.refl w.heap.size w)
  go_enter Try.func81, Try.ntmps81
  go_wp2_with (first | ((with_reducible refine gate_dst (N := 2) rfl ?_); refine box_event ?hg (N := 2) ?hd (cs := #[.int .i64 0, .int .i64 0, .int .i64 0]) (t := 50) ?hr ?_; (case hd => rfl); (case hg => rfl); (case hr => first | (go_simp; done) | (go_simp; rfl)); intro g2 hg wb2 hbox hb; have HB2 := Aside0.mk (below_step HB.out hb); have BK2 := Aside0.mk hbox; have GW2 := Aside0.mk (hg ▸ below_size HB.out : w.heap.size ≤ g2); clear HB; have HB := HB2; clear HB2 hb hbox hg) | ((with_reducible refine gate_dst (N := 4) rfl ?_); refine box_event ?hg (N := 4) ?hd (cs := #[.int .i64 0, .int .i64 0, .int .i64 0, .int .i64 0, .int .i64 0, .int .i64 0, .int .i64 0, .int .i64 0, .int .i64 0, .int .i64 0, .int .i64 0, .int .i64 0, .int .i64 0, .int .i64 0, .int .i64 0, .int .i64 0, .int .i64 0, .int .i64 0, .int .i64 0, .int .i64 0, .int .i64 0, .int .i64 0, .int .i64 0, .int .i64 0, .int .i64 0, .int .i64 0, .int .i64 0]) (t := 75) ?hr ?_; (case hd => rfl); (case hg => rfl); (case hr => first | (go_simp; done) | (go_simp; rfl)); intro g4 hg wb4 hbox hb; have BK2b := Aside0.mk (blk_below BK2.out hb); have NE := Aside0.mk (by rw [hg]; exact Nat.ne_of_lt (blk_lt BK2.out) : g2 ≠ g4); have HB4 := Aside0.mk (below_step HB.out hb); have BK4 := Aside0.mk hbox; have GW4 := Aside0.mk (hg ▸ below_size HB.out : w.heap.size ≤ g4); clear HB BK2; have HB := HB4; have BK2 := BK2b; clear HB4 BK2b hb hbox hg) | ((with_reducible refine gate_store (t := 75) (p := 4) rfl ?_); refine fo_store (w := w) rfl 75 (.tmp 4) (.tmp 14) rfl rfl g4 #[.int .i64 17, .int .i64 3, .int .i64 4, .int .i64 97, .int .i64 5, .int .i64 5, .int .i64 193, .int .i64 5, .int .i64 6, .int .i64 257, .int .i64 3, .int .i64 8, .int .i64 7681, .int .i64 17, .int .i64 9, .int .i64 12289, .int .i64 11, .int .i64 12, .int .i64 998244353, .int .i64 3, .int .i64 23, .int .i64 469762049, .int .i64 3, .int .i64 26, .int .i64 1004535809, .int .i64 3, .int .i64 21] rfl rfl 75 #[.int .i64 0, .int .i64 0, .int .i64 0, .int .i64 0, .int .i64 0, .int .i64 0, .int .i64 0, .int .i64 0, .int .i64 0, .int .i64 0, .int .i64 0, .int .i64 0, .int .i64 0, .int .i64 0, .int .i64 0, .int .i64 0, .int .i64 0, .int .i64 0, .int .i64 0, .int .i64 0, .int .i64 0, .int .i64 0, .int .i64 0, .int .i64 0, .int .i64 0, .int .i64 0, .int .i64 0] BK4.out (by kernel_rfl) (by kernel_rfl) (by kernel_rfl) HB.out GW4.out ?_; intro w5 hk hb5 hoth; have HB5 := Aside0.mk hb5; have BK2b := Aside0.mk ((hoth g2 NE.out).trans BK2.out); clear HB BK2 hb5 hoth; have HB := HB5; have BK2 := BK2b; clear HB5 BK2b; have c0 : w5.cell? ⟨g4, 15, none⟩ = some (.int .i64 12289) := (blk_cell hk 15).trans rfl; have c1 : w5.cell? ⟨g4, 16, none⟩ = some (.int .i64 11) := (blk_cell hk 16).trans rfl; have c2 : w5.cell? ⟨g4, 17, none⟩ = some (.int .i64 12) := (blk_cell hk 17).trans rfl;  clear hk) | ((with_reducible refine gate_store (t := 50) (p := 2) rfl ?_); refine fo_store (w := w) rfl 50 (.tmp 2) (.tmp 24) rfl rfl g2 #[.int .i64 12289, .int .i64 11, .int .i64 12] rfl rfl 50 #[.int .i64 0, .int .i64 0, .int .i64 0] BK2.out (by kernel_rfl) (by kernel_rfl) (by kernel_rfl) HB.out GW2.out ?_; intro w6 hk hb5 hoth; have HB5 := Aside0.mk hb5; have BK2b := Aside0.mk hk; clear HB BK2 hb5 hoth hk; have HB := HB5; have BK2 := BK2b; clear HB5 BK2b))
  refine bodyPost_ret (results_ct rfl _ _ g2 50 #[.int .i64 12289, .int .i64 11, .int .i64 12] (0, 0) _ rfl BK2.out Try.underlying50 rfl (by kernel_rfl)) rfl ?_
  exact ⟨rfl, HB.out⟩

set_option maxHeartbeats 8000000 in
set_option maxRecDepth 100000 in
theorem fo_6 (w : World)  :
    Calls Try.prog 81 #[.int .i64 6] w fun e w' => e = .returned (.tuple #[.agg #[.int .i64 998244353, .int .i64 3, .int .i64 23], .bool true]) ∧ Below w.heap.size w w' := by
  have HB := Aside0.mk (Below.refl w.heap.size w)
  go_enter Try.func81, Try.ntmps81
  go_wp2_with (first | ((with_reducible refine gate_dst (N := 2) rfl ?_); refine box_event ?hg (N := 2) ?hd (cs := #[.int .i64 0, .int .i64 0, .int .i64 0]) (t := 50) ?hr ?_; (case hd => rfl); (case hg => rfl); (case hr => first | (go_simp; done) | (go_simp; rfl)); intro g2 hg wb2 hbox hb; have HB2 := Aside0.mk (below_step HB.out hb); have BK2 := Aside0.mk hbox; have GW2 := Aside0.mk (hg ▸ below_size HB.out : w.heap.size ≤ g2); clear HB; have HB := HB2; clear HB2 hb hbox hg) | ((with_reducible refine gate_dst (N := 4) rfl ?_); refine box_event ?hg (N := 4) ?hd (cs := #[.int .i64 0, .int .i64 0, .int .i64 0, .int .i64 0, .int .i64 0, .int .i64 0, .int .i64 0, .int .i64 0, .int .i64 0, .int .i64 0, .int .i64 0, .int .i64 0, .int .i64 0, .int .i64 0, .int .i64 0, .int .i64 0, .int .i64 0, .int .i64 0, .int .i64 0, .int .i64 0, .int .i64 0, .int .i64 0, .int .i64 0, .int .i64 0, .int .i64 0, .int .i64 0, .int .i64 0]) (t := 75) ?hr ?_; (case hd => rfl); (case hg => rfl); (case hr => first | (go_simp; done) | (go_simp; rfl)); intro g4 hg wb4 hbox hb; have BK2b := Aside0.mk (blk_below BK2.out hb); have NE := Aside0.mk (by rw [hg]; exact Nat.ne_of_lt (blk_lt BK2.out) : g2 ≠ g4); have HB4 := Aside0.mk (below_step HB.out hb); have BK4 := Aside0.mk hbox; have GW4 := Aside0.mk (hg ▸ below_size HB.out : w.heap.size ≤ g4); clear HB BK2; have HB := HB4; have BK2 := BK2b; clear HB4 BK2b hb hbox hg) | ((with_reducible refine gate_store (t := 75) (p := 4) rfl ?_); refine fo_store (w := w) rfl 75 (.tmp 4) (.tmp 14) rfl rfl g4 #[.int .i64 17, .int .i64 3, .int .i64 4, .int .i64 97, .int .i64 5, .int .i64 5, .int .i64 193, .int .i64 5, .int .i64 6, .int .i64 257, .int .i64 3, .int .i64 8, .int .i64 7681, .int .i64 17, .int .i64 9, .int .i64 12289, .int .i64 11, .int .i64 12, .int .i64 998244353, .int .i64 3, .int .i64 23, .int .i64 469762049, .int .i64 3, .int .i64 26, .int .i64 1004535809, .int .i64 3, .int .i64 21] rfl rfl 75 #[.int .i64 0, .int .i64 0, .int .i64 0, .int .i64 0, .int .i64 0, .int .i64 0, .int .i64 0, .int .i64 0, .int .i64 0, .int .i64 0, .int .i64 0, .int .i64 0, .int .i64 0, .int .i64 0, .int .i64 0, .int .i64 0, .int .i64 0, .int .i64 0, .int .i64 0, .int .i64 0, .int .i64 0, .int .i64 0, .int .i64 0, .int .i64 0, .int .i64 0, .int .i64 0, .int .i64 0] BK4.out (by kernel_rfl) (by kernel_rfl) (by kernel_rfl) HB.out GW4.out ?_; intro w5 hk hb5 hoth; have HB5 := Aside0.mk hb5; have BK2b := Aside0.mk ((hoth g2 NE.out).trans BK2.out); clear HB BK2 hb5 hoth; have HB := HB5; have BK2 := BK2b; clear HB5 BK2b; have c0 : w5.cell? ⟨g4, 18, none⟩ = some (.int .i64 998244353) := (blk_cell hk 18).trans rfl; have c1 : w5.cell? ⟨g4, 19, none⟩ = some (.int .i64 3) := (blk_cell hk 19).trans rfl; have c2 : w5.cell? ⟨g4, 20, none⟩ = some (.int .i64 23) := (blk_cell hk 20).trans rfl;  clear hk) | ((with_reducible refine gate_store (t := 50) (p := 2) rfl ?_); refine fo_store (w := w) rfl 50 (.tmp 2) (.tmp 24) rfl rfl g2 #[.int .i64 998244353, .int .i64 3, .int .i64 23] rfl rfl 50 #[.int .i64 0, .int .i64 0, .int .i64 0] BK2.out (by kernel_rfl) (by kernel_rfl) (by kernel_rfl) HB.out GW2.out ?_; intro w6 hk hb5 hoth; have HB5 := Aside0.mk hb5; have BK2b := Aside0.mk hk; clear HB BK2 hb5 hoth hk; have HB := HB5; have BK2 := BK2b; clear HB5 BK2b))
  refine bodyPost_ret (results_ct rfl _ _ g2 50 #[.int .i64 998244353, .int .i64 3, .int .i64 23] (0, 0) _ rfl BK2.out Try.underlying50 rfl (by kernel_rfl)) rfl ?_
  exact ⟨rfl, HB.out⟩

set_option maxHeartbeats 8000000 in
set_option maxRecDepth 100000 in
theorem fo_7 (w : World)  :
    Calls Try.prog 81 #[.int .i64 7] w fun e w' => e = .returned (.tuple #[.agg #[.int .i64 469762049, .int .i64 3, .int .i64 26], .bool true]) ∧ Below w.heap.size w w' := by
  have HB := Aside0.mk (Below.refl w.heap.size w)
  go_enter Try.func81, Try.ntmps81
  go_wp2_with (first | ((with_reducible refine gate_dst (N := 2) rfl ?_); refine box_event ?hg (N := 2) ?hd (cs := #[.int .i64 0, .int .i64 0, .int .i64 0]) (t := 50) ?hr ?_; (case hd => rfl); (case hg => rfl); (case hr => first | (go_simp; done) | (go_simp; rfl)); intro g2 hg wb2 hbox hb; have HB2 := Aside0.mk (below_step HB.out hb); have BK2 := Aside0.mk hbox; have GW2 := Aside0.mk (hg ▸ below_size HB.out : w.heap.size ≤ g2); clear HB; have HB := HB2; clear HB2 hb hbox hg) | ((with_reducible refine gate_dst (N := 4) rfl ?_); refine box_event ?hg (N := 4) ?hd (cs := #[.int .i64 0, .int .i64 0, .int .i64 0, .int .i64 0, .int .i64 0, .int .i64 0, .int .i64 0, .int .i64 0, .int .i64 0, .int .i64 0, .int .i64 0, .int .i64 0, .int .i64 0, .int .i64 0, .int .i64 0, .int .i64 0, .int .i64 0, .int .i64 0, .int .i64 0, .int .i64 0, .int .i64 0, .int .i64 0, .int .i64 0, .int .i64 0, .int .i64 0, .int .i64 0, .int .i64 0]) (t := 75) ?hr ?_; (case hd => rfl); (case hg => rfl); (case hr => first | (go_simp; done) | (go_simp; rfl)); intro g4 hg wb4 hbox hb; have BK2b := Aside0.mk (blk_below BK2.out hb); have NE := Aside0.mk (by rw [hg]; exact Nat.ne_of_lt (blk_lt BK2.out) : g2 ≠ g4); have HB4 := Aside0.mk (below_step HB.out hb); have BK4 := Aside0.mk hbox; have GW4 := Aside0.mk (hg ▸ below_size HB.out : w.heap.size ≤ g4); clear HB BK2; have HB := HB4; have BK2 := BK2b; clear HB4 BK2b hb hbox hg) | ((with_reducible refine gate_store (t := 75) (p := 4) rfl ?_); refine fo_store (w := w) rfl 75 (.tmp 4) (.tmp 14) rfl rfl g4 #[.int .i64 17, .int .i64 3, .int .i64 4, .int .i64 97, .int .i64 5, .int .i64 5, .int .i64 193, .int .i64 5, .int .i64 6, .int .i64 257, .int .i64 3, .int .i64 8, .int .i64 7681, .int .i64 17, .int .i64 9, .int .i64 12289, .int .i64 11, .int .i64 12, .int .i64 998244353, .int .i64 3, .int .i64 23, .int .i64 469762049, .int .i64 3, .int .i64 26, .int .i64 1004535809, .int .i64 3, .int .i64 21] rfl rfl 75 #[.int .i64 0, .int .i64 0, .int .i64 0, .int .i64 0, .int .i64 0, .int .i64 0, .int .i64 0, .int .i64 0, .int .i64 0, .int .i64 0, .int .i64 0, .int .i64 0, .int .i64 0, .int .i64 0, .int .i64 0, .int .i64 0, .int .i64 0, .int .i64 0, .int .i64 0, .int .i64 0, .int .i64 0, .int .i64 0, .int .i64 0, .int .i64 0, .int .i64 0, .int .i64 0, .int .i64 0] BK4.out (by kernel_rfl) (by kernel_rfl) (by kernel_rfl) HB.out GW4.out ?_; intro w5 hk hb5 hoth; have HB5 := Aside0.mk hb5; have BK2b := Aside0.mk ((hoth g2 NE.out).trans BK2.out); clear HB BK2 hb5 hoth; have HB := HB5; have BK2 := BK2b; clear HB5 BK2b; have c0 : w5.cell? ⟨g4, 21, none⟩ = some (.int .i64 469762049) := (blk_cell hk 21).trans rfl; have c1 : w5.cell? ⟨g4, 22, none⟩ = some (.int .i64 3) := (blk_cell hk 22).trans rfl; have c2 : w5.cell? ⟨g4, 23, none⟩ = some (.int .i64 26) := (blk_cell hk 23).trans rfl;  clear hk) | ((with_reducible refine gate_store (t := 50) (p := 2) rfl ?_); refine fo_store (w := w) rfl 50 (.tmp 2) (.tmp 24) rfl rfl g2 #[.int .i64 469762049, .int .i64 3, .int .i64 26] rfl rfl 50 #[.int .i64 0, .int .i64 0, .int .i64 0] BK2.out (by kernel_rfl) (by kernel_rfl) (by kernel_rfl) HB.out GW2.out ?_; intro w6 hk hb5 hoth; have HB5 := Aside0.mk hb5; have BK2b := Aside0.mk hk; clear HB BK2 hb5 hoth hk; have HB := HB5; have BK2 := BK2b; clear HB5 BK2b))
  refine bodyPost_ret (results_ct rfl _ _ g2 50 #[.int .i64 469762049, .int .i64 3, .int .i64 26] (0, 0) _ rfl BK2.out Try.underlying50 rfl (by kernel_rfl)) rfl ?_
  exact ⟨rfl, HB.out⟩

set_option maxHeartbeats 8000000 in
set_option maxRecDepth 100000 in
theorem fo_8 (w : World)  :
    Calls Try.prog 81 #[.int .i64 8] w fun e w' => e = .returned (.tuple #[.agg #[.int .i64 1004535809, .int .i64 3, .int .i64 21], .bool true]) ∧ Below w.heap.size w w' := by
  have HB := Aside0.mk (Below.refl w.heap.size w)
  go_enter Try.func81, Try.ntmps81
  go_wp2_with (first | ((with_reducible refine gate_dst (N := 2) rfl ?_); refine box_event ?hg (N := 2) ?hd (cs := #[.int .i64 0, .int .i64 0, .int .i64 0]) (t := 50) ?hr ?_; (case hd => rfl); (case hg => rfl); (case hr => first | (go_simp; done) | (go_simp; rfl)); intro g2 hg wb2 hbox hb; have HB2 := Aside0.mk (below_step HB.out hb); have BK2 := Aside0.mk hbox; have GW2 := Aside0.mk (hg ▸ below_size HB.out : w.heap.size ≤ g2); clear HB; have HB := HB2; clear HB2 hb hbox hg) | ((with_reducible refine gate_dst (N := 4) rfl ?_); refine box_event ?hg (N := 4) ?hd (cs := #[.int .i64 0, .int .i64 0, .int .i64 0, .int .i64 0, .int .i64 0, .int .i64 0, .int .i64 0, .int .i64 0, .int .i64 0, .int .i64 0, .int .i64 0, .int .i64 0, .int .i64 0, .int .i64 0, .int .i64 0, .int .i64 0, .int .i64 0, .int .i64 0, .int .i64 0, .int .i64 0, .int .i64 0, .int .i64 0, .int .i64 0, .int .i64 0, .int .i64 0, .int .i64 0, .int .i64 0]) (t := 75) ?hr ?_; (case hd => rfl); (case hg => rfl); (case hr => first | (go_simp; done) | (go_simp; rfl)); intro g4 hg wb4 hbox hb; have BK2b := Aside0.mk (blk_below BK2.out hb); have NE := Aside0.mk (by rw [hg]; exact Nat.ne_of_lt (blk_lt BK2.out) : g2 ≠ g4); have HB4 := Aside0.mk (below_step HB.out hb); have BK4 := Aside0.mk hbox; have GW4 := Aside0.mk (hg ▸ below_size HB.out : w.heap.size ≤ g4); clear HB BK2; have HB := HB4; have BK2 := BK2b; clear HB4 BK2b hb hbox hg) | ((with_reducible refine gate_store (t := 75) (p := 4) rfl ?_); refine fo_store (w := w) rfl 75 (.tmp 4) (.tmp 14) rfl rfl g4 #[.int .i64 17, .int .i64 3, .int .i64 4, .int .i64 97, .int .i64 5, .int .i64 5, .int .i64 193, .int .i64 5, .int .i64 6, .int .i64 257, .int .i64 3, .int .i64 8, .int .i64 7681, .int .i64 17, .int .i64 9, .int .i64 12289, .int .i64 11, .int .i64 12, .int .i64 998244353, .int .i64 3, .int .i64 23, .int .i64 469762049, .int .i64 3, .int .i64 26, .int .i64 1004535809, .int .i64 3, .int .i64 21] rfl rfl 75 #[.int .i64 0, .int .i64 0, .int .i64 0, .int .i64 0, .int .i64 0, .int .i64 0, .int .i64 0, .int .i64 0, .int .i64 0, .int .i64 0, .int .i64 0, .int .i64 0, .int .i64 0, .int .i64 0, .int .i64 0, .int .i64 0, .int .i64 0, .int .i64 0, .int .i64 0, .int .i64 0, .int .i64 0, .int .i64 0, .int .i64 0, .int .i64 0, .int .i64 0, .int .i64 0, .int .i64 0] BK4.out (by kernel_rfl) (by kernel_rfl) (by kernel_rfl) HB.out GW4.out ?_; intro w5 hk hb5 hoth; have HB5 := Aside0.mk hb5; have BK2b := Aside0.mk ((hoth g2 NE.out).trans BK2.out); clear HB BK2 hb5 hoth; have HB := HB5; have BK2 := BK2b; clear HB5 BK2b; have c0 : w5.cell? ⟨g4, 24, none⟩ = some (.int .i64 1004535809) := (blk_cell hk 24).trans rfl; have c1 : w5.cell? ⟨g4, 25, none⟩ = some (.int .i64 3) := (blk_cell hk 25).trans rfl; have c2 : w5.cell? ⟨g4, 26, none⟩ = some (.int .i64 21) := (blk_cell hk 26).trans rfl;  clear hk) | ((with_reducible refine gate_store (t := 50) (p := 2) rfl ?_); refine fo_store (w := w) rfl 50 (.tmp 2) (.tmp 24) rfl rfl g2 #[.int .i64 1004535809, .int .i64 3, .int .i64 21] rfl rfl 50 #[.int .i64 0, .int .i64 0, .int .i64 0] BK2.out (by kernel_rfl) (by kernel_rfl) (by kernel_rfl) HB.out GW2.out ?_; intro w6 hk hb5 hoth; have HB5 := Aside0.mk hb5; have BK2b := Aside0.mk hk; clear HB BK2 hb5 hoth hk; have HB := HB5; have BK2 := BK2b; clear HB5 BK2b))
  refine bodyPost_ret (results_ct rfl _ _ g2 50 #[.int .i64 1004535809, .int .i64 3, .int .i64 21] (0, 0) _ rfl BK2.out Try.underlying50 rfl (by kernel_rfl)) rfl ?_
  exact ⟨rfl, HB.out⟩

set_option maxHeartbeats 8000000 in
set_option maxRecDepth 100000 in
theorem fo_neg (w : World) (a0 : Int) (h : a0 < 0) :
    Calls Try.prog 81 #[.int .i64 a0] w fun e w' => e = .returned (.tuple #[.agg #[.int .i64 0, .int .i64 0, .int .i64 0], .bool false]) ∧ Below w.heap.size w w' := by
  have HB := Aside0.mk (Below.refl w.heap.size w)
  have c2b0 : decide (a0 < 0) = true := decide_eq_true h
  go_enter Try.func81, Try.ntmps81
  go_wp2_with (first | ((with_reducible refine gate_dst (N := 2) rfl ?_); refine box_event ?hg (N := 2) ?hd (cs := #[.int .i64 0, .int .i64 0, .int .i64 0]) (t := 50) ?hr ?_; (case hd => rfl); (case hg => rfl); (case hr => first | (go_simp; done) | (go_simp; rfl)); intro g2 hg wb2 hbox hb; have HB2 := Aside0.mk (below_step HB.out hb); have BK2 := Aside0.mk hbox; have GW2 := Aside0.mk (hg ▸ below_size HB.out : w.heap.size ≤ g2); clear HB; have HB := HB2; clear HB2 hb hbox hg) | ((with_reducible refine gate_dst (N := 4) rfl ?_); refine box_event ?hg (N := 4) ?hd (cs := #[.int .i64 0, .int .i64 0, .int .i64 0, .int .i64 0, .int .i64 0, .int .i64 0, .int .i64 0, .int .i64 0, .int .i64 0, .int .i64 0, .int .i64 0, .int .i64 0, .int .i64 0, .int .i64 0, .int .i64 0, .int .i64 0, .int .i64 0, .int .i64 0, .int .i64 0, .int .i64 0, .int .i64 0, .int .i64 0, .int .i64 0, .int .i64 0, .int .i64 0, .int .i64 0, .int .i64 0]) (t := 75) ?hr ?_; (case hd => rfl); (case hg => rfl); (case hr => first | (go_simp; done) | (go_simp; rfl)); intro g4 hg wb4 hbox hb; have BK2b := Aside0.mk (blk_below BK2.out hb); have NE := Aside0.mk (by rw [hg]; exact Nat.ne_of_lt (blk_lt BK2.out) : g2 ≠ g4); have HB4 := Aside0.mk (below_step HB.out hb); have BK4 := Aside0.mk hbox; have GW4 := Aside0.mk (hg ▸ below_size HB.out : w.heap.size ≤ g4); clear HB BK2; have HB := HB4; have BK2 := BK2b; clear HB4 BK2b hb hbox hg) | ((with_reducible refine gate_store (t := 75) (p := 4) rfl ?_); refine fo_store (w := w) rfl 75 (.tmp 4) (.tmp 14) rfl rfl g4 #[.int .i64 17, .int .i64 3, .int .i64 4, .int .i64 97, .int .i64 5, .int .i64 5, .int .i64 193, .int .i64 5, .int .i64 6, .int .i64 257, .int .i64 3, .int .i64 8, .int .i64 7681, .int .i64 17, .int .i64 9, .int .i64 12289, .int .i64 11, .int .i64 12, .int .i64 998244353, .int .i64 3, .int .i64 23, .int .i64 469762049, .int .i64 3, .int .i64 26, .int .i64 1004535809, .int .i64 3, .int .i64 21] rfl rfl 75 #[.int .i64 0, .int .i64 0, .int .i64 0, .int .i64 0, .int .i64 0, .int .i64 0, .int .i64 0, .int .i64 0, .int .i64 0, .int .i64 0, .int .i64 0, .int .i64 0, .int .i64 0, .int .i64 0, .int .i64 0, .int .i64 0, .int .i64 0, .int .i64 0, .int .i64 0, .int .i64 0, .int .i64 0, .int .i64 0, .int .i64 0, .int .i64 0, .int .i64 0, .int .i64 0, .int .i64 0] BK4.out (by kernel_rfl) (by kernel_rfl) (by kernel_rfl) HB.out GW4.out ?_; intro w5 hk hb5 hoth; have HB5 := Aside0.mk hb5; have BK2b := Aside0.mk ((hoth g2 NE.out).trans BK2.out); clear HB BK2 hb5 hoth; have HB := HB5; have BK2 := BK2b; clear HB5 BK2b;  clear hk) | ((with_reducible refine gate_store (t := 50) (p := 2) rfl ?_); refine fo_store (w := w) rfl 50 (.tmp 2) (.tmp 21) rfl rfl g2 #[.int .i64 0, .int .i64 0, .int .i64 0] rfl rfl 50 #[.int .i64 0, .int .i64 0, .int .i64 0] BK2.out (by kernel_rfl) (by kernel_rfl) (by kernel_rfl) HB.out GW2.out ?_; intro w6 hk hb5 hoth; have HB5 := Aside0.mk hb5; have BK2b := Aside0.mk hk; clear HB BK2 hb5 hoth hk; have HB := HB5; have BK2 := BK2b; clear HB5 BK2b))
  refine bodyPost_ret (results_ct rfl _ _ g2 50 #[.int .i64 0, .int .i64 0, .int .i64 0] (0, 0) _ rfl BK2.out Try.underlying50 rfl (by kernel_rfl)) rfl ?_
  exact ⟨rfl, HB.out⟩

set_option maxHeartbeats 8000000 in
set_option maxRecDepth 100000 in
theorem fo_big (w : World) (a0 : Int) (h : a0 ≥ 9) :
    Calls Try.prog 81 #[.int .i64 a0] w fun e w' => e = .returned (.tuple #[.agg #[.int .i64 0, .int .i64 0, .int .i64 0], .bool false]) ∧ Below w.heap.size w w' := by
  have HB := Aside0.mk (Below.refl w.heap.size w)
  have c2b0 : decide (a0 < 0) = false := decide_eq_false (by omega)
  have c5b0 : decide (9 ≤ a0) = true := decide_eq_true h
  go_enter Try.func81, Try.ntmps81
  go_wp2_with (first | ((with_reducible refine gate_dst (N := 2) rfl ?_); refine box_event ?hg (N := 2) ?hd (cs := #[.int .i64 0, .int .i64 0, .int .i64 0]) (t := 50) ?hr ?_; (case hd => rfl); (case hg => rfl); (case hr => first | (go_simp; done) | (go_simp; rfl)); intro g2 hg wb2 hbox hb; have HB2 := Aside0.mk (below_step HB.out hb); have BK2 := Aside0.mk hbox; have GW2 := Aside0.mk (hg ▸ below_size HB.out : w.heap.size ≤ g2); clear HB; have HB := HB2; clear HB2 hb hbox hg) | ((with_reducible refine gate_dst (N := 4) rfl ?_); refine box_event ?hg (N := 4) ?hd (cs := #[.int .i64 0, .int .i64 0, .int .i64 0, .int .i64 0, .int .i64 0, .int .i64 0, .int .i64 0, .int .i64 0, .int .i64 0, .int .i64 0, .int .i64 0, .int .i64 0, .int .i64 0, .int .i64 0, .int .i64 0, .int .i64 0, .int .i64 0, .int .i64 0, .int .i64 0, .int .i64 0, .int .i64 0, .int .i64 0, .int .i64 0, .int .i64 0, .int .i64 0, .int .i64 0, .int .i64 0]) (t := 75) ?hr ?_; (case hd => rfl); (case hg => rfl); (case hr => first | (go_simp; done) | (go_simp; rfl)); intro g4 hg wb4 hbox hb; have BK2b := Aside0.mk (blk_below BK2.out hb); have NE := Aside0.mk (by rw [hg]; exact Nat.ne_of_lt (blk_lt BK2.out) : g2 ≠ g4); have HB4 := Aside0.mk (below_step HB.out hb); have BK4 := Aside0.mk hbox; have GW4 := Aside0.mk (hg ▸ below_size HB.out : w.heap.size ≤ g4); clear HB BK2; have HB := HB4; have BK2 := BK2b; clear HB4 BK2b hb hbox hg) | ((with_reducible refine gate_store (t := 75) (p := 4) rfl ?_); refine fo_store (w := w) rfl 75 (.tmp 4) (.tmp 14) rfl rfl g4 #[.int .i64 17, .int .i64 3, .int .i64 4, .int .i64 97, .int .i64 5, .int .i64 5, .int .i64 193, .int .i64 5, .int .i64 6, .int .i64 257, .int .i64 3, .int .i64 8, .int .i64 7681, .int .i64 17, .int .i64 9, .int .i64 12289, .int .i64 11, .int .i64 12, .int .i64 998244353, .int .i64 3, .int .i64 23, .int .i64 469762049, .int .i64 3, .int .i64 26, .int .i64 1004535809, .int .i64 3, .int .i64 21] rfl rfl 75 #[.int .i64 0, .int .i64 0, .int .i64 0, .int .i64 0, .int .i64 0, .int .i64 0, .int .i64 0, .int .i64 0, .int .i64 0, .int .i64 0, .int .i64 0, .int .i64 0, .int .i64 0, .int .i64 0, .int .i64 0, .int .i64 0, .int .i64 0, .int .i64 0, .int .i64 0, .int .i64 0, .int .i64 0, .int .i64 0, .int .i64 0, .int .i64 0, .int .i64 0, .int .i64 0, .int .i64 0] BK4.out (by kernel_rfl) (by kernel_rfl) (by kernel_rfl) HB.out GW4.out ?_; intro w5 hk hb5 hoth; have HB5 := Aside0.mk hb5; have BK2b := Aside0.mk ((hoth g2 NE.out).trans BK2.out); clear HB BK2 hb5 hoth; have HB := HB5; have BK2 := BK2b; clear HB5 BK2b;  clear hk) | ((with_reducible refine gate_store (t := 50) (p := 2) rfl ?_); refine fo_store (w := w) rfl 50 (.tmp 2) (.tmp 21) rfl rfl g2 #[.int .i64 0, .int .i64 0, .int .i64 0] rfl rfl 50 #[.int .i64 0, .int .i64 0, .int .i64 0] BK2.out (by kernel_rfl) (by kernel_rfl) (by kernel_rfl) HB.out GW2.out ?_; intro w6 hk hb5 hoth; have HB5 := Aside0.mk hb5; have BK2b := Aside0.mk hk; clear HB BK2 hb5 hoth hk; have HB := HB5; have BK2 := BK2b; clear HB5 BK2b))
  refine bodyPost_ret (results_ct rfl _ _ g2 50 #[.int .i64 0, .int .i64 0, .int .i64 0] (0, 0) _ rfl BK2.out Try.underlying50 rfl (by kernel_rfl)) rfl ?_
  exact ⟨rfl, HB.out⟩

theorem impl_fieldOf.calls (a0 : Int) (r1 : Int) (r2 : Int) (r3 : Int) (r4 : Bool) (w : World) (h : impl_fieldOf.f a0 = some (r1, r2, r3, r4)) :
    Calls Try.prog 81 #[.int .i64 a0] w fun e w' => e = .returned (.tuple #[.agg #[.int .i64 r1, .int .i64 r2, .int .i64 r3], .bool r4]) ∧ Below w.heap.size w w' := by
  unfold impl_fieldOf.f at h
  by_cases c : a0 < 0
  · rw [if_pos c] at h
    simp only [Option.some.injEq, Prod.mk.injEq] at h
    obtain ⟨rfl, rfl, rfl, rfl⟩ := h
    exact fo_neg w a0 c
  · rw [if_neg c] at h
    have n_fo_neg := c
    clear c
    by_cases c : a0 ≥ 9
    · rw [if_pos c] at h
      simp only [Option.some.injEq, Prod.mk.injEq] at h
      obtain ⟨rfl, rfl, rfl, rfl⟩ := h
      exact fo_big w a0 c
    · rw [if_neg c] at h
      have n_fo_big := c
      clear c
      by_cases c : a0 = 0
      · rw [if_pos c] at h
        simp only [Option.some.injEq, Prod.mk.injEq] at h
        obtain ⟨rfl, rfl, rfl, rfl⟩ := h
        subst c
        exact fo_0 w
      · rw [if_neg c] at h
        have n_fo_0 := c
        clear c
        by_cases c : a0 = 1
        · rw [if_pos c] at h
          simp only [Option.some.injEq, Prod.mk.injEq] at h
          obtain ⟨rfl, rfl, rfl, rfl⟩ := h
          subst c
          exact fo_1 w
        · rw [if_neg c] at h
          have n_fo_1 := c
          clear c
          by_cases c : a0 = 2
          · rw [if_pos c] at h
            simp only [Option.some.injEq, Prod.mk.injEq] at h
            obtain ⟨rfl, rfl, rfl, rfl⟩ := h
            subst c
            exact fo_2 w
          · rw [if_neg c] at h
            have n_fo_2 := c
            clear c
            by_cases c : a0 = 3
            · rw [if_pos c] at h
              simp only [Option.some.injEq, Prod.mk.injEq] at h
              obtain ⟨rfl, rfl, rfl, rfl⟩ := h
              subst c
              exact fo_3 w
            · rw [if_neg c] at h
              have n_fo_3 := c
              clear c
              by_cases c : a0 = 4
              · rw [if_pos c] at h
                simp only [Option.some.injEq, Prod.mk.injEq] at h
                obtain ⟨rfl, rfl, rfl, rfl⟩ := h
                subst c
                exact fo_4 w
              · rw [if_neg c] at h
                have n_fo_4 := c
                clear c
                by_cases c : a0 = 5
                · rw [if_pos c] at h
                  simp only [Option.some.injEq, Prod.mk.injEq] at h
                  obtain ⟨rfl, rfl, rfl, rfl⟩ := h
                  subst c
                  exact fo_5 w
                · rw [if_neg c] at h
                  have n_fo_5 := c
                  clear c
                  by_cases c : a0 = 6
                  · rw [if_pos c] at h
                    simp only [Option.some.injEq, Prod.mk.injEq] at h
                    obtain ⟨rfl, rfl, rfl, rfl⟩ := h
                    subst c
                    exact fo_6 w
                  · rw [if_neg c] at h
                    have n_fo_6 := c
                    clear c
                    by_cases c : a0 = 7
                    · rw [if_pos c] at h
                      simp only [Option.some.injEq, Prod.mk.injEq] at h
                      obtain ⟨rfl, rfl, rfl, rfl⟩ := h
                      subst c
                      exact fo_7 w
                    · rw [if_neg c] at h
                      have n_fo_7 := c
                      clear c
                      simp only [Option.some.injEq, Prod.mk.injEq] at h
                      obtain ⟨rfl, rfl, rfl, rfl⟩ := h
                      obtain rfl : a0 = 8 := by omega
                      exact fo_8 w

end Go.Proofs.Ytcmhifpbpdbfhaa.PFnExactJoined
