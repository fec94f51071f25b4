/- FnExactDiffer returns true for every two lists: both count the indices at which the lists differ. -/
import Derived.Test.YtcmhifpbpdbfhaaPFnExactDifferx2
import Derived.Test.YtcmhifpbpdbfhaaGB
import Derived.Test.YtcmhifpbpdbfhaaGC
set_option linter.unusedVariables false
set_option linter.unusedSimpArgs false
namespace Go.Proofs.Ytcmhifpbpdbfhaa.Pure
open Go.RowKit Go.Proofs.Ytcmhifpbpdbfhaa.PFnExactDiffer Go.Proofs.YtcmhifpbpdbfhaaW.PrintWords Go.Proofs.YtcmhifpbpdbfhaaW.PrintLast Go.Proofs.YtcmhifpbpdbfhaaW.PrintMore G7
theorem ev_toIntS (l : List Int) (hl : l.length ≤ 35184372088832) : Ev (fun k => laws_toIntS.f k l) l := by
  have key : ∀ (d i : Nat) (out : List Int), i + d = l.length → out.length = l.length → (∀ j : Nat, j < i → rd out (j : Int) = rd l (j : Int)) → Ev (fun k => laws_toIntS.l0 k l out (i : Int)) l := by
    intro d
    induction d with
    | zero =>
      intro i out hi ho hx
      refine ev_s ?_
      have h1 : ¬ ((i : Int) < (l.length : Int)) := by omega
      simp only [laws_toIntS.l0, h1, if_false]
      rw [ext_rd ho (fun j hj => hx j (by omega))]
      exact Ev.now _
    | succ d ih =>
      intro i out hi ho hx
      refine ev_s ?_
      have h1 : (i : Int) < (l.length : Int) := by omega
      have h2 : (0 : Int) ≤ (i : Int) := by omega
      have h3 : (i : Int) < (out.length : Int) := by omega
      simp only [laws_toIntS.l0, h1, h2, h3, if_true, w_succ (n := i) (by omega), Int.toNat_natCast]
      refine ih (i + 1) _ (by omega) (by rw [List.length_set]; exact ho) (fun j hj => ?_)
      by_cases c : i = j
      · subst c; rw [rd_set_eq (by omega)]
      · rw [rd_set_ne c]; exact hx j (by omega)
  unfold laws_toIntS.f
  have h1 : (0 : Int) ≤ (l.length : Int) := by omega
  simp only [h1, if_true, Int.toNat_natCast, hl]
  exact key l.length 0 _ (by omega) (by simp) (fun j hj => by omega)

theorem ev_eqIntS (l : List Int) (hl : l.length ≤ 35184372088832) : Ev (fun k => laws_eqIntS.f k l l) true := by
  have key : ∀ (d i : Nat), i + d = l.length → Ev (fun k => laws_eqIntS.l0 k l l (i : Int)) true := by
    intro d
    induction d with
    | zero =>
      intro i hi
      refine ev_s ?_
      have h1 : ¬ ((i : Int) < (l.length : Int)) := by omega
      simp only [laws_eqIntS.l0, h1, if_false]
      exact Ev.now _
    | succ d ih =>
      intro i hi
      refine ev_s ?_
      have h1 : (i : Int) < (l.length : Int) := by omega
      have h2 : (0 : Int) ≤ (i : Int) := by omega
      simp only [laws_eqIntS.l0, h1, h2, if_true, w_succ (n := i) (by omega)]
      exact ih (i + 1) (by omega)
  unfold laws_eqIntS.f
  simp only [if_true]
  exact key l.length 0 (by omega)

def dfT (a b : List Int) (i : Nat) : Int := if a.length ≤ i ∨ b.length ≤ i ∨ rd a (i : Int) ≠ rd b (i : Int) then 1 else 0
theorem dfT_b (a b : List Int) (i : Nat) : -1 ≤ dfT a b i ∧ dfT a b i ≤ 1 := by unfold dfT; split <;> omega
def differV (a b : List Int) : Int := sm (max a.length b.length) (dfT a b)

theorem ev_sDiffer (a b : List Int) : Ev (fun k => spec_Differ.f k a b) (if (a.length : Int) > 4096 ∨ (b.length : Int) > 4096 then -1 else differV a b) := by
  have key : ∀ (d i : Nat), i + d = max a.length b.length → a.length ≤ 4096 → b.length ≤ 4096 → Ev (fun k => spec_Differ.l0 k a b (sm i (dfT a b)) (i : Int)) (differV a b) := by
    intro d
    induction d with
    | zero =>
      intro i hi ha hb
      refine ev_s ?_
      have h1 : ¬ ((i : Int) < (a.length : Int)) := by omega
      have h2 : ¬ ((i : Int) < (b.length : Int)) := by omega
      simp only [spec_Differ.l0, h1, if_false, decide_eq_false h2]
      refine ev_s ?_
      simp only [spec_Differ.j2, Bool.false_eq_true, if_false]
      rw [show i = max a.length b.length by omega]; exact Ev.now _
    | succ d ih =>
      intro i hi ha hb
      have hstep := ih (i + 1) (by omega) ha hb
      rw [sm_succ] at hstep
      have hbd := sm_bound (B := 1) (n := i) (by omega) (fun q _ => dfT_b a b q)
      have go : Ev (fun k => spec_Differ.j2 k a b (sm i (dfT a b)) (i : Int) true) (differV a b) := by
        refine ev_s ?_
        simp only [spec_Differ.j2, if_true]
        have w1 : wrap64 (sm i (dfT a b) + 1) = sm i (dfT a b) + 1 := w64 (by omega) (by omega)
        by_cases c1 : (i : Int) ≥ (a.length : Int)
        · simp only [c1, if_true, w_succ (n := i) (by omega), w1]
          rw [show dfT a b i = 1 from if_pos (Or.inl (by omega))] at hstep
          exact hstep
        · by_cases c2 : (i : Int) ≥ (b.length : Int)
          · simp only [c1, c2, if_true, if_false, w_succ (n := i) (by omega), w1]
            rw [show dfT a b i = 1 from if_pos (Or.inr (Or.inl (by omega)))] at hstep
            exact hstep
          · have g0 : (0 : Int) ≤ (i : Int) := by omega
            have g1 : (i : Int) < (a.length : Int) := by omega
            have g2 : (i : Int) < (b.length : Int) := by omega
            by_cases c3 : rd a (i : Int) = rd b (i : Int)
            · simp only [c1, c2, c3, g0, g1, g2, if_true, if_false, w_succ (n := i) (by omega)]
              rw [show dfT a b i = 0 from if_neg (by intro h; rcases h with h | h | h <;> first | omega | exact h c3), Int.add_zero] at hstep
              exact hstep
            · simp only [c1, c2, c3, g0, g1, g2, if_true, if_false, w_succ (n := i) (by omega), w1]
              rw [show dfT a b i = 1 from if_pos (Or.inr (Or.inr c3))] at hstep
              exact hstep
      refine ev_s ?_
      by_cases c1 : (i : Int) < (a.length : Int)
      · simp only [spec_Differ.l0, c1, if_true]; exact go
      · have c2 : (i : Int) < (b.length : Int) := by omega
        simp only [spec_Differ.l0, c1, if_false, decide_eq_true c2]; exact go
  unfold spec_Differ.f
  by_cases ca : (a.length : Int) > 4096
  · simp only [ca, if_true, true_or]
    refine ev_s ?_
    simp only [spec_Differ.j0, if_true]; exact Ev.now _
  · by_cases cb : (b.length : Int) > 4096
    · simp only [ca, cb, if_true, if_false, or_true, decide_true]
      refine ev_s ?_
      simp only [spec_Differ.j0, if_true]; exact Ev.now _
    · simp only [ca, cb, if_false, or_self, decide_false]
      refine ev_s ?_
      simp only [spec_Differ.j0, Bool.false_eq_true, if_false]
      exact key (max a.length b.length) 0 (by omega) (by omega) (by omega)

theorem ev_differ (a b : List Int) (ha : a.length ≤ 4096) (hb : b.length ≤ 4096) : Ev (fun k => impl_differ.f k a b) (differV a b) := by
  have emx : mx (a.length : Int) (b.length : Int) = ((max a.length b.length : Nat) : Int) := by unfold mx; split <;> omega
  have emn : mn (a.length : Int) (b.length : Int) = ((min a.length b.length : Nat) : Int) := by unfold mn; split <;> omega
  have hall : differV a b = ((max a.length b.length : Nat) : Int) - ((min a.length b.length : Nat) : Int) + sm (min a.length b.length) (dfT a b) := by
    unfold differV
    obtain ⟨d, hd⟩ : ∃ d, max a.length b.length = min a.length b.length + d := ⟨max a.length b.length - min a.length b.length, by omega⟩
    rw [hd, sm_split]
    have : sm d (fun i => dfT a b (min a.length b.length + i)) = d := by
      rw [sm_congr (h' := fun _ => 1) (fun i hi => by
        show dfT a b _ = 1
        unfold dfT
        rw [if_pos (by omega)]), sm_const]; omega
    omega
  have key : ∀ (d i : Nat), i + d = min a.length b.length → Ev (fun k => impl_differ.l0 k a b (((max a.length b.length : Nat) : Int) - ((min a.length b.length : Nat) : Int) + sm i (dfT a b)) ((min a.length b.length : Nat) : Int) (i : Int)) (differV a b) := by
    intro d
    induction d with
    | zero =>
      intro i hi
      refine ev_s ?_
      have h1 : ¬ ((i : Int) < ((min a.length b.length : Nat) : Int)) := by omega
      simp only [impl_differ.l0, h1, if_false]
      rw [hall, show i = min a.length b.length by omega]; exact Ev.now _
    | succ d ih =>
      intro i hi
      have hstep := ih (i + 1) (by omega)
      rw [sm_succ] at hstep
      have hbd := sm_bound (B := 1) (n := i) (by omega) (fun q _ => dfT_b a b q)
      refine ev_s ?_
      have h1 : (i : Int) < ((min a.length b.length : Nat) : Int) := by omega
      have g0 : (0 : Int) ≤ (i : Int) := by omega
      have g1 : (i : Int) < (a.length : Int) := by omega
      have g2 : (i : Int) < (b.length : Int) := by omega
      by_cases c3 : rd a (i : Int) = rd b (i : Int)
      · simp only [impl_differ.l0, h1, c3, g0, g1, g2, if_true, w_succ (n := i) (by omega)]
        rw [show dfT a b i = 0 from if_neg (by intro h; rcases h with h | h | h <;> first | omega | exact h c3), Int.add_zero] at hstep
        exact hstep
      · simp only [impl_differ.l0, h1, c3, g0, g1, g2, if_true, if_false, w_succ (n := i) (by omega)]
        rw [w64 (by omega) (by omega)]
        rw [show dfT a b i = 1 from if_pos (Or.inr (Or.inr c3)), ← Int.add_assoc] at hstep
        exact hstep
  unfold impl_differ.f
  rw [emx, emn, w64 (by omega) (by omega)]
  have := key (min a.length b.length) 0 (by omega)
  rw [sm_zero, Int.add_zero] at this
  exact this
theorem ev_iDiffer (a b : List Int) : Ev (fun k => impl_Differ.f k a b) (if (a.length : Int) > 4096 ∨ (b.length : Int) > 4096 then -1 else differV a b) := by
  unfold impl_Differ.f
  by_cases ca : (a.length : Int) > 4096
  · simp only [ca, if_true, true_or]; exact Ev.now _
  · by_cases cb : (b.length : Int) > 4096
    · simp only [ca, cb, if_true, if_false, or_true]; exact Ev.now _
    · simp only [ca, cb, if_false, or_self]
      refine Ev.bind (ev_differ a b (by omega) (by omega)) ?_
      exact Ev.now _

theorem FnExactDiffer : laws_FnExactDiffer.Pure := by
  intro l m hl hl8 hwl hm hm8 hwm
  refine Ev.rounds ?_
  unfold laws_FnExactDiffer.f
  by_cases hbig : (l.length : Int) > 1048576
  · simp only [hbig, if_true]; exact Ev.now _
  by_cases hbig2 : (m.length : Int) > 1048576
  · simp only [hbig, hbig2, if_true, if_false]; exact Ev.now _
  simp only [hbig, hbig2, if_false]
  have hll : l.length ≤ 35184372088832 := by omega
  have hlm : m.length ≤ 35184372088832 := by omega
  have hR1 := ev_sDiffer l m
  have hR2 := ev_iDiffer l m
  repeat first
    | exact Ev.now _
    | refine Ev.bind (ev_toIntS l hll) ?_
    | refine Ev.bind (ev_toIntS m hlm) ?_
    | refine Ev.bind hR1 ?_
    | refine Ev.bind hR2 ?_
    | refine Ev.bind (ev_eqIntS l (by omega)) ?_
    | refine Ev.bind (ev_eqIntS m (by omega)) ?_
    | simp only [if_true, if_false, bne_self_eq_false, Bool.false_eq_true]

end Go.Proofs.Ytcmhifpbpdbfhaa.Pure
