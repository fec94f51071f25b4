/- FnExactBound returns true for all arguments: both Bounds are -1 outside 1..200 and the smaller number times a million squared inside. -/
import Derived.Test.YtcmhifpbpdbfhaaPFnExactBoundx1
import Derived.Test.YtcmhifpbpdbfhaaGB
set_option linter.unusedVariables false
set_option linter.unusedSimpArgs false
namespace Go.Proofs.Ytcmhifpbpdbfhaa.Pure
open Go.RowKit Go.Proofs.Ytcmhifpbpdbfhaa.PFnExactBound Go.Proofs.YtcmhifpbpdbfhaaW.PrintWords Go.Proofs.YtcmhifpbpdbfhaaW.PrintLast Go.Proofs.YtcmhifpbpdbfhaaW.PrintMore G7
theorem ev_l01In (x a b : Int) : spec_l01In.f x a b = some (decide (a ≤ x) && decide (x ≤ b)) := by
  unfold spec_l01In.f
  by_cases h : a ≤ x
  · rw [if_pos h, decide_eq_true h, Bool.true_and]
  · rw [if_neg h, decide_eq_false h, Bool.false_and]

theorem FnExactBound : laws_FnExactBound.Pure := by
  intro n m hn hm
  have bn := wf_i64 hn
  have bm := wf_i64 hm
  refine Ev.rounds ?_
  unfold laws_FnExactBound.f spec_Bound.f impl_Bound.f
  simp only [ev_l01In, Option.bind_some]
  by_cases c1 : 1 ≤ n ∧ n ≤ 200
  · have e1 : (decide (1 ≤ n) && decide (n ≤ 200)) = true := by
      rw [Bool.and_eq_true, decide_eq_true_eq, decide_eq_true_eq]; exact c1
    have g1 : ¬ (n < 1) := by omega
    have g2 : ¬ (n > 200) := by omega
    simp only [e1, if_true, g1, g2, if_false]
    by_cases c2 : 1 ≤ m ∧ m ≤ 200
    · have e2 : (decide (1 ≤ m) && decide (m ≤ 200)) = true := by
        rw [Bool.and_eq_true, decide_eq_true_eq, decide_eq_true_eq]; exact c2
      have g3 : ¬ (m < 1) := by omega
      have g4 : ¬ (m > 200) := by omega
      simp only [e2, g3, g4, if_false]
      by_cases c3 : m < n
      · refine Ev.bind (a := wrap64 (wrap64 (m * 1000000) * 1000000)) (ev_s ?_) ?_
        · simp only [spec_Bound.j0, Bool.not_true, Bool.false_eq_true, if_false, c3, if_true]
          exact Ev.now _
        · have e : mn n m = m := by unfold mn; rw [if_pos c3]
          simp only [e, Option.bind_some, if_true]
          exact Ev.now _
      · refine Ev.bind (a := wrap64 (wrap64 (n * 1000000) * 1000000)) (ev_s ?_) ?_
        · simp only [spec_Bound.j0, Bool.not_true, Bool.false_eq_true, if_false, c3]
          exact Ev.now _
        · have e : mn n m = n := by unfold mn; rw [if_neg c3]
          simp only [e, Option.bind_some, if_true]
          exact Ev.now _
    · have e2 : (decide (1 ≤ m) && decide (m ≤ 200)) = false := by
        rw [← Bool.not_eq_true, Bool.and_eq_true, decide_eq_true_eq, decide_eq_true_eq]; exact c2
      simp only [e2]
      refine Ev.bind (a := -1) (ev_s ?_) ?_
      · simp only [spec_Bound.j0, Bool.not_false, if_true]
        exact Ev.now _
      · by_cases c3 : m < 1
        · simp only [c3, if_true, Option.bind_some]; exact Ev.now _
        · have c4 : m > 200 := by omega
          simp only [c3, c4, if_true, if_false, Option.bind_some]; exact Ev.now _
  · have e1 : (decide (1 ≤ n) && decide (n ≤ 200)) = false := by
      rw [← Bool.not_eq_true, Bool.and_eq_true, decide_eq_true_eq, decide_eq_true_eq]; exact c1
    simp only [e1, Bool.false_eq_true, if_false]
    refine Ev.bind (a := -1) (ev_s ?_) ?_
    · simp only [spec_Bound.j0, if_true]
      exact Ev.now _
    · by_cases c3 : n < 1
      · simp only [c3, if_true, Option.bind_some]; exact Ev.now _
      · have c4 : n > 200 := by omega
        simp only [c3, c4, if_true, if_false, Option.bind_some]; exact Ev.now _

end Go.Proofs.Ytcmhifpbpdbfhaa.Pure
