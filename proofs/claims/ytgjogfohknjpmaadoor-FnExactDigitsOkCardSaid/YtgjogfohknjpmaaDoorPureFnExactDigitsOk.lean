/- FnExactDigitsOk returns true for all arguments: both hold a text for a numeral at the same texts. -/
import Derived.Test.YtgjogfohknjpmaaDoorPFnExactDigitsOkx1
import Derived.Test.YtgjogfohknjpmaaDoorGB
set_option linter.unusedVariables false
set_option linter.unusedSimpArgs false
namespace Go.Proofs.YtgjogfohknjpmaaDoor.Pure
open Go.RowKit Go.Proofs.YtgjogfohknjpmaaDoor.PFnExactDigitsOk Go.Proofs.YtgjogfohknjpmaaDoorW.PrintWords Go.Proofs.YtgjogfohknjpmaaDoorW.PrintLast Go.Proofs.YtgjogfohknjpmaaDoorW.PrintMore G7
/-- The byte is a decimal digit. -/
def isD (b : UInt8) : Bool := decide (48 ≤ b.toNat) && decide (b.toNat ≤ 57)
theorem isD_mem (b : UInt8) : List.contains [48, 49, 50, 51, 52, 53, 54, 55, 56, 57] b = isD b := by
  have h : ∀ n : Fin 256, List.contains [48, 49, 50, 51, 52, 53, 54, 55, 56, 57] (UInt8.ofNat n.val) = isD (UInt8.ofNat n.val) := by decide +kernel
  have := h ⟨b.toNat, b.toNat_lt⟩
  simpa using this
theorem dropWhile_nil {p : UInt8 → Bool} : ∀ l : List UInt8, l.dropWhile p = [] ↔ l.all p = true
  | [] => by simp
  | b :: l => by
    rw [List.dropWhile_cons]
    by_cases c : p b = true
    · rw [if_pos c, dropWhile_nil l]; simp [c]
    · rw [if_neg c]; simp [c]
theorem dropWhile_all {p : UInt8 → Bool} : ∀ l : List UInt8, (l.dropWhile p).all p = true → l.all p = true
  | [] => fun _ => rfl
  | b :: l => fun h => by
    rw [List.dropWhile_cons] at h
    by_cases c : p b = true
    · rw [if_pos c] at h
      rw [List.all_cons, c, dropWhile_all l h]; rfl
    · rw [if_neg c] at h; exact h
theorem all_rev (p : UInt8 → Bool) (l : List UInt8) : l.reverse.all p = l.all p := by
  rw [List.all_reverse]
theorem trimS_nil (l : List UInt8) : Go.Lib.trimS l [48, 49, 50, 51, 52, 53, 54, 55, 56, 57] = [] ↔ l.all isD = true := by
  have e : (fun x => List.contains [48, 49, 50, 51, 52, 53, 54, 55, 56, 57] x) = isD := funext isD_mem
  unfold Go.Lib.trimS Go.Lib.trimLeftS Go.Lib.trimRightS
  rw [e, dropWhile_nil, all_rev]
  constructor
  · intro h
    rw [← all_rev]
    exact dropWhile_all _ h
  · intro h
    have h2 := (dropWhile_nil (p := isD) l.reverse).2 (by rw [all_rev]; exact h)
    rw [h2]; rfl
theorem size_list (s : ByteArray) : s.data.toList.length = s.size := rfl
theorem bt_list {s : ByteArray} {i : Nat} (h : i < s.data.toList.length) : bt s (i : Int) = ((s.data.toList[i]'h).toNat : Int) := by
  have h' : i < s.size := h
  have := bt_at s (i : Int) h'
  rw [← this]
  rfl
/-- A numeral: one digit to three hundred, no 0 ahead. -/
def numB (s : ByteArray) : Bool := decide (1 ≤ s.size) && decide (s.size ≤ 300) && s.data.toList.all isD && (if bt s 0 = 48 then ((s.size : Int) == 1) else true)

theorem ev_sDigitsOk0 {s : ByteArray} (h : s.size ≤ 300) (h0 : 0 < s.size) : ∀ n i : Nat, i + n = s.size →
    Ev (fun k => spec_DigitsOk.l0 k s (i : Int)) ((s.data.toList.drop i).all isD && (if bt s 0 = 48 then ((s.size : Int) == 1) else true)) := by
  have hl := size_list s
  intro n
  induction n with
  | zero =>
    intro i e
    have h1 : ¬ ((i : Int) < (s.size : Int)) := by omega
    have h2 : (0 : Int) < (s.size : Int) := by omega
    refine ev_s ?_
    simp only [spec_DigitsOk.l0, if_neg h1, if_pos h2]
    rw [List.drop_eq_nil_of_le (by omega)]
    simp only [List.all_nil, Bool.true_and]
    by_cases c : bt s 0 = 48
    · simp only [if_pos c]; exact Ev.now _
    · simp only [if_neg c]; exact Ev.now _
  | succ n ih =>
    intro i e
    have hi : i < s.data.toList.length := by omega
    have h1 : ((i : Int) < (s.size : Int)) := by omega
    have h2 : (0 : Int) ≤ (i : Int) := by omega
    refine ev_s ?_
    simp only [spec_DigitsOk.l0, if_pos h1, if_pos h2]
    rw [List.drop_eq_getElem_cons hi, bt_list hi, w_succ (by omega)]
    simp only [List.all_cons]
    by_cases c : ((s.data.toList[i]).toNat : Int) < 48
    · have : isD s.data.toList[i] = false := by unfold isD; rw [decide_eq_false (by omega)]; rfl
      simp only [if_pos c, this, Bool.false_and]; exact Ev.now _
    simp only [if_neg c]
    by_cases c2 : ((s.data.toList[i]).toNat : Int) > 57
    · have : isD s.data.toList[i] = false := by unfold isD; rw [decide_eq_false (p := _ ≤ 57) (by omega), Bool.and_false]
      simp only [if_pos c2, this, Bool.false_and]; exact Ev.now _
    simp only [if_neg c2]
    have : isD s.data.toList[i] = true := by unfold isD; rw [decide_eq_true (by omega), decide_eq_true (by omega)]; rfl
    rw [this, Bool.true_and]
    exact ih (i + 1) (by omega)
theorem ev_sDigitsOk (s : ByteArray) : Ev (fun k => spec_DigitsOk.f k s) (numB s) := by
  unfold spec_DigitsOk.f spec_l01In.f numB
  by_cases c : (1 : Int) ≤ (s.size : Int)
  · simp only [if_pos c]
    refine Ev.bind (Ev.now _) ?_
    by_cases c2 : (s.size : Int) ≤ 300
    · simp only [decide_eq_true c2, if_true]
      rw [decide_eq_true (by omega), decide_eq_true (by omega)]
      simp only [Bool.true_and]
      exact ev_sDigitsOk0 (by omega) (by omega) s.size 0 (by omega)
    · simp only [decide_eq_false c2, Bool.false_eq_true, if_false]
      rw [decide_eq_false (p := s.size ≤ 300) (by omega)]
      simp only [Bool.and_false, Bool.false_and]
      exact Ev.now _
  · simp only [if_neg c]
    refine Ev.bind (Ev.now _) ?_
    simp only [Bool.false_eq_true, if_false]
    rw [decide_eq_false (p := 1 ≤ s.size) (by omega)]
    simp only [Bool.false_and]
    exact Ev.now _

theorem toList_loop (b : ByteArray) : ∀ n i : Nat, ∀ r : List UInt8, i + n = b.size → ByteArray.toList.loop b i r = r.reverse ++ b.data.toList.drop i := by
  intro n
  induction n with
  | zero =>
    intro i r e
    unfold ByteArray.toList.loop
    rw [if_neg (by omega), List.drop_eq_nil_of_le (by rw [size_list]; omega), List.append_nil]
  | succ n ih =>
    intro i r e
    have hi : i < b.data.toList.length := by rw [size_list]; omega
    unfold ByteArray.toList.loop
    rw [if_pos (by omega), ih (i + 1) _ (by omega), List.drop_eq_getElem_cons hi, List.reverse_cons, List.append_assoc]
    have hg : b.get! i = b.data.toList[i] := by
      cases b with
      | mk d =>
        show d[i]! = d.toList[i]
        rw [getElem!_pos d i (by simpa using hi)]
        simp
    rw [hg]; rfl
theorem toList_nil (l : List UInt8) : ((⟨l.toArray⟩ : ByteArray).toList = ([] : List UInt8)) ↔ l = [] := by
  have h := toList_loop (⟨l.toArray⟩ : ByteArray) _ 0 [] (Nat.zero_add _)
  unfold ByteArray.toList
  rw [h]
  simp
theorem ev_isNumeral (s : ByteArray) : impl_isNumeral.f s = some (numB s) := by
  unfold impl_isNumeral.f numB
  by_cases c : (s.size : Int) < 1
  · rw [if_pos c, decide_eq_false (p := 1 ≤ s.size) (by omega)]; simp only [Bool.false_and]
  rw [if_neg c]
  by_cases c2 : (s.size : Int) > 300
  · rw [if_pos c2, decide_eq_false (p := s.size ≤ 300) (by omega)]; simp only [Bool.and_false, Bool.false_and]
  rw [if_neg c2, decide_eq_true (p := 1 ≤ s.size) (by omega), decide_eq_true (p := s.size ≤ 300) (by omega)]
  unfold strings_Trim.f
  rw [if_pos ⟨by omega, rfl⟩]
  simp only [Option.bind_some, toList_nil, trimS_nil, Bool.true_and]
  have h0 : (0 : Int) < (s.size : Int) := by omega
  by_cases c3 : s.data.toList.all isD = true
  · rw [if_pos c3, c3, if_pos h0, Bool.true_and]
    by_cases c4 : bt s 0 = 48
    · rw [if_pos c4, if_pos c4]
    · rw [if_neg c4, if_neg c4]
  · rw [if_neg c3, eq_false_of_ne_true c3, Bool.false_and]

theorem FnExactDigitsOk : laws_FnExactDigitsOk.Pure := by
  intro s hs
  refine Ev.rounds ?_
  unfold laws_FnExactDigitsOk.f
  by_cases c : (s.size : Int) > 1048576
  · simp only [if_pos c]; exact Ev.now _
  simp only [if_neg c]
  refine Ev.bind (ev_sDigitsOk s) ?_
  unfold impl_DigitsOk.f
  refine Ev.bind (ev_c (show (impl_isNumeral.f s).bind (fun t => some t) = some (numB s) by rw [ev_isNumeral]; rfl)) ?_
  simp only [bne_self_eq_false, Bool.false_eq_true, if_false]
  exact Ev.now _

end Go.Proofs.YtgjogfohknjpmaaDoor.Pure
