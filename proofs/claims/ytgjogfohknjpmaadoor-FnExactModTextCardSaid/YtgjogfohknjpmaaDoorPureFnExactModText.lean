/- FnExactModText returns true for all arguments: both give the residue of the numeral, and -1 at the same texts and fields. -/
import Derived.Test.YtgjogfohknjpmaaDoorPFnExactModTextx2
import Derived.Test.YtgjogfohknjpmaaDoorGB
set_option linter.unusedVariables false
set_option linter.unusedSimpArgs false
namespace Go.Proofs.YtgjogfohknjpmaaDoor.Pure
open Go.RowKit Go.Proofs.YtgjogfohknjpmaaDoor.PFnExactModText Go.Proofs.YtgjogfohknjpmaaDoorW.PrintWords Go.Proofs.YtgjogfohknjpmaaDoorW.PrintLast Go.Proofs.YtgjogfohknjpmaaDoorW.PrintMore G7
/-- The byte is a decimal digit. -/
def isD (b : UInt8) : Bool := decide (48 ≤ b.toNat) && decide (b.toNat ≤ 57)
theorem isD_mem (b : UInt8) : List.contains [48, 49, 50, 51, 52, 53, 54, 55, 56, 57] b = isD b := by
  have h : ∀ n : Fin 256, List.contains [48, 49, 50, 51, 52, 53, 54, 55, 56, 57] (UInt8.ofNat n.val) = isD (UInt8.ofNat n.val) := by decide +kernel
  have := h ⟨b.toNat, b.toNat_lt⟩
  simpa using this
theorem dropWhile_nil {p : UInt8 → Bool} : ∀ l : List UInt8, l.dropWhile p = [] ↔ l.all p = true
  | [] => by simp
  | b :: l => by
    rw [List.dropWhile_cons]
    by_cases c : p b = true
    · rw [if_pos c, dropWhile_nil l]; simp [c]
    · rw [if_neg c]; simp [c]
theorem dropWhile_all {p : UInt8 → Bool} : ∀ l : List UInt8, (l.dropWhile p).all p = true → l.all p = true
  | [] => fun _ => rfl
  | b :: l => fun h => by
    rw [List.dropWhile_cons] at h
    by_cases c : p b = true
    · rw [if_pos c] at h
      rw [List.all_cons, c, dropWhile_all l h]; rfl
    · rw [if_neg c] at h; exact h
theorem all_rev (p : UInt8 → Bool) (l : List UInt8) : l.reverse.all p = l.all p := by
  rw [List.all_reverse]
theorem trimS_nil (l : List UInt8) : Go.Lib.trimS l [48, 49, 50, 51, 52, 53, 54, 55, 56, 57] = [] ↔ l.all isD = true := by
  have e : (fun x => List.contains [48, 49, 50, 51, 52, 53, 54, 55, 56, 57] x) = isD := funext isD_mem
  unfold Go.Lib.trimS Go.Lib.trimLeftS Go.Lib.trimRightS
  rw [e, dropWhile_nil, all_rev]
  constructor
  · intro h
    rw [← all_rev]
    exact dropWhile_all _ h
  · intro h
    have h2 := (dropWhile_nil (p := isD) l.reverse).2 (by rw [all_rev]; exact h)
    rw [h2]; rfl
theorem size_list (s : ByteArray) : s.data.toList.length = s.size := rfl
theorem bt_list {s : ByteArray} {i : Nat} (h : i < s.data.toList.length) : bt s (i : Int) = ((s.data.toList[i]'h).toNat : Int) := by
  have h' : i < s.size := h
  have := bt_at s (i : Int) h'
  rw [← this]
  rfl
/-- A numeral: one digit to three hundred, no 0 ahead. -/
def numB (s : ByteArray) : Bool := decide (1 ≤ s.size) && decide (s.size ≤ 300) && s.data.toList.all isD && (if bt s 0 = 48 then ((s.size : Int) == 1) else true)

theorem ev_sDigitsOk0 {s : ByteArray} (h : s.size ≤ 300) (h0 : 0 < s.size) : ∀ n i : Nat, i + n = s.size →
    Ev (fun k => spec_DigitsOk.l0 k s (i : Int)) ((s.data.toList.drop i).all isD && (if bt s 0 = 48 then ((s.size : Int) == 1) else true)) := by
  have hl := size_list s
  intro n
  induction n with
  | zero =>
    intro i e
    have h1 : ¬ ((i : Int) < (s.size : Int)) := by omega
    have h2 : (0 : Int) < (s.size : Int) := by omega
    refine ev_s ?_
    simp only [spec_DigitsOk.l0, if_neg h1, if_pos h2]
    rw [List.drop_eq_nil_of_le (by omega)]
    simp only [List.all_nil, Bool.true_and]
    by_cases c : bt s 0 = 48
    · simp only [if_pos c]; exact Ev.now _
    · simp only [if_neg c]; exact Ev.now _
  | succ n ih =>
    intro i e
    have hi : i < s.data.toList.length := by omega
    have h1 : ((i : Int) < (s.size : Int)) := by omega
    have h2 : (0 : Int) ≤ (i : Int) := by omega
    refine ev_s ?_
    simp only [spec_DigitsOk.l0, if_pos h1, if_pos h2]
    rw [List.drop_eq_getElem_cons hi, bt_list hi, w_succ (by omega)]
    simp only [List.all_cons]
    by_cases c : ((s.data.toList[i]).toNat : Int) < 48
    · have : isD s.data.toList[i] = false := by unfold isD; rw [decide_eq_false (by omega)]; rfl
      simp only [if_pos c, this, Bool.false_and]; exact Ev.now _
    simp only [if_neg c]
    by_cases c2 : ((s.data.toList[i]).toNat : Int) > 57
    · have : isD s.data.toList[i] = false := by unfold isD; rw [decide_eq_false (p := _ ≤ 57) (by omega), Bool.and_false]
      simp only [if_pos c2, this, Bool.false_and]; exact Ev.now _
    simp only [if_neg c2]
    have : isD s.data.toList[i] = true := by unfold isD; rw [decide_eq_true (by omega), decide_eq_true (by omega)]; rfl
    rw [this, Bool.true_and]
    exact ih (i + 1) (by omega)
theorem ev_sDigitsOk (s : ByteArray) : Ev (fun k => spec_DigitsOk.f k s) (numB s) := by
  unfold spec_DigitsOk.f spec_l01In.f numB
  by_cases c : (1 : Int) ≤ (s.size : Int)
  · simp only [if_pos c]
    refine Ev.bind (Ev.now _) ?_
    by_cases c2 : (s.size : Int) ≤ 300
    · simp only [decide_eq_true c2, if_true]
      rw [decide_eq_true (by omega), decide_eq_true (by omega)]
      simp only [Bool.true_and]
      exact ev_sDigitsOk0 (by omega) (by omega) s.size 0 (by omega)
    · simp only [decide_eq_false c2, Bool.false_eq_true, if_false]
      rw [decide_eq_false (p := s.size ≤ 300) (by omega)]
      simp only [Bool.and_false, Bool.false_and]
      exact Ev.now _
  · simp only [if_neg c]
    refine Ev.bind (Ev.now _) ?_
    simp only [Bool.false_eq_true, if_false]
    rw [decide_eq_false (p := 1 ≤ s.size) (by omega)]
    simp only [Bool.false_and]
    exact Ev.now _

theorem toList_loop (b : ByteArray) : ∀ n i : Nat, ∀ r : List UInt8, i + n = b.size → ByteArray.toList.loop b i r = r.reverse ++ b.data.toList.drop i := by
  intro n
  induction n with
  | zero =>
    intro i r e
    unfold ByteArray.toList.loop
    rw [if_neg (by omega), List.drop_eq_nil_of_le (by rw [size_list]; omega), List.append_nil]
  | succ n ih =>
    intro i r e
    have hi : i < b.data.toList.length := by rw [size_list]; omega
    unfold ByteArray.toList.loop
    rw [if_pos (by omega), ih (i + 1) _ (by omega), List.drop_eq_getElem_cons hi, List.reverse_cons, List.append_assoc]
    have hg : b.get! i = b.data.toList[i] := by
      cases b with
      | mk d =>
        show d[i]! = d.toList[i]
        rw [getElem!_pos d i (by simpa using hi)]
        simp
    rw [hg]; rfl
theorem toList_nil (l : List UInt8) : ((⟨l.toArray⟩ : ByteArray).toList = ([] : List UInt8)) ↔ l = [] := by
  have h := toList_loop (⟨l.toArray⟩ : ByteArray) _ 0 [] (Nat.zero_add _)
  unfold ByteArray.toList
  rw [h]
  simp
theorem ev_isNumeral (s : ByteArray) : impl_isNumeral.f s = some (numB s) := by
  unfold impl_isNumeral.f numB
  by_cases c : (s.size : Int) < 1
  · rw [if_pos c, decide_eq_false (p := 1 ≤ s.size) (by omega)]; simp only [Bool.false_and]
  rw [if_neg c]
  by_cases c2 : (s.size : Int) > 300
  · rw [if_pos c2, decide_eq_false (p := s.size ≤ 300) (by omega)]; simp only [Bool.and_false, Bool.false_and]
  rw [if_neg c2, decide_eq_true (p := 1 ≤ s.size) (by omega), decide_eq_true (p := s.size ≤ 300) (by omega)]
  unfold strings_Trim.f
  rw [if_pos ⟨by omega, rfl⟩]
  simp only [Option.bind_some, toList_nil, trimS_nil, Bool.true_and]
  have h0 : (0 : Int) < (s.size : Int) := by omega
  by_cases c3 : s.data.toList.all isD = true
  · rw [if_pos c3, c3, if_pos h0, Bool.true_and]
    by_cases c4 : bt s 0 = 48
    · rw [if_pos c4, if_pos c4]
    · rw [if_neg c4, if_neg c4]
  · rw [if_neg c3, eq_false_of_ne_true c3, Bool.false_and]

theorem ev_Modulus (f : Int) : spec_Modulus.f f = some (md f) := by
  unfold spec_Modulus.f md
  by_cases h0 : f = 0
  · rw [if_pos h0, if_pos h0]
  rw [if_neg h0, if_neg h0]
  by_cases h1 : f = 1
  · rw [if_pos h1, if_pos h1]
  rw [if_neg h1, if_neg h1]
  by_cases h2 : f = 2
  · rw [if_pos h2, if_pos h2]
  rw [if_neg h2, if_neg h2]
  by_cases h3 : f = 3
  · rw [if_pos h3, if_pos h3]
  rw [if_neg h3, if_neg h3]
  by_cases h4 : f = 4
  · rw [if_pos h4, if_pos h4]
  rw [if_neg h4, if_neg h4]
  by_cases h5 : f = 5
  · rw [if_pos h5, if_pos h5]
  rw [if_neg h5, if_neg h5]
  by_cases h6 : f = 6
  · rw [if_pos h6, if_pos h6]
  rw [if_neg h6, if_neg h6]
  by_cases h7 : f = 7
  · rw [if_pos h7, if_pos h7]
  rw [if_neg h7, if_neg h7]
  by_cases h8 : f = 8
  · rw [if_pos h8, if_pos h8]
  rw [if_neg h8, if_neg h8]

theorem ev_Reduce {f : Int} (h : 0 ≤ f ∧ f < 9) (x : Int) : spec_Reduce.f f x = some (x % md f) := by
  have hp := pm_of h
  unfold Pm at hp
  unfold spec_Reduce.f
  rw [ev_Modulus]
  simp only [Option.bind_some]
  rw [if_neg (by omega)]
  have hb := tmod_bounds (a := x) (p := md f) (by omega)
  rw [w64 (by omega) (by omega), ← tmod_fix (a := x) (p := md f) (by omega)]
  by_cases c : Int.tmod x (md f) < 0
  · rw [if_pos c, if_pos c]
  · rw [if_neg c, if_neg c]
theorem ev_Reduce_bad {f : Int} (h : ¬ (0 ≤ f ∧ f < 9)) (x : Int) : spec_Reduce.f f x = some (-1) := by
  unfold spec_Reduce.f
  rw [ev_Modulus]
  simp only [Option.bind_some]
  rw [if_pos (md_bad h)]

theorem ev_Add {f : Int} (h : 0 ≤ f ∧ f < 9) (x y : Int) : spec_Add.f f x y = some ((x + y) % md f) := by
  have hp := pm_of h
  unfold Pm at hp
  have hx := em_lt (a := x) (p := md f) (by omega)
  have hy := em_lt (a := y) (p := md f) (by omega)
  unfold spec_Add.f
  rw [ev_Modulus]
  simp only [Option.bind_some, ev_Reduce h]
  rw [if_neg (by omega), w64 (by omega) (by omega), eadd_l, eadd_r]

theorem ev_Mul {f : Int} (h : 0 ≤ f ∧ f < 9) (x y : Int) : spec_Mul.f f x y = some ((x * y) % md f) := by
  have hp := pm_of h
  have hb := hp
  unfold Pm at hp
  have hx := em_lt (a := x) (p := md f) (by omega)
  have hy := em_lt (a := y) (p := md f) (by omega)
  have hxy := mul_lt_big hx.1 hx.2 hy.1 hy.2 hp.2
  unfold spec_Mul.f
  rw [ev_Modulus]
  simp only [Option.bind_some, ev_Reduce h]
  rw [if_neg (by omega), w64 (by omega) (by omega), emul_l, emul_r]

theorem ev_fieldOf {f : Int} (h : 0 ≤ f ∧ f < 9) : impl_fieldOf.f f = some (md f, gn f, tp f, true) := by
  rcases fcases h.1 h.2 with e | e | e | e | e | e | e | e | e <;> subst e <;> rfl
theorem ev_fieldOf_bad {f : Int} (h : ¬ (0 ≤ f ∧ f < 9)) : impl_fieldOf.f f = some (0, 0, 0, false) := by
  unfold impl_fieldOf.f
  by_cases c : f < 0
  · rw [if_pos c]
  · rw [if_neg c, if_pos (by omega)]

/-- The residue of a text of digits behind a start. -/
def modL (p : Int) : List UInt8 → Int → Int
  | [], x => x
  | b :: l, x => modL p l ((10 * x + ((b.toNat : Int) - 48)) % p)
theorem ev_sModText0 {f : Int} (h : 0 ≤ f ∧ f < 9) {s : ByteArray} (hs : s.size ≤ 300) : ∀ n i : Nat, i + n = s.size → ∀ x : Int,
    Ev (fun k => spec_ModText.l0 k s f x (i : Int)) (modL (md f) (s.data.toList.drop i) x) := by
  have hl := size_list s
  intro n
  induction n with
  | zero =>
    intro i e x
    have h1 : ¬ ((i : Int) < (s.size : Int)) := by omega
    refine ev_s ?_
    simp only [spec_ModText.l0, if_neg h1]
    rw [List.drop_eq_nil_of_le (by omega)]
    exact Ev.now _
  | succ n ih =>
    intro i e x
    have hi : i < s.data.toList.length := by omega
    have h1 : ((i : Int) < (s.size : Int)) := by omega
    have h2 : (0 : Int) ≤ (i : Int) := by omega
    have hb := (s.data.toList[i]).toNat_lt
    refine ev_s ?_
    simp only [spec_ModText.l0, if_pos h1, if_pos h2]
    rw [List.drop_eq_getElem_cons hi, bt_list hi, w_succ (by omega), w64 (x := ((s.data.toList[i]).toNat : Int)) (by omega) (by omega), w64 (x := ((s.data.toList[i]).toNat : Int) - 48) (by omega) (by omega)]
    refine Ev.bind (ev_c (ev_Mul h x 10)) ?_
    refine Ev.bind (ev_c (ev_Add h _ _)) ?_
    have e2 : (x * 10 % md f + ((s.data.toList[i].toNat : Int) - 48)) % md f = (10 * x + ((s.data.toList[i].toNat : Int) - 48)) % md f := by
      rw [Int.emod_add_emod, Int.mul_comm]
    rw [e2]
    exact ih (i + 1) (by omega) _
theorem ev_iModText0 {p : Int} (hp : Pm p) (g t : Int) {s : ByteArray} (hs : s.size ≤ 300) (hd : s.data.toList.all isD = true) : ∀ n i : Nat, i + n = s.size → ∀ x : Int, 0 ≤ x → x < p →
    Ev (fun k => impl_ModText.l0 k s x (s.size : Int) (i : Int) p g t) (modL p (s.data.toList.drop i) x) := by
  have hl := size_list s
  have hp' := hp
  unfold Pm at hp'
  intro n
  induction n with
  | zero =>
    intro i e x h0 h1
    have h1 : ¬ ((i : Int) < (s.size : Int)) := by omega
    refine ev_s ?_
    simp only [impl_ModText.l0, if_neg h1]
    rw [List.drop_eq_nil_of_le (by omega)]
    exact Ev.now _
  | succ n ih =>
    intro i e x h0 hx
    have hi : i < s.data.toList.length := by omega
    have h1 : ((i : Int) < (s.size : Int)) := by omega
    have h2 : (0 : Int) ≤ (i : Int) := by omega
    have h3 : ¬ (p = 0) := by omega
    have hb : isD s.data.toList[i] = true := (List.all_eq_true.1 hd) _ (List.getElem_mem hi)
    unfold isD at hb
    rw [Bool.and_eq_true, decide_eq_true_eq, decide_eq_true_eq] at hb
    have e3 : (((s.data.toList[i]).toNat : Int) - 48) % 256 = ((s.data.toList[i]).toNat : Int) - 48 := Int.emod_eq_of_lt (by omega) (by omega)
    refine ev_s ?_
    simp only [impl_ModText.l0, if_pos h1, if_pos h2, if_neg h3]
    rw [List.drop_eq_getElem_cons hi, bt_list hi, w_succ (by omega), e3, w64 (x := 10 * x) (by omega) (by omega), w64 (by omega) (by omega), Int.tmod_eq_emod_of_nonneg (by omega)]
    exact ih (i + 1) (by omega) _ (Int.emod_nonneg _ (by omega)) (Int.emod_lt_of_pos _ (by omega))
/-- Both ModTexts. -/
def modTxt (f : Int) (s : ByteArray) : Int := if (decide (0 ≤ f) && decide (f < 9) && numB s) = true then modL (md f) s.data.toList 0 else -1
theorem numB_says {s : ByteArray} (h : numB s = true) : s.size ≤ 300 ∧ s.data.toList.all isD = true := by
  unfold numB at h
  simp only [Bool.and_eq_true, decide_eq_true_eq] at h
  exact ⟨h.1.1.2, h.1.2⟩
theorem ev_sModText (f : Int) (s : ByteArray) : Ev (fun k => spec_ModText.f k s f) (modTxt f s) := by
  unfold spec_ModText.f modTxt
  refine Ev.bind (ev_sDigitsOk s) ?_
  by_cases c : numB s = true
  · simp only [c, if_true, Bool.and_true]
    refine Ev.bind (ev_c (ev_Modulus f)) ?_
    by_cases h : 0 ≤ f ∧ f < 9
    · have hp := pm_of h
      unfold Pm at hp
      have e : (md f == 0) = false := by simp; omega
      rw [e, if_pos (by rw [decide_eq_true h.1, decide_eq_true h.2]; rfl)]
      refine ev_s ?_
      simp only [spec_ModText.j0, Bool.false_eq_true, if_false]
      exact ev_sModText0 h (numB_says c).1 s.size 0 (by omega) 0
    · have e : (md f == 0) = true := by rw [md_bad h]; rfl
      rw [e, if_neg (by intro x; rw [Bool.and_eq_true, decide_eq_true_eq, decide_eq_true_eq] at x; exact h x)]
      refine ev_s ?_
      simp only [spec_ModText.j0, if_true]
      exact Ev.now _
  · have c := eq_false_of_ne_true c
    simp only [c, Bool.false_eq_true, if_false, Bool.and_false]
    refine ev_s ?_
    simp only [spec_ModText.j0, if_true]
    exact Ev.now _
theorem ev_iModText (f : Int) (s : ByteArray) : Ev (fun k => impl_ModText.f k s f) (modTxt f s) := by
  unfold impl_ModText.f modTxt
  by_cases h : 0 ≤ f ∧ f < 9
  · have hp := pm_of h
    refine Ev.bind (ev_c (ev_fieldOf h)) ?_
    simp only [if_true]
    refine Ev.bind (ev_c (ev_isNumeral s)) ?_
    rw [decide_eq_true h.1, decide_eq_true h.2]
    by_cases c : numB s = true
    · simp only [c, Bool.not_true, Bool.and_true, if_true]
      refine ev_s ?_
      simp only [impl_ModText.j0, Bool.false_eq_true, if_false]
      have hp' := hp
      unfold Pm at hp'
      exact ev_iModText0 hp _ _ (numB_says c).1 (numB_says c).2 s.size 0 (by omega) 0 (by omega) (by omega)
    · have c := eq_false_of_ne_true c
      simp only [c, Bool.not_false, Bool.and_false, Bool.false_eq_true, if_false]
      refine ev_s ?_
      simp only [impl_ModText.j0, if_true]
      exact Ev.now _
  · refine Ev.bind (ev_c (ev_fieldOf_bad h)) ?_
    simp only [Bool.false_eq_true, if_false]
    rw [if_neg (by intro x; simp only [Bool.and_eq_true, decide_eq_true_eq] at x; exact h x.1)]
    refine ev_s ?_
    simp only [impl_ModText.j0, if_true]
    exact Ev.now _

theorem FnExactModText : laws_FnExactModText.Pure := by
  intro s f hs hf
  refine Ev.rounds ?_
  unfold laws_FnExactModText.f
  by_cases c : (s.size : Int) > 1048576
  · simp only [if_pos c]; exact Ev.now _
  simp only [if_neg c]
  refine Ev.bind (ev_sModText f s) ?_
  refine Ev.bind (ev_iModText f s) ?_
  simp only [if_true]
  exact Ev.now _

end Go.Proofs.YtgjogfohknjpmaaDoor.Pure
