/- What the statement's proof builds on: PureTests. -/
import Derived.Test.YtkgmempifggajaaGreatDoorGA16
import Derived.Test.YtkgmempifggajaaGreatDoorGA17
import Derived.Test.YtkgmempifggajaaGreatDoorGA18
-- the text YtkgmempifggajaaGreatDoorPureTests
/- FormulaTests: what the law computes is true. -/
namespace Go.Proofs.YtkgmempifggajaaGreatDoor.PLawFormulaTests
open Go.RowKit Go.Proofs.YtkgmempifggajaaGreatDoorW.PrintWords Go.Proofs.YtkgmempifggajaaGreatDoorW.PrintLast Go.Proofs.YtkgmempifggajaaGreatDoorW.PrintMore
open Go.Proofs.YtkgmempifggajaaGreatDoor.P
set_option linter.unusedVariables false
set_option linter.unusedSimpArgs false

theorem key_f (s : ByteArray) : customhouseref25_Key.f s = some (isKey s) := by
  have e : isKey s = ((s.toList == [111, 114]) || ((s.toList == [97, 110, 100]) || ((s.toList == [110, 111, 116]) || ((s.toList == [116, 114, 117, 101]) || (s.toList == [102, 97, 108, 115, 101]))))) := by
    unfold isKey keyWords
    simp only [List.any_cons, List.any_nil, Bool.or_false]
    simp only [ByteArray.toList_eq]
  rw [e]
  unfold customhouseref25_Key.f
  generalize s.toList = q
  by_cases h1 : q = [111, 114]
  · subst h1; rfl
  by_cases h2 : q = [97, 110, 100]
  · subst h2; rfl
  by_cases h3 : q = [110, 111, 116]
  · subst h3; rfl
  by_cases h4 : q = [116, 114, 117, 101]
  · subst h4; rfl
  rw [if_neg h1, if_neg h2, if_neg h3, if_neg h4, beq_eq_false_iff_ne.2 h1, beq_eq_false_iff_ne.2 h2, beq_eq_false_iff_ne.2 h3, beq_eq_false_iff_ne.2 h4]
  rfl
theorem holds_f (name : ByteArray) (cmp n : Int) (l : List S49) (cs : List Int) (h : fewB l cs = true) : formula_Holds.f 3 name cmp n [] l cs = some (holdsF (testFm name cmp n) l cs) := by
  unfold formula_Holds.f
  rw [if_pos ⟨by simp [size, sizes], few_ok h⟩]
  rfl
theorem seven_none (l : List S49) (cs : List Int) (hf : fitsB l cs = true) (i : Nat) (hi : i < l.length) (hk : isKey l[i].f0 = false) (n cmp : Int) (h0 : 0 ≤ n) (h1 : n ≤ 1000000) (hc : ¬ (1 ≤ cmp ∧ cmp ≤ 6)) : holdsF (testFm l[i].f0 cmp n) l cs = false := by
  rw [holds_test l cs hf i hi hk cmp n h0 h1, decide_eq_false hc]; rfl
theorem six_step (l : List S49) (cs : List Int) (hw : fewB l cs = true) (hf : fitsB l cs = true) (i : Nat) (hi : i < l.length) (hk : isKey l[i].f0 = false) (n : Int) (h0 : 0 ≤ n) (h1 : n ≤ 1000000)
    (bs : List Bool) (hb : bs.length = 6) (j : Nat) (hj : j < 6) (ha : bs.getD j false = cmpB ((j : Int) + 1) (cs.getD i 0) n)
    (hn : Tells (fun k => customhouselaw25_FormulaTests.l0 k cs n true i bs ((j + 1 : Nat) : Int) l) true) :
    Tells (fun k => customhouselaw25_FormulaTests.l0 k cs n true i bs (j : Int) l) true := by
  have hrd : rd_T49 l (i : Int) = l[i] := by simp [rd_T49, List.getD_eq_getElem?_getD, List.getElem?_eq_getElem hi]
  have w1 : wrap64 ((j : Int) + 1) = (j : Int) + 1 := by unfold wrap64; omega
  refine Tells.step (fun k => ?_) hn
  simp only [customhouselaw25_FormulaTests.l0]
  rw [if_pos (by omega), if_pos (by omega), if_pos (by omega), hrd, w1]
  simp only [customhouselaw25_test.f, Option.bind_some]
  rw [holds_f _ _ _ _ _ hw, holds_test l cs hf i hi hk _ n h0 h1, decide_eq_true (by omega), Bool.true_and]
  simp only [Option.bind_some]
  have e : rdOf false bs (j : Int) = cmpB ((j : Int) + 1) (cs.getD i 0) n := ha
  rw [if_pos (by omega), e]
  simp
theorem six_end (l : List S49) (cs : List Int) (hw : fewB l cs = true) (hf : fitsB l cs = true) (i : Nat) (hi : i < l.length) (hk : isKey l[i].f0 = false) (n : Int) (h0 : 0 ≤ n) (h1 : n ≤ 1000000)
    (bs : List Bool) (hb : bs.length = 6) :
    Tells (fun k => customhouselaw25_FormulaTests.l0 k cs n true i bs ((6 : Nat) : Int) l) true := by
  have hrd : rd_T49 l (i : Int) = l[i] := by simp [rd_T49, List.getD_eq_getElem?_getD, List.getElem?_eq_getElem hi]
  refine Tells.step (fun k => ?_) Tells.same
  simp only [customhouselaw25_FormulaTests.l0]
  rw [if_neg (by omega), if_pos trivial, if_pos (by omega), if_pos (by omega), hrd]
  simp only [customhouselaw25_test.f, Option.bind_some]
  rw [holds_f _ _ _ _ _ hw, seven_none l cs hf i hi hk n 7 h0 h1 (by omega)]
  simp only [Option.bind_some, Bool.false_eq_true, if_false]
  rw [holds_f _ _ _ _ _ hw, seven_none l cs hf i hi hk n 0 h0 h1 (by omega)]
  rfl
theorem j0_true (l : List S49) (cs : List Int) (which n : Int) (b : Bool) (hwh : 0 ≤ which ∧ which ≤ 255) (h : b = false → fewB l cs = true ∧ fitsB l cs = true ∧ cs.length ≠ 0 ∧ 0 ≤ n ∧ n ≤ 1000000) :
    Tells (fun k => customhouselaw25_FormulaTests.j0 k cs which n true b l) true := by
  cases b
  · obtain ⟨hw, hf, hc, h0, h1⟩ := h rfl
    obtain ⟨hv, hl⟩ := fits_valid hf
    have hw1 : wrap64 which = which := by unfold wrap64; omega
    obtain ⟨i, hi⟩ : ∃ i : Nat, (i : Int) = Int.tmod which (cs.length : Int) := ⟨(Int.tmod which (cs.length : Int)).toNat, by
      have := Int.tmod_nonneg (cs.length : Int) hwh.1
      omega⟩
    have hlt : i < cs.length := by
      have := Int.tmod_lt_of_pos which (show (0 : Int) < (cs.length : Int) by omega)
      omega
    have hlt2 : i < l.length := by omega
    have hrd : rd_T49 l (i : Int) = l[i] := by simp [rd_T49, List.getD_eq_getElem?_getD, List.getElem?_eq_getElem hlt2]
    cases hk : isKey l[i].f0
    · refine Tells.step (h := fun k => customhouselaw25_FormulaTests.l0 k cs n true i [((rd cs i) == n), ((rd cs i) != n), decide ((rd cs i) < n), decide ((rd cs i) ≤ n), decide ((rd cs i) > n), decide ((rd cs i) ≥ n)] ((0 : Nat) : Int) l) (fun k => ?_) ?_
      · simp only [customhouselaw25_FormulaTests.j0]
        rw [if_neg (by decide), if_neg (by omega), hw1, ← hi, if_pos (by omega), if_pos (by omega), hrd, key_f, hk]
        simp only [Option.bind_some, Bool.false_eq_true, if_false]
        rw [if_pos (by omega)]
        rfl
      · have st := fun j hj ha => six_step l cs hw hf i hlt2 hk n h0 h1 [((rd cs i) == n), ((rd cs i) != n), decide ((rd cs i) < n), decide ((rd cs i) ≤ n), decide ((rd cs i) > n), decide ((rd cs i) ≥ n)] rfl j hj ha
        have hr : rd cs (i : Int) = cs.getD i 0 := rfl
        refine st 0 (by decide) (by simp [cmpB, hr]) (st 1 (by decide) (by simp [cmpB, hr]) (st 2 (by decide) (by simp [cmpB, hr]) (st 3 (by decide) (by simp [cmpB, hr]) (st 4 (by decide) (by simp [cmpB, hr]) (st 5 (by decide) (by simp [cmpB, hr]) ?_)))))
        exact six_end l cs hw hf i hlt2 hk n h0 h1 _ rfl
    · refine Tells.step (fun k => ?_) Tells.same
      simp only [customhouselaw25_FormulaTests.j0]
      rw [if_neg (by decide), if_neg (by omega), hw1, ← hi, if_pos (by omega), if_pos (by omega), hrd, key_f, hk]
      rfl
  · exact Tells.step (h := fun _ => some true) (fun k => by simp [customhouselaw25_FormulaTests.j0]) Tells.same
theorem tests_true (l : List S49) (hl : l.length ≤ 9223372036854775807) (hh : ∀ x ∈ l, HeldFact x) (cs : List Int) (hc : cs.length ≤ 9223372036854775807) (hcs : ∀ x ∈ cs, (Lit.int .i64 x).wf = true) (which : Int) (hwh : (Lit.int .u8 which).wf = true) (n : Int) (hn : (Lit.int .i64 n).wf = true) :
    ∃ k, customhouselaw25_FormulaTests.f k l cs which n = some true := by
  refine Tells.run ?_
  unfold customhouselaw25_FormulaTests.f
  have hb := bounds_u8 hwh
  have up : ∀ b : Bool, (b = false → fewB l cs = true ∧ fitsB l cs = true ∧ cs.length ≠ 0 ∧ 0 ≤ n ∧ n ≤ 1000000) → _ := fun b h => j0_true l cs which n b hb h
  refine Tells.bind (Tells.of (show customhouselaw25_head.f = some true from rfl)) ?_
  refine Tells.bind (few_tells l cs hl) ?_
  cases h1 : fewB l cs
  · exact up _ (fun h => by cases h)
  · simp only [if_true]
    refine Tells.bind (Tells.of (fits_f h1)) ?_
    cases h2 : fitsB l cs
    · exact up _ (fun h => by cases h)
    · simp only [if_true]
      by_cases h3 : (cs.length : Int) = 0
      · simp only [h3, if_true]; exact up _ (fun h => by cases h)
      · simp only [h3, if_false]
        by_cases h4 : n < 0
        · simp only [h4, if_true]; exact up _ (fun h => by cases h)
        · simp only [h4, if_false]
          exact up _ (fun h => ⟨h1, h2, by omega, by omega, by simpa using h⟩)
end Go.Proofs.YtkgmempifggajaaGreatDoor.PLawFormulaTests
