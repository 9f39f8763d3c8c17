/- What the statement's proof builds on: PureGoodFormulaMatters. -/
import Derived.Test.YtkgmempifggajaaGreatDoorGA28
import Derived.Test.YtkgmempifggajaaGreatDoorGA29
-- the text YtkgmempifggajaaGreatDoorPureGoodFormulaMatters
/- good tells whether a formula is well-formed, small and of few levels, and a case fits. -/
namespace Go.Proofs.YtkgmempifggajaaGreatDoor.PLawFormulaMatters
open Go.RowKit Go.Proofs.YtkgmempifggajaaGreatDoorW.PrintWords Go.Proofs.YtkgmempifggajaaGreatDoorW.PrintLast Go.Proofs.YtkgmempifggajaaGreatDoorW.PrintMore
open Go.Proofs.YtkgmempifggajaaGreatDoor.P
set_option linter.unusedVariables false
set_option linter.unusedSimpArgs false

/-- What good says when it says yes. -/
structure Good (x : S24) (l : List S49) (cs : List Int) : Prop where
  size : size x ≤ 60
  few : fewB l cs = true
  fits : fitsB l cs = true
  depth : depth x ≤ 16
  check : checkF x l = 0
theorem good_tells {x : S24} (hx : Low x) (l : List S49) (cs : List Int) (hl : l.length ≤ 9223372036854775807) :
    ∃ b, Tells (fun k => customhouselaw25_good.f k x.f0 x.f1 x.f2 x.f3 x.f4 l cs) b ∧ (b = true → Good x l cs) := by
  have no : Tells (fun k => customhouselaw25_good.j0 k true x.f0 x.f1 x.f2 x.f3 x.f4 l) false := Tells.step (h := fun _ => some false) (fun k => by simp [customhouselaw25_good.j0]) Tells.same
  by_cases h1 : (P.size x : Int) ≤ 60
  · obtain ⟨k1, b1, g1⟩ := short_all hx
    have hz : formula_Size.f x.f0 x.f1 x.f2 x.f3 x.f4 = some ((P.size x : Int), (P.depth x : Int)) := size_fm x (by omega)
    have hck : formula_Check.f x.f0 x.f1 x.f2 x.f3 x.f4 l = some (checkF x l) := check_fm x l (by omega)
    have yes : ∀ t116, Tells (fun k => customhouselaw25_good.j0 k (!t116) x.f0 x.f1 x.f2 x.f3 x.f4 l) (t116 && decide ((P.depth x : Int) ≤ 16) && checkF x l == 0) := by
      intro t
      cases t
      · exact no
      · by_cases hd : (P.depth x : Int) ≤ 16
        · refine Tells.step (h := fun _ => some (checkF x l == 0)) (fun k => ?_) (by rw [decide_eq_true hd]; exact Tells.same)
          simp only [customhouselaw25_good.j0]
          rw [hz]
          simp only [Option.bind_some, Bool.not_true, Bool.false_eq_true, if_false]
          rw [if_pos hd, hck]
          rfl
        · refine Tells.step (h := fun _ => some false) (fun k => ?_) (by rw [decide_eq_false hd]; exact Tells.same)
          simp only [customhouselaw25_good.j0]
          rw [hz]
          simp only [Option.bind_some, Bool.not_true, Bool.false_eq_true, if_false]
          rw [if_neg hd]
    refine ⟨b1 && (fewB l cs && (fitsB l cs && decide ((P.depth x : Int) ≤ 16) && checkF x l == 0)), ?_, fun h => ?_⟩
    · unfold customhouselaw25_good.f
      refine Tells.bind (small_tells x hx 60 (by decide) (by decide)) ?_
      rw [decide_eq_true h1]
      simp only [if_true]
      refine Tells.bind (a := b1) ⟨k1, g1⟩ ?_
      cases b1
      · exact no
      · simp only [if_true, Bool.true_and]
        refine Tells.bind (few_tells l cs hl) ?_
        cases hw : fewB l cs
        · exact no
        · simp only [if_true, Bool.true_and]
          exact Tells.bind (Tells.of (fits_f hw)) (yes _)
    · simp only [Bool.and_eq_true, decide_eq_true_eq, beq_iff_eq] at h
      exact ⟨by omega, h.2.1, h.2.2.1.1, by omega, h.2.2.2⟩
  · refine ⟨false, ?_, fun h => by cases h⟩
    unfold customhouselaw25_good.f
    refine Tells.bind (small_tells x hx 60 (by decide) (by decide)) ?_
    rw [decide_eq_false h1]
    exact no
theorem holds_good {x : S24} {l : List S49} {cs : List Int} (h : Good x l cs) (c : List Int) : formula_Holds.f x.f0 x.f1 x.f2 x.f3 x.f4 l c = some (holdsF x l c) :=
  holds_fm x l c (by have := h.size; omega) (few_ok h.few)
end Go.Proofs.YtkgmempifggajaaGreatDoor.PLawFormulaMatters
