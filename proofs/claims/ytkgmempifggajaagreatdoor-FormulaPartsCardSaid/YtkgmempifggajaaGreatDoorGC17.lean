/- What the statement's proof builds on: PureFewFormulaMatters, PureGoodFormulaMatters. -/
import Derived.Test.YtkgmempifggajaaGreatDoorGC14
import Derived.Test.YtkgmempifggajaaGreatDoorGC3
import Derived.Test.YtkgmempifggajaaGreatDoorGC16
import Derived.Test.YtkgmempifggajaaGreatDoorGC15
import Derived.Test.YtkgmempifggajaaGreatDoorGC11
import Derived.Test.YtkgmempifggajaaGreatDoorGC13
-- the text YtkgmempifggajaaGreatDoorPureFewFormulaMatters
/- few tells whether a domain and a case are small. -/
namespace Go.Proofs.YtkgmempifggajaaGreatDoor.PLawFormulaMatters
open Go.RowKit Go.Proofs.YtkgmempifggajaaGreatDoorW.PrintWords Go.Proofs.YtkgmempifggajaaGreatDoorW.PrintLast Go.Proofs.YtkgmempifggajaaGreatDoorW.PrintMore
open Go.Proofs.YtkgmempifggajaaGreatDoor.P
set_option linter.unusedVariables false
set_option linter.unusedSimpArgs false

/-- At most 70 facts and values, names of at most 60 bytes. -/
def fewB (l : List S49) (cs : List Int) : Bool := l.all (fun f => decide ((f.f0.size : Int) ≤ 60)) && decide ((l.length : Int) ≤ 70) && decide ((cs.length : Int) ≤ 70)
theorem few_loop (l : List S49) (cs : List Int) (hl : l.length ≤ 9223372036854775807) :
    ∀ d i : Nat, i + d = l.length → Tells (fun k => customhouselaw25_few.l0 k cs i l) ((l.drop i).all (fun f => decide ((f.f0.size : Int) ≤ 60)) && decide ((l.length : Int) ≤ 70) && decide ((cs.length : Int) ≤ 70)) := by
  intro d
  induction d with
  | zero =>
    intro i hi
    refine Tells.step (fun k => ?_) Tells.same
    simp only [customhouselaw25_few.l0]
    rw [if_neg (by omega), List.drop_eq_nil_of_le (by omega)]
    by_cases h : (l.length : Int) ≤ 70
    · rw [if_pos h]; simp [h]
    · rw [if_neg h]; simp [h]
  | succ d ihd =>
    intro i hi
    have hlt : i < l.length := by omega
    have hrd : rd_T49 l (i : Int) = l[i] := by simp [rd_T49, List.getD_eq_getElem?_getD, List.getElem?_eq_getElem hlt]
    rw [List.drop_eq_getElem_cons hlt, List.all_cons]
    by_cases h : (l[i].f0.size : Int) > 60
    · have e : decide ((l[i].f0.size : Int) ≤ 60) = false := by simp; omega
      rw [e]
      refine Tells.step (fun k => ?_) Tells.same
      simp only [customhouselaw25_few.l0]
      rw [if_pos (by omega), if_pos (by omega), hrd, if_pos h]
      simp
    · have e : decide ((l[i].f0.size : Int) ≤ 60) = true := by simp; omega
      rw [e, Bool.true_and]
      refine Tells.step (fun k => ?_) (ihd (i + 1) (by omega))
      simp only [customhouselaw25_few.l0]
      rw [if_pos (by omega), if_pos (by omega), hrd, if_neg h]
      have : wrap64 ((i : Int) + 1) = ((i + 1 : Nat) : Int) := by unfold wrap64; omega
      rw [this]
theorem few_tells (l : List S49) (cs : List Int) (hl : l.length ≤ 9223372036854775807) : Tells (fun k => customhouselaw25_few.f k l cs) (fewB l cs) := by
  have := few_loop l cs hl l.length 0 (by omega)
  exact this
theorem few_dom {l : List S49} {cs : List Int} (h : fewB l cs = true) : l.length ≤ 70 ∧ cs.length ≤ 70 ∧ ∀ k (hk : k < l.length), l[k].f0.size ≤ 60 := by
  unfold fewB at h
  simp only [Bool.and_eq_true, decide_eq_true_eq, List.all_eq_true] at h
  exact ⟨by omega, by omega, fun k hk => by have := h.1.1 _ (List.getElem_mem hk); omega⟩
theorem few_ok {l : List S49} {cs : List Int} (h : fewB l cs = true) : okDom l = true := by
  obtain ⟨h1, _, h3⟩ := few_dom h
  unfold okDom
  simp only [Bool.and_eq_true, List.all_eq_true, decide_eq_true_eq]
  refine ⟨by omega, fun x hx => ?_⟩
  obtain ⟨i, hi, rfl⟩ := List.mem_iff_getElem.1 hx
  have := h3 i hi
  omega
theorem fits_f {l : List S49} {cs : List Int} (h : fewB l cs = true) : fact_Fits.f l cs = some (fitsB l cs) := if_pos (few_ok h)
end Go.Proofs.YtkgmempifggajaaGreatDoor.PLawFormulaMatters
-- the text YtkgmempifggajaaGreatDoorPureGoodFormulaMatters
/- good tells whether a formula is well-formed, small and of few levels, and a case fits. -/
namespace Go.Proofs.YtkgmempifggajaaGreatDoor.PLawFormulaMatters
open Go.RowKit Go.Proofs.YtkgmempifggajaaGreatDoorW.PrintWords Go.Proofs.YtkgmempifggajaaGreatDoorW.PrintLast Go.Proofs.YtkgmempifggajaaGreatDoorW.PrintMore
open Go.Proofs.YtkgmempifggajaaGreatDoor.P
set_option linter.unusedVariables false
set_option linter.unusedSimpArgs false

/-- What good says when it says yes. -/
structure Good (x : S24) (l : List S49) (cs : List Int) : Prop where
  size : size x ≤ 60
  few : fewB l cs = true
  fits : fitsB l cs = true
  depth : depth x ≤ 16
  check : checkF x l = 0
theorem good_tells {x : S24} (hx : Low x) (l : List S49) (cs : List Int) (hl : l.length ≤ 9223372036854775807) :
    ∃ b, Tells (fun k => customhouselaw25_good.f k x.f0 x.f1 x.f2 x.f3 x.f4 l cs) b ∧ (b = true → Good x l cs) := by
  have no : Tells (fun k => customhouselaw25_good.j0 k true x.f0 x.f1 x.f2 x.f3 x.f4 l) false := Tells.step (h := fun _ => some false) (fun k => by simp [customhouselaw25_good.j0]) Tells.same
  by_cases h1 : (P.size x : Int) ≤ 60
  · obtain ⟨k1, b1, g1⟩ := short_all hx
    have hz : formula_Size.f x.f0 x.f1 x.f2 x.f3 x.f4 = some ((P.size x : Int), (P.depth x : Int)) := size_fm x (by omega)
    have hck : formula_Check.f x.f0 x.f1 x.f2 x.f3 x.f4 l = some (checkF x l) := check_fm x l (by omega)
    have yes : ∀ t116, Tells (fun k => customhouselaw25_good.j0 k (!t116) x.f0 x.f1 x.f2 x.f3 x.f4 l) (t116 && decide ((P.depth x : Int) ≤ 16) && checkF x l == 0) := by
      intro t
      cases t
      · exact no
      · by_cases hd : (P.depth x : Int) ≤ 16
        · refine Tells.step (h := fun _ => some (checkF x l == 0)) (fun k => ?_) (by rw [decide_eq_true hd]; exact Tells.same)
          simp only [customhouselaw25_good.j0]
          rw [hz]
          simp only [Option.bind_some, Bool.not_true, Bool.false_eq_true, if_false]
          rw [if_pos hd, hck]
          rfl
        · refine Tells.step (h := fun _ => some false) (fun k => ?_) (by rw [decide_eq_false hd]; exact Tells.same)
          simp only [customhouselaw25_good.j0]
          rw [hz]
          simp only [Option.bind_some, Bool.not_true, Bool.false_eq_true, if_false]
          rw [if_neg hd]
    refine ⟨b1 && (fewB l cs && (fitsB l cs && decide ((P.depth x : Int) ≤ 16) && checkF x l == 0)), ?_, fun h => ?_⟩
    · unfold customhouselaw25_good.f
      refine Tells.bind (small_tells x hx 60 (by decide) (by decide)) ?_
      rw [decide_eq_true h1]
      simp only [if_true]
      refine Tells.bind (a := b1) ⟨k1, g1⟩ ?_
      cases b1
      · exact no
      · simp only [if_true, Bool.true_and]
        refine Tells.bind (few_tells l cs hl) ?_
        cases hw : fewB l cs
        · exact no
        · simp only [if_true, Bool.true_and]
          exact Tells.bind (Tells.of (fits_f hw)) (yes _)
    · simp only [Bool.and_eq_true, decide_eq_true_eq, beq_iff_eq] at h
      exact ⟨by omega, h.2.1, h.2.2.1.1, by omega, h.2.2.2⟩
  · refine ⟨false, ?_, fun h => by cases h⟩
    unfold customhouselaw25_good.f
    refine Tells.bind (small_tells x hx 60 (by decide) (by decide)) ?_
    rw [decide_eq_false h1]
    exact no
end Go.Proofs.YtkgmempifggajaaGreatDoor.PLawFormulaMatters
