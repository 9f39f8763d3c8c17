/- What the statement's proof builds on: PureFewFormulaMatchesReference. -/
import Derived.Test.YtkgmempifggajaaGreatDoorGD16
import Derived.Test.YtkgmempifggajaaGreatDoorGD6
import Derived.Test.YtkgmempifggajaaGreatDoorGD18
-- the text YtkgmempifggajaaGreatDoorPureFewFormulaMatchesReference
/- few tells whether a domain and a case are small. -/
namespace Go.Proofs.YtkgmempifggajaaGreatDoor.PLawFormulaMatchesReference
open Go.RowKit Go.Proofs.YtkgmempifggajaaGreatDoorW.PrintWords Go.Proofs.YtkgmempifggajaaGreatDoorW.PrintLast Go.Proofs.YtkgmempifggajaaGreatDoorW.PrintMore
open Go.Proofs.YtkgmempifggajaaGreatDoor.P
set_option linter.unusedVariables false
set_option linter.unusedSimpArgs false

/-- At most 70 facts and values, names of at most 60 bytes. -/
def fewB (l : List S49) (cs : List Int) : Bool := l.all (fun f => decide ((f.f0.size : Int) ≤ 60)) && decide ((l.length : Int) ≤ 70) && decide ((cs.length : Int) ≤ 70)
theorem few_loop (l : List S49) (cs : List Int) (hl : l.length ≤ 9223372036854775807) :
    ∀ d i : Nat, i + d = l.length → Tells (fun k => customhouselaw25_few.l0 k cs i l) ((l.drop i).all (fun f => decide ((f.f0.size : Int) ≤ 60)) && decide ((l.length : Int) ≤ 70) && decide ((cs.length : Int) ≤ 70)) := by
  intro d
  induction d with
  | zero =>
    intro i hi
    refine Tells.step (fun k => ?_) Tells.same
    simp only [customhouselaw25_few.l0]
    rw [if_neg (by omega), List.drop_eq_nil_of_le (by omega)]
    by_cases h : (l.length : Int) ≤ 70
    · rw [if_pos h]; simp [h]
    · rw [if_neg h]; simp [h]
  | succ d ihd =>
    intro i hi
    have hlt : i < l.length := by omega
    have hrd : rd_T49 l (i : Int) = l[i] := by simp [rd_T49, List.getD_eq_getElem?_getD, List.getElem?_eq_getElem hlt]
    rw [List.drop_eq_getElem_cons hlt, List.all_cons]
    by_cases h : (l[i].f0.size : Int) > 60
    · have e : decide ((l[i].f0.size : Int) ≤ 60) = false := by simp; omega
      rw [e]
      refine Tells.step (fun k => ?_) Tells.same
      simp only [customhouselaw25_few.l0]
      rw [if_pos (by omega), if_pos (by omega), hrd, if_pos h]
      simp
    · have e : decide ((l[i].f0.size : Int) ≤ 60) = true := by simp; omega
      rw [e, Bool.true_and]
      refine Tells.step (fun k => ?_) (ihd (i + 1) (by omega))
      simp only [customhouselaw25_few.l0]
      rw [if_pos (by omega), if_pos (by omega), hrd, if_neg h]
      have : wrap64 ((i : Int) + 1) = ((i + 1 : Nat) : Int) := by unfold wrap64; omega
      rw [this]
theorem few_tells (l : List S49) (cs : List Int) (hl : l.length ≤ 9223372036854775807) : Tells (fun k => customhouselaw25_few.f k l cs) (fewB l cs) := by
  have := few_loop l cs hl l.length 0 (by omega)
  exact this
theorem few_dom {l : List S49} {cs : List Int} (h : fewB l cs = true) : l.length ≤ 70 ∧ cs.length ≤ 70 ∧ ∀ k (hk : k < l.length), l[k].f0.size ≤ 60 := by
  unfold fewB at h
  simp only [Bool.and_eq_true, decide_eq_true_eq, List.all_eq_true] at h
  exact ⟨by omega, by omega, fun k hk => by have := h.1.1 _ (List.getElem_mem hk); omega⟩
theorem few_ok {l : List S49} {cs : List Int} (h : fewB l cs = true) : okDom l = true := by
  obtain ⟨h1, _, h3⟩ := few_dom h
  unfold okDom
  simp only [Bool.and_eq_true, List.all_eq_true, decide_eq_true_eq]
  refine ⟨by omega, fun x hx => ?_⟩
  obtain ⟨i, hi, rfl⟩ := List.mem_iff_getElem.1 hx
  have := h3 i hi
  omega
theorem fits_f {l : List S49} {cs : List Int} (h : fewB l cs = true) : fact_Fits.f l cs = some (fitsB l cs) := if_pos (few_ok h)
end Go.Proofs.YtkgmempifggajaaGreatDoor.PLawFormulaMatchesReference
