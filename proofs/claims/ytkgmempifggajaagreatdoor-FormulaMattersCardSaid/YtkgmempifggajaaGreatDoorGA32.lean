/- What the statement's proof builds on: PureMatters. -/
import Derived.Test.YtkgmempifggajaaGreatDoorGA30
import Derived.Test.YtkgmempifggajaaGreatDoorGA31
-- the text YtkgmempifggajaaGreatDoorPureMatters
/- FormulaMatters: what the law computes is true. -/
namespace Go.Proofs.YtkgmempifggajaaGreatDoor.PLawFormulaMatters
open Go.RowKit Go.Proofs.YtkgmempifggajaaGreatDoorW.PrintWords Go.Proofs.YtkgmempifggajaaGreatDoorW.PrintLast Go.Proofs.YtkgmempifggajaaGreatDoorW.PrintMore
open Go.Proofs.YtkgmempifggajaaGreatDoor.P
set_option linter.unusedVariables false
set_option linter.unusedSimpArgs false

theorem named_loop (nm : ByteArray) (op : Int) (name : ByteArray) (c n : Int) (l : List S24) (hl : l.length ≤ 9223372036854775807)
    (ih : ∀ j (hj : j < l.length), Tells (fun k => customhouselaw25_named.f k l[j].f0 l[j].f1 l[j].f2 l[j].f3 l[j].f4 nm) (namedB nm l[j])) :
    ∀ d i : Nat, i + d = l.length → Tells (fun k => customhouselaw25_named.l0 k nm i op name c n l) (namedsB nm (l.drop i)) := by
  intro d
  induction d with
  | zero =>
    intro i hi
    refine Tells.step (fun k => ?_) Tells.same
    simp only [customhouselaw25_named.l0]
    rw [if_neg (by omega), List.drop_eq_nil_of_le (by omega)]
    rfl
  | succ d ihd =>
    intro i hi
    have hlt : i < l.length := by omega
    rw [List.drop_eq_getElem_cons hlt]
    simp only [namedsB]
    have w1 : wrap64 ((i : Int) + 1) = ((i + 1 : Nat) : Int) := by unfold wrap64; omega
    refine Tells.step (h := fun k => (customhouselaw25_named.f k l[i].f0 l[i].f1 l[i].f2 l[i].f3 l[i].f4 nm).bind fun t => if t = true then some true else customhouselaw25_named.l0 k nm ((i + 1 : Nat) : Int) op name c n l) (fun k => ?_) ?_
    · simp only [customhouselaw25_named.l0]
      rw [if_pos (by omega), if_pos (by omega), rd_at l i hlt, w1]
    · refine Tells.bind (ih i hlt) ?_
      cases h : namedB nm l[i]
      · simpa using ihd (i + 1) (by omega)
      · exact Tells.same
theorem named_all (nm : ByteArray) {x : S24} (h : Low x) : Tells (fun k => customhouselaw25_named.f k x.f0 x.f1 x.f2 x.f3 x.f4 nm) (namedB nm x) := by
  induction h with
  | mk x hl _ ih =>
    rw [namedB_eq]
    have g := named_loop nm x.f0 x.f1 x.f2 x.f3 x.f4 hl ih x.f4.length 0 (by omega)
    have j : ∀ b, Tells (fun k => customhouselaw25_named.j0 k nm b x.f0 x.f1 x.f2 x.f3 x.f4) (b || namedsB nm x.f4) := by
      intro b
      cases b
      · refine Tells.step (fun k => ?_) g
        simp only [customhouselaw25_named.j0]
        rfl
      · exact Tells.step (h := fun _ => some true) (fun k => by simp [customhouselaw25_named.j0]) Tells.same
    by_cases h3 : x.f0 = 3
    · refine Tells.step (fun k => ?_) (j ((x.f0 == 3) && (x.f1.toList == nm.toList)))
      simp only [customhouselaw25_named.f]
      rw [if_pos h3]
      simp [h3]
    · have e : (x.f0 == 3) = false := by simpa using h3
      refine Tells.step (fun k => ?_) (j ((x.f0 == 3) && (x.f1.toList == nm.toList)))
      simp only [customhouselaw25_named.f]
      rw [if_neg h3, e]
      rfl
theorem mixed_loop {x : S24} (hx : Low x) {l : List S49} {a b : List Int} (hg : Good x l a) (hb : fitsB l b = true) :
    ∀ d i : Nat, i + d = l.length → ∀ m : List Int, m.length = l.length → (∀ j, j < l.length → m.getD j 0 = a.getD j 0 ∨ m.getD j 0 = b.getD j 0) →
      (∀ j (hj : j < l.length), j < i → namedB l[j].f0 x = true → a.getD j 0 = m.getD j 0) →
      Tells (fun k => customhouselaw25_FormulaMatters.l0 k a true m i x.f0 x.f1 x.f2 x.f3 x.f4 l) true := by
  have hfew := few_dom hg.few
  have hal := (fits_valid hg.fits).2
  intro d
  induction d with
  | zero =>
    intro i hi m hm h1 h2
    refine Tells.step (fun k => ?_) Tells.same
    simp only [customhouselaw25_FormulaMatters.l0]
    rw [if_neg (by omega), if_pos trivial, holds_good hg, holds_good hg]
    simp only [Option.bind_some]
    rw [holds_agree x l a m hg.fits (fits_mixed hg.fits hb hm h1) hg.check (fun j hj hn => h2 j hj (by omega) hn)]
    simp
  | succ d ihd =>
    intro i hi m hm h1 h2
    have hlt : i < l.length := by omega
    have hrd : rd_T49 l (i : Int) = l[i] := by simp [rd_T49, List.getD_eq_getElem?_getD, List.getElem?_eq_getElem hlt]
    have w1 : wrap64 ((i : Int) + 1) = ((i + 1 : Nat) : Int) := by unfold wrap64; omega
    refine Tells.step (h := fun k => (customhouselaw25_named.f k x.f0 x.f1 x.f2 x.f3 x.f4 l[i].f0).bind fun t => if t = true then customhouselaw25_FormulaMatters.l0 k a true (m.set i (a.getD i 0)) ((i + 1 : Nat) : Int) x.f0 x.f1 x.f2 x.f3 x.f4 l else customhouselaw25_FormulaMatters.l0 k a true m ((i + 1 : Nat) : Int) x.f0 x.f1 x.f2 x.f3 x.f4 l) (fun k => ?_) ?_
    · simp only [customhouselaw25_FormulaMatters.l0]
      rw [if_pos (by omega), if_pos (by omega), hrd, w1, if_pos (by omega), if_pos (by omega)]
      rfl
    · refine Tells.bind (named_all l[i].f0 hx) ?_
      cases h : namedB l[i].f0 x
      · refine Tells.eq (fun k => ?_) (ihd (i + 1) (by omega) m hm h1 (fun j hj hji hn => ?_))
        · simp
        · by_cases hj2 : j < i
          · exact h2 j hj hj2 hn
          · obtain rfl : j = i := by omega
            rw [h] at hn; cases hn
      · refine Tells.eq (fun k => ?_) (ihd (i + 1) (by omega) (m.set i (a.getD i 0)) (by simpa using hm) (fun j hj => ?_) (fun j hj hji hn => ?_))
        · simp
        · by_cases hji : j = i
          · subst hji; left; simp [List.getD_eq_getElem?_getD, List.getElem?_set, hm, hj]
          · rcases h1 j hj with hh | hh
            · left; rw [← hh]; simp [List.getD_eq_getElem?_getD, List.getElem?_set, Ne.symm hji]
            · right; rw [← hh]; simp [List.getD_eq_getElem?_getD, List.getElem?_set, Ne.symm hji]
        · by_cases hj2 : j = i
          · subst hj2; simp [List.getD_eq_getElem?_getD, List.getElem?_set, hm, hj]
          · rw [h2 j hj (by omega) hn]; simp [List.getD_eq_getElem?_getD, List.getElem?_set, Ne.symm hj2]
theorem matters_true (x : S24) (hx : Held x) (l : List S49) (hl : l.length ≤ 9223372036854775807) (hh : ∀ y ∈ l, HeldFact y) (a : List Int) (ha : a.length ≤ 9223372036854775807) (hha : ∀ y ∈ a, (Lit.int .i64 y).wf = true) (b : List Int) (hb : b.length ≤ 9223372036854775807) (hhb : ∀ y ∈ b, (Lit.int .i64 y).wf = true) :
    ∃ k, customhouselaw25_FormulaMatters.f k x.f0 x.f1 x.f2 x.f3 x.f4 l a b = some true := by
  refine Tells.run ?_
  unfold customhouselaw25_FormulaMatters.f
  have up : Tells (fun k => customhouselaw25_FormulaMatters.j0 k a b true true x.f0 x.f1 x.f2 x.f3 x.f4 l) true := Tells.step (h := fun _ => some true) (fun k => by simp [customhouselaw25_FormulaMatters.j0]) Tells.same
  refine Tells.bind (Tells.of (show customhouselaw25_head.f = some true from rfl)) ?_
  obtain ⟨g, hg1, hg2⟩ := good_tells hx.low l a hl
  refine Tells.bind hg1 ?_
  cases g
  · exact up
  · have hg := hg2 rfl
    simp only [if_true]
    refine Tells.bind (Tells.of (show fact_Fits.f l b = some (fitsB l b) from if_pos (few_ok hg.few))) ?_
    cases hf : fitsB l b
    · exact up
    · have hbl := (fits_valid hf).2
      have hfew := few_dom hg.few
      refine Tells.step (fun k => ?_) (mixed_loop hx.low hg hf l.length 0 (by omega) b hbl (fun j hj => .inr rfl) (fun j hj h => absurd h (by omega)))
      simp only [customhouselaw25_FormulaMatters.j0]
      simp only [Option.bind_some, Bool.not_true, Bool.false_eq_true, if_false, List.nil_append, List.length_nil]
      rw [if_pos (by omega)]
      rfl
end Go.Proofs.YtkgmempifggajaaGreatDoor.PLawFormulaMatters
