/- What the statement's proof builds on: PureCountFormulaMatters, PureShortFormulaMatters, PureFewFormulaMatters, PureGoodFormulaMatters. -/
import Derived.Test.YtkgmempifggajaaGreatDoorGD27
import Derived.Test.YtkgmempifggajaaGreatDoorGD6
import Derived.Test.YtkgmempifggajaaGreatDoorGD18
import Derived.Test.YtkgmempifggajaaGreatDoorGD13
import Derived.Test.YtkgmempifggajaaGreatDoorGD15
-- the text YtkgmempifggajaaGreatDoorPureCountFormulaMatters
/- customhouseref25.Small tells whether a formula has at most so many nodes. -/
namespace Go.Proofs.YtkgmempifggajaaGreatDoor.PLawFormulaMatters
open Go.RowKit Go.Proofs.YtkgmempifggajaaGreatDoorW.PrintWords Go.Proofs.YtkgmempifggajaaGreatDoorW.PrintLast Go.Proofs.YtkgmempifggajaaGreatDoorW.PrintMore
open Go.Proofs.YtkgmempifggajaaGreatDoor.P
set_option linter.unusedVariables false
set_option linter.unusedSimpArgs false

theorem rd_at (l : List S24) (i : Nat) (h : i < l.length) : rd_T24 l (i : Int) = l[i] := by
  simp [rd_T24, List.getD_eq_getElem?_getD, List.getElem?_eq_getElem h]
theorem wrap_id (n : Int) (h0 : -9223372036854775808 ≤ n) (h1 : n ≤ 9223372036854775807) : wrap64 n = n := by unfold wrap64; omega
/-- What count tells of a formula. -/
def CountAt (x : S24) : Prop := ∀ m : Int, 0 ≤ m → m ≤ 1000000 → ∃ k0 r, (∀ k, k0 ≤ k → customhouseref25_count.f k x.f0 x.f1 x.f2 x.f3 x.f4 m = some r) ∧ 1 ≤ r ∧ r ≤ m + 1 ∧ (r ≤ m → r = size x) ∧ ((size x : Int) ≤ m → r ≤ m)
theorem count_loop (most : Int) (h0 : 0 ≤ most) (hm : most ≤ 1000000) (op : Int) (nm : ByteArray) (c n : Int) (l : List S24) (hl : l.length ≤ 9223372036854775807)
    (ih : ∀ j (hj : j < l.length), CountAt l[j]) :
    ∀ d i : Nat, i + d = l.length → ∀ acc : Int, 1 ≤ acc → acc ≤ most + 1 → (acc ≤ most → acc = 1 + sizes (l.take i)) → (most < acc → most < 1 + (sizes l : Int)) →
      ∃ k0 r, (∀ k, k0 ≤ k → customhouseref25_count.l0 k most acc i op nm c n l = some r) ∧ 1 ≤ r ∧ r ≤ most + 1 ∧ (r ≤ most → r = 1 + sizes l) ∧ (1 + (sizes l : Int) ≤ most → r ≤ most) := by
  intro d
  induction d with
  | zero =>
    intro i hi acc h1 h2 h3 h4
    refine ⟨1, acc, fun k hk => ?_, h1, h2, fun h => ?_, fun h => ?_⟩
    · obtain ⟨k, rfl⟩ : ∃ q, k = q + 1 := ⟨k - 1, by omega⟩
      simp only [customhouseref25_count.l0]
      rw [if_neg (by omega)]
    · rw [h3 h, show i = l.length by omega, List.take_length]
    · rcases Int.lt_or_le most acc with hh | hh
      · have := h4 hh; omega
      · exact hh
  | succ d ihd =>
    intro i hi acc h1 h2 h3 h4
    have hlt : i < l.length := by omega
    by_cases ha : acc ≤ most
    · obtain ⟨k1, r1, g1, g2, g3, g4, g5⟩ := ih i hlt (most - acc) (by omega) (by omega)
      have hsn := sizes_snoc l i hlt
      have hle := sizes_take_le l (i + 1)
      have e3 := h3 ha
      obtain ⟨k2, r, f1, f2, f3, f4, f5⟩ := ihd (i + 1) (by omega) (acc + r1) (by omega) (by omega) (fun h => by have := g4 (by omega); omega) (fun h => by
        rcases Int.lt_or_le (most - acc) (size l[i]) with hh | hh
        · omega
        · have := g5 hh; omega)
      refine ⟨max k1 k2 + 1, r, fun k hk => ?_, f2, f3, f4, f5⟩
      obtain ⟨k, rfl⟩ : ∃ q, k = q + 1 := ⟨k - 1, by omega⟩
      simp only [customhouseref25_count.l0]
      rw [if_pos (by omega), if_pos ha, if_pos (by omega), rd_at l i hlt, wrap_id (most - acc) (by omega) (by omega), g1 k (by omega)]
      simp only [Option.bind_some]
      rw [wrap_id (acc + r1) (by omega) (by omega), wrap_id ((i : Int) + 1) (by omega) (by omega)]
      have := f1 k (by omega)
      push_cast at this
      exact this
    · refine ⟨1, acc, fun k hk => ?_, h1, h2, fun h => absurd h ha, fun h => by have := h4 (by omega); omega⟩
      obtain ⟨k, rfl⟩ : ∃ q, k = q + 1 := ⟨k - 1, by omega⟩
      simp only [customhouseref25_count.l0]
      rw [if_pos (by omega), if_neg ha]

theorem count_all {x : S24} (h : Low x) : CountAt x := by
  induction h with
  | mk x hl _ ih =>
    intro m h0 h1
    have hs := size_eq x
    obtain ⟨k0, r, g1, g2, g3, g4, g5⟩ := count_loop m h0 h1 x.f0 x.f1 x.f2 x.f3 x.f4 hl ih x.f4.length 0 (by omega) 1 (by omega) (by omega) (fun _ => by simp [sizes]) (fun h => by omega)
    refine ⟨k0 + 1, r, fun k hk => ?_, g2, g3, fun h => by have := g4 h; omega, fun h => g5 (by omega)⟩
    obtain ⟨k, rfl⟩ : ∃ q, k = q + 1 := ⟨k - 1, by omega⟩
    simp only [customhouseref25_count.f]
    exact g1 k (by omega)
theorem small_tells (x : S24) (hx : Low x) (m : Int) (h0 : 0 ≤ m) (h1 : m ≤ 1000000) : ∃ k0, ∀ k, k0 ≤ k → customhouseref25_Small.f k x.f0 x.f1 x.f2 x.f3 x.f4 m = some (decide ((size x : Int) ≤ m)) := by
  obtain ⟨k0, r, g1, g2, g3, g4, g5⟩ := count_all hx m h0 h1
  refine ⟨k0, fun k hk => ?_⟩
  unfold customhouseref25_Small.f
  rw [g1 k hk]
  simp only [Option.bind_some, Option.some.injEq]
  rw [decide_eq_decide]
  exact ⟨fun h => by have := g4 h; omega, g5⟩
end Go.Proofs.YtkgmempifggajaaGreatDoor.PLawFormulaMatters
-- the text YtkgmempifggajaaGreatDoorPureShortFormulaMatters
/- short tells whether all names of a formula have at most 60 bytes. -/
namespace Go.Proofs.YtkgmempifggajaaGreatDoor.PLawFormulaMatters
open Go.RowKit Go.Proofs.YtkgmempifggajaaGreatDoorW.PrintWords Go.Proofs.YtkgmempifggajaaGreatDoorW.PrintLast Go.Proofs.YtkgmempifggajaaGreatDoorW.PrintMore
open Go.Proofs.YtkgmempifggajaaGreatDoor.P
set_option linter.unusedVariables false
set_option linter.unusedSimpArgs false

def ShortAt (x : S24) : Prop := ∃ k0 b, ∀ k, k0 ≤ k → customhouselaw25_short.f k x.f0 x.f1 x.f2 x.f3 x.f4 = some b
theorem short_loop (op : Int) (nm : ByteArray) (c n : Int) (l : List S24) (hl : l.length ≤ 9223372036854775807) (ih : ∀ j (hj : j < l.length), ShortAt l[j]) :
    ∀ d i : Nat, i + d = l.length → ∃ k0 b, ∀ k, k0 ≤ k → customhouselaw25_short.l0 k i op nm c n l = some b := by
  intro d
  induction d with
  | zero =>
    intro i hi
    refine ⟨1, decide ((nm.size : Int) ≤ 60), fun k hk => ?_⟩
    obtain ⟨k, rfl⟩ : ∃ q, k = q + 1 := ⟨k - 1, by omega⟩
    simp only [customhouselaw25_short.l0]
    rw [if_neg (by omega)]
  | succ d ihd =>
    intro i hi
    have hlt : i < l.length := by omega
    obtain ⟨k1, b1, g1⟩ := ih i hlt
    obtain ⟨k2, b2, g2⟩ := ihd (i + 1) (by omega)
    refine ⟨max k1 k2 + 1, if b1 = true then b2 else false, fun k hk => ?_⟩
    obtain ⟨k, rfl⟩ : ∃ q, k = q + 1 := ⟨k - 1, by omega⟩
    simp only [customhouselaw25_short.l0]
    rw [if_pos (by omega), if_pos (by omega), rd_at l i hlt, g1 k (by omega)]
    simp only [Option.bind_some]
    rw [wrap_id ((i : Int) + 1) (by omega) (by omega)]
    have := g2 k (by omega)
    push_cast at this
    cases b1
    · simp
    · simp [this]
theorem short_all {x : S24} (h : Low x) : ShortAt x := by
  induction h with
  | mk x hl _ ih =>
    obtain ⟨k0, b, g⟩ := short_loop x.f0 x.f1 x.f2 x.f3 x.f4 hl ih x.f4.length 0 (by omega)
    refine ⟨k0 + 1, b, fun k hk => ?_⟩
    obtain ⟨k, rfl⟩ : ∃ q, k = q + 1 := ⟨k - 1, by omega⟩
    simp only [customhouselaw25_short.f]
    exact g k (by omega)
end Go.Proofs.YtkgmempifggajaaGreatDoor.PLawFormulaMatters
-- the text YtkgmempifggajaaGreatDoorPureFewFormulaMatters
/- few tells whether a domain and a case are small. -/
namespace Go.Proofs.YtkgmempifggajaaGreatDoor.PLawFormulaMatters
open Go.RowKit Go.Proofs.YtkgmempifggajaaGreatDoorW.PrintWords Go.Proofs.YtkgmempifggajaaGreatDoorW.PrintLast Go.Proofs.YtkgmempifggajaaGreatDoorW.PrintMore
open Go.Proofs.YtkgmempifggajaaGreatDoor.P
set_option linter.unusedVariables false
set_option linter.unusedSimpArgs false

/-- At most 70 facts and values, names of at most 60 bytes. -/
def fewB (l : List S49) (cs : List Int) : Bool := l.all (fun f => decide ((f.f0.size : Int) ≤ 60)) && decide ((l.length : Int) ≤ 70) && decide ((cs.length : Int) ≤ 70)
theorem few_loop (l : List S49) (cs : List Int) (hl : l.length ≤ 9223372036854775807) :
    ∀ d i : Nat, i + d = l.length → Tells (fun k => customhouselaw25_few.l0 k cs i l) ((l.drop i).all (fun f => decide ((f.f0.size : Int) ≤ 60)) && decide ((l.length : Int) ≤ 70) && decide ((cs.length : Int) ≤ 70)) := by
  intro d
  induction d with
  | zero =>
    intro i hi
    refine Tells.step (fun k => ?_) Tells.same
    simp only [customhouselaw25_few.l0]
    rw [if_neg (by omega), List.drop_eq_nil_of_le (by omega)]
    by_cases h : (l.length : Int) ≤ 70
    · rw [if_pos h]; simp [h]
    · rw [if_neg h]; simp [h]
  | succ d ihd =>
    intro i hi
    have hlt : i < l.length := by omega
    have hrd : rd_T49 l (i : Int) = l[i] := by simp [rd_T49, List.getD_eq_getElem?_getD, List.getElem?_eq_getElem hlt]
    rw [List.drop_eq_getElem_cons hlt, List.all_cons]
    by_cases h : (l[i].f0.size : Int) > 60
    · have e : decide ((l[i].f0.size : Int) ≤ 60) = false := by simp; omega
      rw [e]
      refine Tells.step (fun k => ?_) Tells.same
      simp only [customhouselaw25_few.l0]
      rw [if_pos (by omega), if_pos (by omega), hrd, if_pos h]
      simp
    · have e : decide ((l[i].f0.size : Int) ≤ 60) = true := by simp; omega
      rw [e, Bool.true_and]
      refine Tells.step (fun k => ?_) (ihd (i + 1) (by omega))
      simp only [customhouselaw25_few.l0]
      rw [if_pos (by omega), if_pos (by omega), hrd, if_neg h]
      have : wrap64 ((i : Int) + 1) = ((i + 1 : Nat) : Int) := by unfold wrap64; omega
      rw [this]
theorem few_tells (l : List S49) (cs : List Int) (hl : l.length ≤ 9223372036854775807) : Tells (fun k => customhouselaw25_few.f k l cs) (fewB l cs) := by
  have := few_loop l cs hl l.length 0 (by omega)
  exact this
theorem few_dom {l : List S49} {cs : List Int} (h : fewB l cs = true) : l.length ≤ 70 ∧ cs.length ≤ 70 ∧ ∀ k (hk : k < l.length), l[k].f0.size ≤ 60 := by
  unfold fewB at h
  simp only [Bool.and_eq_true, decide_eq_true_eq, List.all_eq_true] at h
  exact ⟨by omega, by omega, fun k hk => by have := h.1.1 _ (List.getElem_mem hk); omega⟩
theorem few_ok {l : List S49} {cs : List Int} (h : fewB l cs = true) : okDom l = true := by
  obtain ⟨h1, _, h3⟩ := few_dom h
  unfold okDom
  simp only [Bool.and_eq_true, List.all_eq_true, decide_eq_true_eq]
  refine ⟨by omega, fun x hx => ?_⟩
  obtain ⟨i, hi, rfl⟩ := List.mem_iff_getElem.1 hx
  have := h3 i hi
  omega
theorem fits_f {l : List S49} {cs : List Int} (h : fewB l cs = true) : fact_Fits.f l cs = some (fitsB l cs) := if_pos (few_ok h)
end Go.Proofs.YtkgmempifggajaaGreatDoor.PLawFormulaMatters
-- the text YtkgmempifggajaaGreatDoorPureGoodFormulaMatters
/- good tells whether a formula is well-formed, small and of few levels, and a case fits. -/
namespace Go.Proofs.YtkgmempifggajaaGreatDoor.PLawFormulaMatters
open Go.RowKit Go.Proofs.YtkgmempifggajaaGreatDoorW.PrintWords Go.Proofs.YtkgmempifggajaaGreatDoorW.PrintLast Go.Proofs.YtkgmempifggajaaGreatDoorW.PrintMore
open Go.Proofs.YtkgmempifggajaaGreatDoor.P
set_option linter.unusedVariables false
set_option linter.unusedSimpArgs false

/-- What good says when it says yes. -/
structure Good (x : S24) (l : List S49) (cs : List Int) : Prop where
  size : size x ≤ 60
  few : fewB l cs = true
  fits : fitsB l cs = true
  depth : depth x ≤ 16
  check : checkF x l = 0
theorem good_tells {x : S24} (hx : Low x) (l : List S49) (cs : List Int) (hl : l.length ≤ 9223372036854775807) :
    ∃ b, Tells (fun k => customhouselaw25_good.f k x.f0 x.f1 x.f2 x.f3 x.f4 l cs) b ∧ (b = true → Good x l cs) := by
  have no : Tells (fun k => customhouselaw25_good.j0 k true x.f0 x.f1 x.f2 x.f3 x.f4 l) false := Tells.step (h := fun _ => some false) (fun k => by simp [customhouselaw25_good.j0]) Tells.same
  by_cases h1 : (P.size x : Int) ≤ 60
  · obtain ⟨k1, b1, g1⟩ := short_all hx
    have hz : formula_Size.f x.f0 x.f1 x.f2 x.f3 x.f4 = some ((P.size x : Int), (P.depth x : Int)) := size_fm x (by omega)
    have hck : formula_Check.f x.f0 x.f1 x.f2 x.f3 x.f4 l = some (checkF x l) := check_fm x l (by omega)
    have yes : ∀ t116, Tells (fun k => customhouselaw25_good.j0 k (!t116) x.f0 x.f1 x.f2 x.f3 x.f4 l) (t116 && decide ((P.depth x : Int) ≤ 16) && checkF x l == 0) := by
      intro t
      cases t
      · exact no
      · by_cases hd : (P.depth x : Int) ≤ 16
        · refine Tells.step (h := fun _ => some (checkF x l == 0)) (fun k => ?_) (by rw [decide_eq_true hd]; exact Tells.same)
          simp only [customhouselaw25_good.j0]
          rw [hz]
          simp only [Option.bind_some, Bool.not_true, Bool.false_eq_true, if_false]
          rw [if_pos hd, hck]
          rfl
        · refine Tells.step (h := fun _ => some false) (fun k => ?_) (by rw [decide_eq_false hd]; exact Tells.same)
          simp only [customhouselaw25_good.j0]
          rw [hz]
          simp only [Option.bind_some, Bool.not_true, Bool.false_eq_true, if_false]
          rw [if_neg hd]
    refine ⟨b1 && (fewB l cs && (fitsB l cs && decide ((P.depth x : Int) ≤ 16) && checkF x l == 0)), ?_, fun h => ?_⟩
    · unfold customhouselaw25_good.f
      refine Tells.bind (small_tells x hx 60 (by decide) (by decide)) ?_
      rw [decide_eq_true h1]
      simp only [if_true]
      refine Tells.bind (a := b1) ⟨k1, g1⟩ ?_
      cases b1
      · exact no
      · simp only [if_true, Bool.true_and]
        refine Tells.bind (few_tells l cs hl) ?_
        cases hw : fewB l cs
        · exact no
        · simp only [if_true, Bool.true_and]
          exact Tells.bind (Tells.of (fits_f hw)) (yes _)
    · simp only [Bool.and_eq_true, decide_eq_true_eq, beq_iff_eq] at h
      exact ⟨by omega, h.2.1, h.2.2.1.1, by omega, h.2.2.2⟩
  · refine ⟨false, ?_, fun h => by cases h⟩
    unfold customhouselaw25_good.f
    refine Tells.bind (small_tells x hx 60 (by decide) (by decide)) ?_
    rw [decide_eq_false h1]
    exact no
end Go.Proofs.YtkgmempifggajaaGreatDoor.PLawFormulaMatters
