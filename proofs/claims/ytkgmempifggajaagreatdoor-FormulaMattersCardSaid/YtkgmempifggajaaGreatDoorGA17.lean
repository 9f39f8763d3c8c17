/- What the statement's proof builds on: ValidLaw. -/
import Derived.Test.YtkgmempifggajaaGreatDoorGA11
-- the text YtkgmempifggajaaGreatDoorValidLaw
/- What a valid domain and a case that fits are; tests of facts. -/
namespace Go.Proofs.YtkgmempifggajaaGreatDoor.P
set_option linter.unusedVariables false
set_option linter.unusedSimpArgs false

theorem letterB_eq (c : UInt8) : letterB c = isLetter c := by
  have := u8_all (fun c => letterB c == isLetter c) (by decide +kernel) c
  simpa using this
theorem digitB_eq (c : UInt8) : digitB c = (isDigit c || c == 95) := by
  have := u8_all (fun c => digitB c == (isDigit c || c == 95)) (by decide +kernel) c
  simpa using this
theorem nameAt_succ (i : Nat) (c : UInt8) : nameAt (i + 1) c = isWord c := by
  unfold nameAt isWord
  rw [letterB_eq, digitB_eq]
  simp [Bool.or_assoc]
theorem nameAt_zero (c : UInt8) : nameAt 0 c = isLetter c := by
  unfold nameAt
  rw [letterB_eq]
  simp
theorem name_all (r : List UInt8) (k : Nat) : (List.range r.length).all (fun i => nameAt (i + 1) (r.getD i 0)) = r.all isWord := by
  rw [Bool.eq_iff_iff, List.all_eq_true, List.all_eq_true]
  constructor
  · intro h x hx
    obtain ⟨i, hi⟩ := List.getElem?_of_mem hx
    have hlt : i < r.length := (List.getElem?_eq_some_iff.1 hi).1
    have := h i (List.mem_range.2 hlt)
    rw [nameAt_succ, List.getD_eq_getElem?_getD, hi] at this
    exact this
  · intro h i hi
    have hlt := List.mem_range.1 hi
    rw [nameAt_succ, List.getD_eq_getElem?_getD, List.getElem?_eq_getElem hlt]
    exact h _ (List.getElem_mem hlt)
theorem nameOk_isName (s : ByteArray) : nameOk s = isName s.data.toList := by
  unfold nameOk
  have hs : s.size = s.data.toList.length := by rw [Array.length_toList]; rfl
  rw [hs]
  cases h : s.data.toList with
  | nil => simp [isName]
  | cons c r =>
    simp only [List.length_cons, isName]
    rw [List.range_succ_eq_map, List.all_cons, List.all_map]
    simp only [List.getD_cons_zero, nameAt_zero]
    have e : (List.range r.length).all ((fun i => nameAt i ((c :: r).getD i 0)) ∘ Nat.succ) = r.all isWord := by
      rw [← name_all r 0]
      rfl
    rw [e]
    have h24 : decide (r.length + 1 ≤ 24) = decide (r.length ≤ 23) := by rw [decide_eq_decide]; omega
    rw [h24]
    simp only [ne_eq, Nat.add_one_ne_zero, not_false_eq_true, decide_true, Bool.true_and]
    cases isLetter c <;> cases r.all isWord <;> cases decide (r.length ≤ 23) <;> rfl
theorem valid_at {l : List Fact} (h : validB l = true) (k : Nat) (hk : k < l.length) : factOk l[k] = true ∧ seenIn (l.take k) l[k].f0 = false := by
  unfold validB at h
  simp only [Bool.and_eq_true] at h
  have := List.all_eq_true.1 h.1 k (List.mem_range.2 hk)
  unfold factAt at this
  have hg : l.getD k z49 = l[k] := by simp [List.getD_eq_getElem?_getD, List.getElem?_eq_getElem hk]
  rw [hg] at this
  simp only [Bool.and_eq_true, Bool.not_eq_true'] at this
  exact this
theorem valid_name {l : List Fact} (h : validB l = true) (k : Nat) (hk : k < l.length) : isName l[k].f0.data.toList = true := by
  have := (valid_at h k hk).1
  unfold factOk at this
  simp only [Bool.and_eq_true] at this
  rw [← nameOk_isName]
  exact this.2
theorem toList_data (s : ByteArray) : s.toList = s.data.toList := by rw [ByteArray.toList_eq]
theorem index_valid {l : List Fact} (h : validB l = true) (k : Nat) (hk : k < l.length) : indexOf l l[k].f0 = k := by
  refine idxBy_hit hk (fun j hj => ?_) ?_
  · have := (valid_at h k hk).2
    unfold seenIn at this
    rw [List.any_eq_false] at this
    have hj2 : j < l.length := by omega
    have hm : l[j] ∈ l.take k := by
      rw [List.mem_take_iff_getElem]
      exact ⟨j, by omega, rfl⟩
    have := this _ hm
    unfold named
    rw [toList_data, toList_data]
    simpa using this
  · unfold named
    exact beq_self_eq_true _
theorem fits_valid {l : List Fact} {cs : List Int} (h : fitsB l cs = true) : validB l = true ∧ cs.length = l.length := by
  unfold fitsB at h
  simp only [Bool.and_eq_true, beq_iff_eq] at h
  exact h.1
theorem fits_at {l : List Fact} {cs : List Int} (h : fitsB l cs = true) (k : Nat) (hk : k < l.length) : inAt l cs k = true := by
  unfold fitsB at h
  simp only [Bool.and_eq_true] at h
  exact List.all_eq_true.1 h.2 k (List.mem_range.2 hk)
/-- A test as a formula. -/
def testFm (name : ByteArray) (cmp n : Int) : Fm := ⟨3, name, cmp, n, []⟩
theorem check_test (l : List Fact) (name : ByteArray) (cmp n : Int) (hn : isName name.data.toList = true) (hk : isKey name = false) (h0 : 0 ≤ n) (h1 : n ≤ 1000000) (hi : 0 ≤ indexOf l name) :
    checkF (testFm name cmp n) l = if 1 ≤ cmp ∧ cmp ≤ 6 then 0 else 1 := by
  have hL : isLarge (testFm name cmp n) = false := by simp [testFm, isLarge, size, sizes, depth, depths]
  unfold checkF
  rw [if_neg (by rw [hL]; decide), firstE_eq]
  have hF : formedB (testFm name cmp n) = (decide (1 ≤ cmp) && decide (cmp ≤ 6)) := by
    unfold formedB testFm
    simp [hn, hk]
  by_cases hc : 1 ≤ cmp ∧ cmp ≤ 6
  · have hcn : checkNode l (testFm name cmp n) = 0 := by
      unfold checkNode
      have e : formedB (testFm name cmp n) = true := by rw [hF]; simp [hc]
      have e2 : ¬ ((testFm name cmp n).f0 ≠ 3) := by simp [testFm]
      have e3 : ¬ ((testFm name cmp n).f3 < 0 ∨ 1000000 < (testFm name cmp n).f3) := by simp [testFm]; omega
      have e4 : ¬ (indexOf l (testFm name cmp n).f1 < 0) := by simp [testFm]; omega
      rw [if_neg (by rw [e]; decide), if_neg e2, if_neg e3, if_neg e4]
    rw [if_pos hc, if_pos hcn]
    simp [testFm, firstEs]
  · have hcn : checkNode l (testFm name cmp n) = 1 := by
      unfold checkNode
      have e : formedB (testFm name cmp n) = false := by
        rw [hF, Bool.and_eq_false_iff]
        simp
        omega
      rw [if_pos e]
    rw [if_neg hc, hcn]
    rfl
theorem holds_test (l : List Fact) (cs : List Int) (hf : fitsB l cs = true) (i : Nat) (hi : i < l.length) (hk : isKey l[i].f0 = false) (cmp n : Int) (h0 : 0 ≤ n) (h1 : n ≤ 1000000) :
    holdsF (testFm l[i].f0 cmp n) l cs = (decide (1 ≤ cmp ∧ cmp ≤ 6) && cmpB cmp (cs.getD i 0) n) := by
  obtain ⟨hv, hl⟩ := fits_valid hf
  have hx := index_valid hv i hi
  unfold holdsF
  rw [check_test l l[i].f0 cmp n (valid_name hv i hi) hk h0 h1 (by omega), hf]
  have hE : holdsE (valOf l cs) (testFm l[i].f0 cmp n) = cmpB cmp (cs.getD i 0) n := by
    rw [holdsE_eq]
    simp [testFm, valOf, hx]
  rw [hE]
  by_cases hc : 1 ≤ cmp ∧ cmp ≤ 6
  · rw [if_pos hc, decide_eq_true hc]; simp
  · rw [if_neg hc, decide_eq_false hc]; simp
end Go.Proofs.YtkgmempifggajaaGreatDoor.P
