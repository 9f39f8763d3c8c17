/- What the statement's proof builds on: ConnLaw, PartsLaw. -/
import Derived.Test.YtkgmempifggajaaGreatDoorGC11
import Derived.Test.YtkgmempifggajaaGreatDoorGC10
import Derived.Test.YtkgmempifggajaaGreatDoorGC8
import Derived.Test.YtkgmempifggajaaGreatDoorGC13
import Derived.Carry
import Derived.Deep.RegionHeld3
import Derived.Great.BuildSlice
import Derived.Laws.EntriesVeiled
import Derived.Laws.Runes
import Derived.Lib.ItoaLen
import Derived.Lib.SmallJoins
import Derived.Maps.OwnSet
import Derived.OneCell
import Derived.Scope
import Derived.Shelf.LaysC
import Derived.Shelf.LaysM
import Derived.Shelf.Slices.Turned
import Derived.Shelf.Small.Strs
import Derived.Shelf.Small.Utf8
import Derived.Shelf.Strconv.Atoi
import Derived.Shelf.Strconv.AtoiAll
import Derived.Shelf.Strconv.AtoiErr
import Derived.Shelf.Strconv.AtoiErrFast
import Derived.Shelf.Strconv.AtoiFail
import Derived.Shelf.Strconv.AtoiInnerAll
import Derived.Shelf.Strconv.AtoiLong
import Derived.Shelf.Strconv.Clone
import Derived.Shelf.Strconv.ErrVar
import Derived.Shelf.Strconv.ErrVarAll
import Derived.Shelf.Strconv.Itoa0
import Derived.Shelf.Strconv.Itoa1
import Derived.Shelf.Strconv.Itoa2
import Derived.Shelf.Strconv.Itoa3
import Derived.Shelf.Strconv.Lower
import Derived.Shelf.Strconv.ParseInt10
import Derived.Shelf.Strconv.ParseIntEmpty
import Derived.Shelf.Strconv.ParseUint10
import Derived.Shelf.Strconv.ParseUint10Any
import Derived.Shelf.Strconv.ParseUint10Empty
import Derived.Shelf.Strconv.RangeError
import Derived.Shelf.Strconv.SyntaxError
import Derived.Shelf.Strconv.ToError
import Derived.Shelf.Strconv.ToErrorRange
import Derived.Shelf.Strings.AsciiSet
import Derived.Shelf.Strings.Builder1
import Derived.Shelf.Strings.Builder2
import Derived.Shelf.Strings.BuilderF
import Derived.Shelf.Strings.BuilderK
import Derived.Shelf.Strings.IndexAny
import Derived.Shelf.Strings.IndexAnyAll
import Derived.Shelf.Strings.OnBuilder
import Derived.Shelf.Strings.Prefix
import Derived.Shelf.Strings.Runes
import Derived.Shelf.Strings.Search1
import Derived.StringKeys
import Derived.Test.YtkgmempifggajaaGreatDoorProg
import Derived.Test.YtkgmempifggajaaGreatDoorWMore
import Derived.WalkLawsBesides
import Derived.WalkSpells
-- the text YtkgmempifggajaaGreatDoorConnLaw
/- Negations, conjunctions and disjunctions of well-formed formulas. -/
namespace Go.Proofs.YtkgmempifggajaaGreatDoor.P
set_option linter.unusedVariables false
set_option linter.unusedSimpArgs false

/-- A formula that Check accepts, with room for further nodes. -/
structure Room (x : Fm) (l : List Fact) (n d : Nat) : Prop where
  size : size x ≤ n
  depth : depth x ≤ d
  check : firstE (checkNode l) x = 0
def nFm (op : Int) (kids : List Fm) : Fm := ⟨op, ⟨#[]⟩, 0, 0, kids⟩
theorem room_check {x : Fm} {l : List Fact} {n d : Nat} (h : Room x l n d) (hn : n ≤ 200) (hd : d ≤ 20) : checkF x l = 0 := by
  have h1 := h.size
  have h2 := h.depth
  have hL : isLarge x = false := by
    unfold isLarge
    simp only [Bool.or_eq_false_iff, decide_eq_false_iff_not]
    omega
  unfold checkF
  rw [if_neg (by rw [hL]; decide)]
  exact h.check
theorem node_ok (op : Int) (kids : List Fm) (l : List Fact) (h : (op = 4 ∧ kids.length = 1) ∨ ((op = 5 ∨ op = 6) ∧ 2 ≤ kids.length)) : checkNode l (nFm op kids) = 0 := by
  have e0 : (⟨#[]⟩ : ByteArray).size = 0 := rfl
  have hf : formedB (nFm op kids) = true := by
    unfold formedB nFm
    rcases h with ⟨rfl, h⟩ | ⟨rfl | rfl, h⟩ <;> simp [e0, h]
  unfold checkNode
  rw [if_neg (by rw [hf]; decide), if_pos]
  show op ≠ 3
  rcases h with ⟨rfl, _⟩ | ⟨rfl | rfl, _⟩ <;> decide
section
variable {x y : Fm} {l : List Fact} {cs : List Int}
end
end Go.Proofs.YtkgmempifggajaaGreatDoor.P
-- the text YtkgmempifggajaaGreatDoorPartsLaw
/- The kids of a well-formed formula, and nodes that are not well-formed. -/
namespace Go.Proofs.YtkgmempifggajaaGreatDoor.P
set_option linter.unusedVariables false
set_option linter.unusedSimpArgs false

theorem kid_check {x : Fm} {l : List Fact} (h : checkF x l = 0) (hs : size x ≤ 60) (hd : depth x ≤ 16) (i : Nat) (hi : i < x.f4.length) : checkF x.f4[i] l = 0 := by
  obtain ⟨h1, h2⟩ := checks_of l x (check_first h).1
  have s1 := size_eq x
  have d1 := depth_eq x
  have s2 := size_mem x.f4 i hi
  have d2 : depth x.f4[i] ≤ depths x.f4 := by
    have := depths_snoc x.f4 i hi
    have := depths_take_le x.f4 (i + 1)
    omega
  exact room_check (n := 60) (d := 16) ⟨by omega, by omega, firstEs_zero h2 _ (List.getElem_mem hi)⟩ (by decide) (by decide)
/-- A node that is not well-formed is an ErrArg, wherever it is the first one. -/
theorem bad_check {x : Fm} {l : List Fact} (hs : size x ≤ 200) (hd : depth x ≤ 20) (h : firstE (checkNode l) x = 1) : checkF x l = 1 := by
  have hL : isLarge x = false := by
    unfold isLarge
    simp only [Bool.or_eq_false_iff, decide_eq_false_iff_not]
    omega
  unfold checkF
  rw [if_neg (by rw [hL]; decide)]
  exact h
theorem node_bad {x : Fm} {l : List Fact} (h : formedB x = false) : firstE (checkNode l) x = 1 := by
  have e : checkNode l x = 1 := if_pos h
  rw [firstE_eq, e]
  rfl
/-- The node that the law puts beside the formula. -/
def besideFm (x : Fm) (op : Int) : Fm := nFm 6 [x, ⟨op, ⟨#[]⟩, 7, 0, []⟩]
theorem beside_size (x : Fm) (op : Int) : size (besideFm x op) = size x + 2 := by
  rw [size_eq]; show 1 + (size x + (size (⟨op, ⟨#[]⟩, 7, 0, []⟩ : Fm) + 0)) = _
  have : size (⟨op, ⟨#[]⟩, 7, 0, []⟩ : Fm) = 1 := by rw [size_eq]; rfl
  omega
theorem beside_check {x : Fm} {l : List Fact} (op : Int) (h : Room x l 60 16) : checkF (besideFm x op) l = 1 := by
  have h1 := h.size
  have h2 := h.depth
  have hb : formedB (⟨op, ⟨#[]⟩, 7, 0, []⟩ : Fm) = false := by
    unfold formedB
    by_cases h3 : op = 3
    · simp [h3]
    · simp [h3]
  refine bad_check (by rw [beside_size]; omega) ?_ ?_
  · rw [depth_eq]
    show 1 + (max (depth x) (max (depth (⟨op, ⟨#[]⟩, 7, 0, []⟩ : Fm)) 0)) ≤ _
    have : depth (⟨op, ⟨#[]⟩, 7, 0, []⟩ : Fm) = 1 := by rw [depth_eq]; rfl
    omega
  · have e : besideFm x op = nFm 6 [x, ⟨op, ⟨#[]⟩, 7, 0, []⟩] := rfl
    rw [firstE_eq, e, if_pos (node_ok 6 [x, ⟨op, ⟨#[]⟩, 7, 0, []⟩] l (.inr ⟨.inr rfl, by simp⟩))]
    show firstEs (checkNode l) [x, ⟨op, ⟨#[]⟩, 7, 0, []⟩] = 1
    simp only [firstEs]
    rw [if_pos h.check, node_bad hb]
    rfl
theorem test_kids {x : Fm} {l : List Fact} (h3 : x.f0 = 3) : checkF ⟨x.f0, x.f1, x.f2, x.f3, [⟨1, ⟨#[]⟩, 0, 0, []⟩]⟩ l = 1 := by
  have e1 : size (⟨1, ⟨#[]⟩, 0, 0, []⟩ : Fm) = 1 := by rw [size_eq]; rfl
  have e2 : depth (⟨1, ⟨#[]⟩, 0, 0, []⟩ : Fm) = 1 := by rw [depth_eq]; rfl
  refine bad_check (by rw [size_eq]; show 1 + (size (⟨1, ⟨#[]⟩, 0, 0, []⟩ : Fm) + 0) ≤ _; omega) (by rw [depth_eq]; show 1 + (max (depth (⟨1, ⟨#[]⟩, 0, 0, []⟩ : Fm)) 0) ≤ _; omega) (node_bad ?_)
  unfold formedB
  simp [h3]
theorem name_kids {x : Fm} {l : List Fact} (h : Room x l 60 16) (h3 : x.f0 ≠ 3) : checkF ⟨x.f0, ⟨#[97]⟩, x.f2, x.f3, x.f4⟩ l = 1 := by
  have h1 := h.size
  have h2 := h.depth
  rw [size_eq] at h1
  rw [depth_eq] at h2
  have e : (⟨#[97]⟩ : ByteArray).size = 1 := rfl
  refine bad_check (by rw [size_eq]; show 1 + sizes x.f4 ≤ _; omega) (by rw [depth_eq]; show 1 + depths x.f4 ≤ _; omega) (node_bad ?_)
  unfold formedB
  simp [h3, e]
theorem num_kids {x : Fm} {l : List Fact} (h : Room x l 60 16) (h3 : x.f0 ≠ 3) : checkF ⟨x.f0, x.f1, x.f2, 1, x.f4⟩ l = 1 := by
  have h1 := h.size
  have h2 := h.depth
  rw [size_eq] at h1
  rw [depth_eq] at h2
  refine bad_check (by rw [size_eq]; show 1 + sizes x.f4 ≤ _; omega) (by rw [depth_eq]; show 1 + depths x.f4 ≤ _; omega) (node_bad ?_)
  unfold formedB
  simp [h3]
theorem beside_holds {x : Fm} {l : List Fact} {cs : List Int} (op : Int) (h : Room x l 60 16) : holdsF (besideFm x op) l cs = false := by
  unfold holdsF
  rw [beside_check op h]
  simp
end Go.Proofs.YtkgmempifggajaaGreatDoor.P
