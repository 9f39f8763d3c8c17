/- What the statement's proof builds on: RoundC, ConnLaw. -/
import Derived.Test.YtkgmempifggajaaGreatDoorGD30
import Derived.Test.YtkgmempifggajaaGreatDoorGD31
import Derived.Test.YtkgmempifggajaaGreatDoorGD13
import Derived.ArgAppend
import Derived.Below
import Derived.BigQuiet
import Derived.Carry
import Derived.Deep.AppendLies
import Derived.Deep.CutBlock
import Derived.Deep.DeepCutAuto
import Derived.Deep.Draws
import Derived.Deep.LoopGhost
import Derived.Deep.OwnRows
import Derived.Deep.QuietTactic
import Derived.Deep.RegionHeld3
import Derived.Great.BuildSlice
import Derived.KernelRfl
import Derived.Laws.BitsLemmas
import Derived.Laws.BytesArg
import Derived.Laws.EntriesVeiled
import Derived.Laws.IdiomCopy
import Derived.Laws.MakeOwn
import Derived.Laws.OwnMore
import Derived.Laws.Rows
import Derived.Laws.Runes
import Derived.Laws.Slices
import Derived.Lib.AppendStr
import Derived.Lib.ConvBytes
import Derived.Lib.ItoaLen
import Derived.Lib.SmallJoins
import Derived.Maps.AppendAt
import Derived.Maps.OwnSet
import Derived.OneCell
import Derived.OrdersHeld
import Derived.OwnWalk
import Derived.RowKit
import Derived.RowKit3
import Derived.Scope
import Derived.Shelf.LaysC
import Derived.Shelf.LaysM
import Derived.Shelf.Slices.Turned
import Derived.Shelf.Small.Strs
import Derived.Shelf.Small.Utf8
import Derived.Shelf.Strconv.Atoi
import Derived.Shelf.Strconv.AtoiAll
import Derived.Shelf.Strconv.AtoiErr
import Derived.Shelf.Strconv.AtoiErrFast
import Derived.Shelf.Strconv.AtoiFail
import Derived.Shelf.Strconv.AtoiInnerAll
import Derived.Shelf.Strconv.AtoiLong
import Derived.Shelf.Strconv.Clone
import Derived.Shelf.Strconv.ErrVar
import Derived.Shelf.Strconv.ErrVarAll
import Derived.Shelf.Strconv.Itoa0
import Derived.Shelf.Strconv.Itoa1
import Derived.Shelf.Strconv.Itoa2
import Derived.Shelf.Strconv.Itoa3
import Derived.Shelf.Strconv.Lower
import Derived.Shelf.Strconv.ParseInt10
import Derived.Shelf.Strconv.ParseIntEmpty
import Derived.Shelf.Strconv.ParseUint10
import Derived.Shelf.Strconv.ParseUint10Any
import Derived.Shelf.Strconv.ParseUint10Empty
import Derived.Shelf.Strconv.RangeError
import Derived.Shelf.Strconv.SyntaxError
import Derived.Shelf.Strconv.ToError
import Derived.Shelf.Strconv.ToErrorRange
import Derived.Shelf.Strings.AsciiSet
import Derived.Shelf.Strings.Builder1
import Derived.Shelf.Strings.Builder2
import Derived.Shelf.Strings.BuilderF
import Derived.Shelf.Strings.BuilderK
import Derived.Shelf.Strings.IndexAny
import Derived.Shelf.Strings.IndexAnyAll
import Derived.Shelf.Strings.OnBuilder
import Derived.Shelf.Strings.Prefix
import Derived.Shelf.Strings.Runes
import Derived.Shelf.Strings.Search1
import Derived.StringKeys
import Derived.Tactics
import Derived.Test.YtkgmempifggajaaGreatDoorProg
import Derived.WalkKit
import Derived.WalkLawsBesides
import Derived.WalkSpells
import Derived.WideLaws
import Derived.Test.YtkgmempifggajaaGreatDoorGD12
-- the text YtkgmempifggajaaGreatDoorRoundC
/- What Parse returns is well-formed: it has a canonical text, for which Parse returns it. -/
namespace Go.Proofs.YtkgmempifggajaaGreatDoor.P
set_option linter.unusedVariables false
set_option linter.unusedSimpArgs false

theorem firstEs_all {g : Fm → Int} {l : List Fm} (h : ∀ k ∈ l, firstE g k = 0) : firstEs g l = 0 := by
  induction l with
  | nil => rfl
  | cons a l ih =>
    simp only [firstEs]
    rw [if_pos (h a (by simp))]
    exact ih (fun k hk => h k (by simp [hk]))
end Go.Proofs.YtkgmempifggajaaGreatDoor.P
-- the text YtkgmempifggajaaGreatDoorConnLaw
/- Negations, conjunctions and disjunctions of well-formed formulas. -/
namespace Go.Proofs.YtkgmempifggajaaGreatDoor.P
set_option linter.unusedVariables false
set_option linter.unusedSimpArgs false

/-- A formula that Check accepts, with room for further nodes. -/
structure Room (x : Fm) (l : List Fact) (n d : Nat) : Prop where
  size : size x ≤ n
  depth : depth x ≤ d
  check : firstE (checkNode l) x = 0
def nFm (op : Int) (kids : List Fm) : Fm := ⟨op, ⟨#[]⟩, 0, 0, kids⟩
theorem room_check {x : Fm} {l : List Fact} {n d : Nat} (h : Room x l n d) (hn : n ≤ 200) (hd : d ≤ 20) : checkF x l = 0 := by
  have h1 := h.size
  have h2 := h.depth
  have hL : isLarge x = false := by
    unfold isLarge
    simp only [Bool.or_eq_false_iff, decide_eq_false_iff_not]
    omega
  unfold checkF
  rw [if_neg (by rw [hL]; decide)]
  exact h.check
theorem node_ok (op : Int) (kids : List Fm) (l : List Fact) (h : (op = 4 ∧ kids.length = 1) ∨ ((op = 5 ∨ op = 6) ∧ 2 ≤ kids.length)) : checkNode l (nFm op kids) = 0 := by
  have e0 : (⟨#[]⟩ : ByteArray).size = 0 := rfl
  have hf : formedB (nFm op kids) = true := by
    unfold formedB nFm
    rcases h with ⟨rfl, h⟩ | ⟨rfl | rfl, h⟩ <;> simp [e0, h]
  unfold checkNode
  rw [if_neg (by rw [hf]; decide), if_pos]
  show op ≠ 3
  rcases h with ⟨rfl, _⟩ | ⟨rfl | rfl, _⟩ <;> decide
theorem room_one {x : Fm} {l : List Fact} {n d : Nat} (h : Room x l n d) : Room (nFm 4 [x]) l (n + 1) (d + 1) := by
  have h1 := h.size
  have h2 := h.depth
  refine ⟨by rw [size_eq]; show 1 + (P.size x + 0) ≤ _; omega, by rw [depth_eq]; show 1 + (max (P.depth x) 0) ≤ _; omega, ?_⟩
  rw [firstE_eq, if_pos (node_ok 4 [x] l (.inl ⟨rfl, rfl⟩))]
  exact firstEs_all (fun k hk => by rw [List.mem_singleton.1 hk]; exact h.check)
theorem room_two {x y : Fm} {l : List Fact} {n m d : Nat} (op : Int) (hop : op = 5 ∨ op = 6) (h : Room x l n d) (g : Room y l m d) : Room (nFm op [x, y]) l (n + m + 1) (d + 1) := by
  have h1 := h.size
  have h2 := h.depth
  have g1 := g.size
  have g2 := g.depth
  refine ⟨by rw [size_eq]; show 1 + (P.size x + (P.size y + 0)) ≤ _; omega, by rw [depth_eq]; show 1 + (max (P.depth x) (max (P.depth y) 0)) ≤ _; omega, ?_⟩
  rw [firstE_eq, if_pos (node_ok op [x, y] l (.inr ⟨hop, by simp⟩))]
  refine firstEs_all (fun k hk => ?_)
  rcases List.mem_cons.1 (show k ∈ [x, y] from hk) with rfl | hk
  · exact h.check
  · rw [List.mem_singleton.1 hk]; exact g.check
theorem holds_room {x : Fm} {l : List Fact} {cs : List Int} {n d : Nat} (hf : fitsB l cs = true) (h : Room x l n d) (hn : n ≤ 200) (hd : d ≤ 20) : holdsF x l cs = holdsE (valOf l cs) x := by
  unfold holdsF
  rw [hf, room_check h hn hd]
  rfl
section
variable {x y : Fm} {l : List Fact} {cs : List Int}
theorem conn_not (hf : fitsB l cs = true) (h : Room x l 60 16) : holdsF (nFm 4 [x]) l cs = !(holdsF x l cs) := by
  rw [holds_room hf (room_one h) (by decide) (by decide), holds_room hf h (by decide) (by decide), holdsE_eq]
  simp [nFm, holdsHd]
theorem conn_and (hf : fitsB l cs = true) (h : Room x l 60 16) (g : Room y l 60 16) : holdsF (nFm 5 [x, y]) l cs = (holdsF x l cs && holdsF y l cs) := by
  rw [holds_room hf (room_two 5 (.inl rfl) h g) (by decide) (by decide), holds_room hf h (by decide) (by decide), holds_room hf g (by decide) (by decide), holdsE_eq]
  simp [nFm, holdsAll]
theorem conn_or (hf : fitsB l cs = true) (h : Room x l 60 16) (g : Room y l 60 16) : holdsF (nFm 6 [x, y]) l cs = (holdsF x l cs || holdsF y l cs) := by
  rw [holds_room hf (room_two 6 (.inr rfl) h g) (by decide) (by decide), holds_room hf h (by decide) (by decide), holds_room hf g (by decide) (by decide), holdsE_eq]
  simp [nFm, holdsAny]
theorem conn_nand (hf : fitsB l cs = true) (h : Room x l 60 16) (g : Room y l 60 16) : holdsF (nFm 4 [nFm 5 [x, y]]) l cs = !(holdsF x l cs && holdsF y l cs) := by
  rw [holds_room hf (room_one (room_two 5 (.inl rfl) h g)) (by decide) (by decide), holds_room hf h (by decide) (by decide), holds_room hf g (by decide) (by decide), holdsE_eq]
  simp only [nFm, holdsHd]
  rw [holdsE_eq]
  simp [holdsAll]
theorem conn_orn (hf : fitsB l cs = true) (h : Room x l 60 16) (g : Room y l 60 16) : holdsF (nFm 6 [nFm 4 [x], nFm 4 [y]]) l cs = !(holdsF x l cs && holdsF y l cs) := by
  rw [holds_room hf (room_two 6 (.inr rfl) (room_one h) (room_one g)) (by decide) (by decide), holds_room hf h (by decide) (by decide), holds_room hf g (by decide) (by decide), holdsE_eq]
  simp only [nFm, holdsAny]
  rw [holdsE_eq, holdsE_eq]
  simp [holdsHd, Bool.not_and]
end
end Go.Proofs.YtkgmempifggajaaGreatDoor.P
