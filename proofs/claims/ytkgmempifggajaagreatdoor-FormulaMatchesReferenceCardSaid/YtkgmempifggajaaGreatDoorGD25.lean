/- What the statement's proof builds on: PureRef, PureRefB, PureRefC, GoMatch. -/
import Derived.Test.YtkgmempifggajaaGreatDoorGD17
import Derived.Test.YtkgmempifggajaaGreatDoorGD19
import Derived.Test.YtkgmempifggajaaGreatDoorGD13
import Derived.Test.YtkgmempifggajaaGreatDoorGD15
import Derived.Test.YtkgmempifggajaaGreatDoorGD12
import Derived.ArgAppend
import Derived.Below
import Derived.BigQuiet
import Derived.Deep.AppendLies
import Derived.Deep.CutBlock
import Derived.Deep.DeepCutAuto
import Derived.Deep.Draws
import Derived.Deep.LoopGhost
import Derived.Deep.OwnRows
import Derived.Deep.QuietTactic
import Derived.Deep.RegionHeld3
import Derived.Great.BuildSlice
import Derived.KernelRfl
import Derived.Laws.BitsLemmas
import Derived.Laws.BytesArg
import Derived.Laws.EntriesVeiled
import Derived.Laws.IdiomCopy
import Derived.Laws.MakeOwn
import Derived.Laws.OwnMore
import Derived.Laws.Rows
import Derived.Laws.Runes
import Derived.Laws.Slices
import Derived.Lib.AppendStr
import Derived.Lib.ConvBytes
import Derived.Lib.SmallJoins
import Derived.Maps.AppendAt
import Derived.OneCell
import Derived.OrdersHeld
import Derived.OwnWalk
import Derived.RowKit
import Derived.RowKit3
import Derived.Scope
import Derived.Shelf.LaysC
import Derived.Shelf.LaysM
import Derived.Shelf.Slices.Turned
import Derived.Shelf.Small.Strs
import Derived.Shelf.Small.Utf8
import Derived.Shelf.Strconv.Atoi
import Derived.Shelf.Strconv.AtoiAll
import Derived.Shelf.Strconv.AtoiErr
import Derived.Shelf.Strconv.AtoiErrFast
import Derived.Shelf.Strconv.AtoiFail
import Derived.Shelf.Strconv.AtoiInnerAll
import Derived.Shelf.Strconv.AtoiLong
import Derived.Shelf.Strconv.Clone
import Derived.Shelf.Strconv.ErrVar
import Derived.Shelf.Strconv.ErrVarAll
import Derived.Shelf.Strconv.Itoa0
import Derived.Shelf.Strconv.Itoa1
import Derived.Shelf.Strconv.Itoa2
import Derived.Shelf.Strconv.Itoa3
import Derived.Shelf.Strconv.Lower
import Derived.Shelf.Strconv.ParseInt10
import Derived.Shelf.Strconv.ParseIntEmpty
import Derived.Shelf.Strconv.ParseUint10
import Derived.Shelf.Strconv.ParseUint10Any
import Derived.Shelf.Strconv.ParseUint10Empty
import Derived.Shelf.Strconv.RangeError
import Derived.Shelf.Strconv.SyntaxError
import Derived.Shelf.Strconv.ToError
import Derived.Shelf.Strconv.ToErrorRange
import Derived.Shelf.Strings.AsciiSet
import Derived.Shelf.Strings.Builder1
import Derived.Shelf.Strings.Builder2
import Derived.Shelf.Strings.BuilderF
import Derived.Shelf.Strings.BuilderK
import Derived.Shelf.Strings.IndexAny
import Derived.Shelf.Strings.IndexAnyAll
import Derived.Shelf.Strings.OnBuilder
import Derived.Shelf.Strings.Prefix
import Derived.Shelf.Strings.Runes
import Derived.Shelf.Strings.Search1
import Derived.Tactics
import Derived.Test.YtkgmempifggajaaGreatDoorProg
import Derived.WalkKit
import Derived.WalkLawsBesides
import Derived.WalkSpells
import Derived.WideLaws
import Derived.Test.YtkgmempifggajaaGreatDoorGD24
-- the text YtkgmempifggajaaGreatDoorPureRef
/- The reference functions of the chapter compute what the program's do. -/
namespace Go.Proofs.YtkgmempifggajaaGreatDoor.PLawFormulaMatchesReference
open Go.RowKit Go.Proofs.YtkgmempifggajaaGreatDoorW.PrintWords Go.Proofs.YtkgmempifggajaaGreatDoorW.PrintLast Go.Proofs.YtkgmempifggajaaGreatDoorW.PrintMore
open Go.Proofs.YtkgmempifggajaaGreatDoor.P
set_option linter.unusedVariables false
set_option linter.unusedSimpArgs false

theorem letter_f (c : UInt8) : customhouseref07_letter.f (c.toNat : Int) = some (isLetter c) := by
  have := u8_all (fun c => customhouseref07_letter.f (c.toNat : Int) == some (isLetter c)) (by decide +kernel) c
  simpa using this
theorem word_f (c : UInt8) : customhouseref07_word.f (c.toNat : Int) = some (isWord c) := by
  have := u8_all (fun c => customhouseref07_word.f (c.toNat : Int) == some (isWord c)) (by decide +kernel) c
  simpa using this
theorem bt_get (s : ByteArray) (i : Nat) (c : UInt8) (r : List UInt8) (h : s.data.toList.drop i = c :: r) : bt s (i : Int) = (c.toNat : Int) ∧ i < s.size ∧ s.data.toList.drop (i + 1) = r := by
  have hlt : i < s.data.toList.length := by
    rcases Nat.lt_or_ge i s.data.toList.length with h2 | h2
    · exact h2
    · rw [List.drop_eq_nil_of_le h2] at h; cases h
  have hs : i < s.size := by rw [Array.length_toList] at hlt; exact hlt
  rw [List.drop_eq_getElem_cons hlt] at h
  injection h with h1 h2
  refine ⟨?_, hs, h2⟩
  have hb := bt_at s (i : Int) (by simpa using hs)
  rw [← hb, ← h1]
  simp only [Int.toNat_natCast]
  congr 1
/-- The end of Name, behind its loop. -/
def nameEnd (l : List UInt8) : Bool := match l with | [] => false | c :: r => decide (r.length ≤ 23) && isLetter c
theorem name_loop (s : ByteArray) (hs : s.size ≤ 9223372036854775807) : ∀ (l : List UInt8) (i : Nat), s.data.toList.drop i = l → i ≤ s.size → Tells (fun k => customhouseref07_Name.l0 k s i) (l.all isWord && nameEnd s.data.toList) := by
  have hsz : s.data.toList.length = s.size := by rw [Array.length_toList]; rfl
  intro l
  induction l with
  | nil =>
    intro i h hi
    have hle : s.size ≤ i := by
      have := congrArg List.length h
      rw [List.length_drop, hsz] at this
      simp at this
      omega
    refine Tells.step (fun k => ?_) Tells.same
    simp only [customhouseref07_Name.l0]
    rw [if_neg (by omega)]
    cases hq : s.data.toList with
    | nil =>
      rw [hq] at hsz
      simp at hsz
      rw [if_neg (by omega)]
      rfl
    | cons c r =>
      rw [hq] at hsz
      simp at hsz
      rw [if_pos (by omega)]
      by_cases h24 : (s.size : Int) ≤ 24
      · obtain ⟨hb, _, _⟩ := bt_get s 0 c r hq
        have hb' : bt s 0 = (c.toNat : Int) := hb
        rw [if_pos h24, if_pos (by omega), hb', letter_f]
        have : decide (r.length ≤ 23) = true := by simp; omega
        simp [nameEnd, this]
      · have : decide (r.length ≤ 23) = false := by simp; omega
        rw [if_neg h24]
        simp [nameEnd, this]
  | cons c r ih =>
    intro i h hi
    obtain ⟨hb, hlt, hd⟩ := bt_get s i c r h
    have w1 : wrap64 ((i : Int) + 1) = ((i + 1 : Nat) : Int) := by unfold wrap64; omega
    cases hw : isWord c
    · refine Tells.step (h := fun _ => some false) (fun k => ?_) (by simp [hw]; exact Tells.same)
      simp only [customhouseref07_Name.l0]
      rw [if_pos (by omega), if_pos (by omega), hb, word_f, hw]
      rfl
    · rw [List.all_cons, hw, Bool.true_and]
      refine Tells.step (fun k => ?_) (ih (i + 1) hd (by omega))
      simp only [customhouseref07_Name.l0]
      rw [if_pos (by omega), if_pos (by omega), hb, word_f, hw, w1]
      rfl
theorem letter_word (c : UInt8) (h : isLetter c = true) : isWord c = true := by unfold isWord; rw [h]; rfl
theorem name_tells (s : ByteArray) (hs : s.size ≤ 9223372036854775807) : Tells (fun k => customhouseref07_Name.f k s) (isName s.data.toList) := by
  have g := name_loop s hs s.data.toList 0 rfl (Nat.zero_le _)
  have e : (s.data.toList.all isWord && nameEnd s.data.toList) = isName s.data.toList := by
    cases s.data.toList with
    | nil => rfl
    | cons c r =>
      simp only [List.all_cons, nameEnd, isName]
      cases hl : isLetter c
      · simp
      · rw [letter_word c hl]
        cases r.all isWord <;> cases decide (r.length ≤ 23) <;> rfl
  rw [e] at g
  exact g
theorem key_f (s : ByteArray) : customhouseref25_Key.f s = some (isKey s) := by
  have e : isKey s = ((s.toList == [111, 114]) || ((s.toList == [97, 110, 100]) || ((s.toList == [110, 111, 116]) || ((s.toList == [116, 114, 117, 101]) || (s.toList == [102, 97, 108, 115, 101]))))) := by
    unfold isKey keyWords
    simp only [List.any_cons, List.any_nil, Bool.or_false]
    simp only [ByteArray.toList_eq]
  rw [e]
  unfold customhouseref25_Key.f
  generalize s.toList = q
  by_cases h1 : q = [111, 114]
  · subst h1; rfl
  by_cases h2 : q = [97, 110, 100]
  · subst h2; rfl
  by_cases h3 : q = [110, 111, 116]
  · subst h3; rfl
  by_cases h4 : q = [116, 114, 117, 101]
  · subst h4; rfl
  rw [if_neg h1, if_neg h2, if_neg h3, if_neg h4, beq_eq_false_iff_ne.2 h1, beq_eq_false_iff_ne.2 h2, beq_eq_false_iff_ne.2 h3, beq_eq_false_iff_ne.2 h4]
  rfl
theorem size_nil (s : ByteArray) : (s.size == 0) = decide (s.toList = []) := by
  rw [toList_data]
  have hsz : s.data.toList.length = s.size := by rw [Array.length_toList]; rfl
  cases hq : s.data.toList with
  | nil => rw [hq] at hsz; simp at hsz; simp [← hsz]
  | cons c r => rw [hq] at hsz; simp at hsz; rw [← hsz]; simp
theorem formed_tells (x : S24) (hs : x.f1.size ≤ 9223372036854775807) : Tells (fun k => customhouseref25_formed.f k x.f0 x.f1 x.f2 x.f3 x.f4) (formedB x) := by
  have j1 : ∀ (b c : Bool), (c = true ↔ x.f0 = 1 ∨ x.f0 = 2) → (b = (x.f1.size == 0 && x.f2 == 0 && x.f3 == 0)) → Tells (fun k => customhouseref25_formed.j1 k b x.f0 c x.f0 x.f1 x.f2 x.f3 x.f4) (formedB x) := by
    intro b c hc hb
    have hlen : ∀ n : Nat, ((x.f4.length : Int) == (n : Int)) = (x.f4.length == n) := fun n => by rw [Bool.eq_iff_iff]; simp only [beq_iff_eq]; omega
    by_cases h12 : x.f0 = 1 ∨ x.f0 = 2
    · have hc1 : c = true := hc.2 h12
      have h3 : x.f0 ≠ 3 := by omega
      have e : formedB x = (b && (x.f4.length == 0)) := by unfold formedB; rw [if_neg h3, if_pos h12, ← hb]
      rw [e]
      refine Tells.step (h := fun _ => some (b && (x.f4.length == 0))) (fun k => ?_) Tells.same
      simp only [customhouseref25_formed.j1]
      rw [hc1, if_pos rfl]
      have := hlen 0
      cases b
      · simp
      · simp only [if_true, Bool.true_and]; rw [← this]; rfl
    · have hc1 : c = false := by cases c; rfl; exact absurd (hc.1 rfl) h12
      by_cases h3 : x.f0 = 3
      · have e : formedB x = (x.f4.length == 0 && decide (1 ≤ x.f2) && decide (x.f2 ≤ 6) && isName x.f1.data.toList && !isKey x.f1) := by unfold formedB; rw [if_pos h3]
        rw [e]
        refine Tells.step (h := fun k => if x.f2 ≥ 1 then (if x.f2 ≤ 6 then (if (x.f4.length : Int) = 0 then ((customhouseref07_Name.f k x.f1).bind fun t => if t = true then (some (!isKey x.f1)) else some false) else some false) else some false) else some false) (fun k => ?_) ?_
        · simp only [customhouseref25_formed.j1]
          rw [hc1, if_neg (by decide), if_pos h3]
          simp only [key_f, Option.bind_some]
        · by_cases a1 : x.f2 ≥ 1
          · by_cases a2 : x.f2 ≤ 6
            · by_cases a3 : (x.f4.length : Int) = 0
              · have a3' : (x.f4.length == 0) = true := beq_iff_eq.2 (by omega)
                have a1' : decide (1 ≤ x.f2) = true := decide_eq_true a1
                have a2' : decide (x.f2 ≤ 6) = true := decide_eq_true a2
                rw [a3', a1', a2']
                refine Tells.eq (fun k => by rw [if_pos a1, if_pos a2, if_pos a3]) ?_
                refine Tells.bind (name_tells x.f1 hs) ?_
                cases isName x.f1.data.toList
                · exact Tells.same
                · exact Tells.same
              · have a3' : (x.f4.length == 0) = false := by rw [beq_eq_false_iff_ne]; omega
                rw [a3']
                refine Tells.eq (h := fun _ => some false) (fun k => by rw [if_pos a1, if_pos a2, if_neg a3]) ?_
                simp only [Bool.false_and]
                exact Tells.same
            · have a2' : decide (x.f2 ≤ 6) = false := decide_eq_false a2
              rw [a2']
              refine Tells.eq (h := fun _ => some false) (fun k => by rw [if_pos a1, if_neg a2]) ?_
              simp only [Bool.and_false, Bool.false_and]
              exact Tells.same
          · have a1' : decide (1 ≤ x.f2) = false := decide_eq_false a1
            rw [a1']
            refine Tells.eq (h := fun _ => some false) (fun k => by rw [if_neg a1]) ?_
            simp only [Bool.and_false, Bool.false_and]
            exact Tells.same
      · have e : formedB x = (b && (if x.f0 = 4 then x.f4.length == 1 else (x.f0 == 5 || x.f0 == 6) && decide (2 ≤ x.f4.length))) := by unfold formedB; rw [if_neg h3, if_neg h12, ← hb]
        rw [e]
        refine Tells.step (h := fun _ => some (b && (if x.f0 = 4 then x.f4.length == 1 else (x.f0 == 5 || x.f0 == 6) && decide (2 ≤ x.f4.length)))) (fun k => ?_) Tells.same
        simp only [customhouseref25_formed.j1]
        rw [hc1, if_neg (by decide), if_neg h3]
        have h1 := hlen 1
        have h2 : decide ((x.f4.length : Int) ≥ 2) = decide (2 ≤ x.f4.length) := by rw [decide_eq_decide]; omega
        by_cases h4 : x.f0 = 4
        · rw [if_pos h4, if_pos h4]
          cases b
          · simp
          · simp only [if_true, Bool.true_and]; rw [← h1]; rfl
        · rw [if_neg h4, if_neg h4]
          by_cases h5 : x.f0 = 5
          · rw [if_pos h5, h2]
            cases b <;> simp [h5]
          · rw [if_neg h5]
            by_cases h6 : x.f0 = 6
            · rw [if_pos h6, h2]
              cases b <;> simp [h6]
            · rw [if_neg h6]
              cases b <;> simp [h5, h6]
  have j0 : ∀ b : Bool, b = (x.f1.size == 0 && x.f2 == 0 && x.f3 == 0) → Tells (fun k => customhouseref25_formed.j0 k b x.f0 x.f1 x.f2 x.f3 x.f4) (formedB x) := by
    intro b hb
    by_cases h1 : x.f0 = 1
    · refine Tells.step (fun k => ?_) (j1 b true (by simp [h1]) hb)
      simp only [customhouseref25_formed.j0]
      rw [if_pos h1]
      simp [h1]
    · refine Tells.step (fun k => ?_) (j1 b (x.f0 == 2) (by simp [h1]) hb)
      simp only [customhouseref25_formed.j0]
      rw [if_neg h1]
  unfold customhouseref25_formed.f
  have hn := size_nil x.f1
  by_cases a1 : x.f1.toList = []
  · rw [decide_eq_true a1] at hn
    by_cases a2 : x.f2 = 0
    · have := j0 (x.f3 == 0) (by rw [hn]; simp [a2])
      simpa [a1, a2] using this
    · have a2' : (x.f2 == 0) = false := beq_eq_false_iff_ne.2 a2
      have := j0 false (by rw [hn, a2']; rfl)
      simpa [a1, a2] using this
  · rw [decide_eq_false a1] at hn
    have := j0 false (by rw [hn]; rfl)
    simpa [a1] using this
theorem index_loop (l : List S49) (nm : ByteArray) (hl : l.length ≤ 9223372036854775807) : ∀ d i : Nat, i + d = l.length → Tells (fun k => customhouseref24_Index.l0 k nm i l) (if idxBy (named nm) (l.drop i) = -1 then -1 else idxBy (named nm) (l.drop i) + i) := by
  intro d
  induction d with
  | zero =>
    intro i hi
    refine Tells.step (fun k => ?_) Tells.same
    simp only [customhouseref24_Index.l0]
    rw [if_neg (by omega), List.drop_eq_nil_of_le (by omega)]
    rfl
  | succ d ihd =>
    intro i hi
    have hlt : i < l.length := by omega
    have hrd : rd_T49 l (i : Int) = l[i] := by simp [rd_T49, List.getD_eq_getElem?_getD, List.getElem?_eq_getElem hlt]
    have w1 : wrap64 ((i : Int) + 1) = ((i + 1 : Nat) : Int) := by unfold wrap64; omega
    rw [List.drop_eq_getElem_cons hlt]
    have hge := idxBy_ge (named nm) (l.drop (i + 1))
    by_cases h : l[i].f0.toList = nm.toList
    · have hn : named nm l[i] = true := by unfold named; rw [h]; exact beq_self_eq_true _
      have e : idxBy (named nm) (l[i] :: l.drop (i + 1)) = 0 := by unfold idxBy; rw [if_pos hn]
      rw [e]
      refine Tells.step (h := fun _ => some (i : Int)) (fun k => ?_) (by simpa using Tells.same)
      simp only [customhouseref24_Index.l0]
      rw [if_pos (by omega), if_pos (by omega), hrd, if_pos h]
    · have hn : named nm l[i] = false := by unfold named; exact beq_eq_false_iff_ne.2 h
      have e : idxBy (named nm) (l[i] :: l.drop (i + 1)) = if idxBy (named nm) (l.drop (i + 1)) = -1 then -1 else idxBy (named nm) (l.drop (i + 1)) + 1 := by
        conv => lhs; unfold idxBy
        rw [if_neg (by rw [hn]; decide)]
      rw [e]
      have g := ihd (i + 1) (by omega)
      have e2 : (if (if idxBy (named nm) (l.drop (i + 1)) = -1 then (-1 : Int) else idxBy (named nm) (l.drop (i + 1)) + 1) = -1 then (-1 : Int) else (if idxBy (named nm) (l.drop (i + 1)) = -1 then (-1 : Int) else idxBy (named nm) (l.drop (i + 1)) + 1) + (i : Int)) = (if idxBy (named nm) (l.drop (i + 1)) = -1 then -1 else idxBy (named nm) (l.drop (i + 1)) + ((i + 1 : Nat) : Int)) := by
        by_cases hm : idxBy (named nm) (l.drop (i + 1)) = -1
        · simp [hm]
        · rw [if_neg hm, if_neg hm, if_neg (by omega)]; omega
      rw [e2]
      refine Tells.step (fun k => ?_) g
      simp only [customhouseref24_Index.l0]
      rw [if_pos (by omega), if_pos (by omega), hrd, if_neg h, w1]
theorem index_tells (l : List S49) (nm : ByteArray) (hl : l.length ≤ 9223372036854775807) : Tells (fun k => customhouseref24_Index.f k l nm) (indexOf l nm) := by
  have g := index_loop l nm hl l.length 0 (by omega)
  have hge := idxBy_ge (named nm) l
  have e : (if idxBy (named nm) (l.drop 0) = -1 then (-1 : Int) else idxBy (named nm) (l.drop 0) + ((0 : Nat) : Int)) = indexOf l nm := by
    unfold indexOf
    rw [List.drop_zero]
    by_cases hm : idxBy (named nm) l = -1
    · rw [if_pos hm, hm]
    · rw [if_neg hm]; simp
  rw [e] at g
  exact g
theorem node_loop (l : List S49) (op : Int) (nm : ByteArray) (c n : Int) (ks : List S24) (hk : ks.length ≤ 9223372036854775807)
    (ih : ∀ j (hj : j < ks.length), Tells (fun k => customhouseref25_node.f k ks[j].f0 ks[j].f1 ks[j].f2 ks[j].f3 ks[j].f4 l) (firstE (checkNode l) ks[j])) :
    ∀ d i : Nat, i + d = ks.length → Tells (fun k => customhouseref25_node.l0 k i op nm c n ks l) (firstEs (checkNode l) (ks.drop i)) := by
  intro d
  induction d with
  | zero =>
    intro i hi
    refine Tells.step (fun k => ?_) Tells.same
    simp only [customhouseref25_node.l0]
    rw [if_neg (by omega), List.drop_eq_nil_of_le (by omega)]
    rfl
  | succ d ihd =>
    intro i hi
    have hlt : i < ks.length := by omega
    have w1 : wrap64 ((i : Int) + 1) = ((i + 1 : Nat) : Int) := by unfold wrap64; omega
    rw [List.drop_eq_getElem_cons hlt]
    simp only [firstEs]
    refine Tells.step (h := fun k => (customhouseref25_node.f k ks[i].f0 ks[i].f1 ks[i].f2 ks[i].f3 ks[i].f4 l).bind fun t => if t = 0 then customhouseref25_node.l0 k ((i + 1 : Nat) : Int) op nm c n ks l else some t) (fun k => ?_) ?_
    · simp only [customhouseref25_node.l0]
      rw [if_pos (by omega), if_pos (by omega), rd_at ks i hlt, w1]
    · refine Tells.bind (ih i hlt) ?_
      by_cases h0 : firstE (checkNode l) ks[i] = 0
      · simp only [h0, if_true]; exact ihd (i + 1) (by omega)
      · simp only [h0, if_false]; exact Tells.same
theorem node_tells (l : List S49) (hl : l.length ≤ 9223372036854775807) {x : S24} (h : Held x) : Tells (fun k => customhouseref25_node.f k x.f0 x.f1 x.f2 x.f3 x.f4 l) (firstE (checkNode l) x) := by
  induction h with
  | mk x _ h1 _ _ hk _ ih =>
    have g := node_loop l x.f0 x.f1 x.f2 x.f3 x.f4 hk ih x.f4.length 0 (by omega)
    have g' : Tells (fun k => customhouseref25_node.l0 k 0 x.f0 x.f1 x.f2 x.f3 x.f4 l) (firstEs (checkNode l) x.f4) := by simpa using g
    rw [firstE_eq]
    have up : Tells (fun k => customhouseref25_node.j1 k false x.f0 x.f1 x.f2 x.f3 x.f4 l) (firstEs (checkNode l) x.f4) := by
      refine Tells.step (fun k => ?_) g'
      simp only [customhouseref25_node.j1]
      rw [if_neg (by decide)]
    refine Tells.step (h := fun k => (customhouseref25_formed.f k x.f0 x.f1 x.f2 x.f3 x.f4).bind fun t129 => (if t129 = true then (if x.f0 = 3 then (if x.f3 < 0 then (customhouseref25_node.j0 k true x.f0 x.f1 x.f2 x.f3 x.f4 l) else (customhouseref25_node.j0 k (decide (x.f3 > 1000000)) x.f0 x.f1 x.f2 x.f3 x.f4 l)) else (customhouseref25_node.j0 k false x.f0 x.f1 x.f2 x.f3 x.f4 l)) else (some 1))) (fun k => by simp only [customhouseref25_node.f]) ?_
    refine Tells.bind (formed_tells x h1) ?_
    cases hf : formedB x
    · have e : checkNode l x = 1 := if_pos hf
      rw [e, if_neg (by decide)]
      exact Tells.same
    · simp only [if_true]
      have bad : x.f0 = 3 → (x.f3 < 0 ∨ 1000000 < x.f3) → Tells (fun k => customhouseref25_node.j0 k true x.f0 x.f1 x.f2 x.f3 x.f4 l) (if checkNode l x = 0 then firstEs (checkNode l) x.f4 else checkNode l x) := by
        intro h3 hb
        have e : checkNode l x = 10 := by unfold checkNode; rw [if_neg (by rw [hf]; decide), if_neg (by simpa using h3), if_pos hb]
        rw [e, if_neg (by decide)]
        exact Tells.step (h := fun _ => some 10) (fun k => by simp [customhouseref25_node.j0]) Tells.same
      by_cases h3 : x.f0 = 3
      · simp only [h3, if_true]
        rw [h3] at bad up
        by_cases hb : x.f3 < 0
        · simp only [hb, if_true]; exact bad rfl (.inl hb)
        · simp only [hb, if_false]
          by_cases hb2 : x.f3 > 1000000
          · rw [decide_eq_true hb2]; exact bad rfl (.inr hb2)
          · rw [decide_eq_false hb2]
            refine Tells.step (h := fun k => (customhouseref24_Index.f k l x.f1).bind fun t => customhouseref25_node.j1 k (decide (t < 0)) 3 x.f1 x.f2 x.f3 x.f4 l) (fun k => ?_) ?_
            · simp only [customhouseref25_node.j0]
              rw [if_neg (by decide), if_pos True.intro]
            · refine Tells.bind (index_tells l x.f1 hl) ?_
              have e : checkNode l x = if indexOf l x.f1 < 0 then 7 else 0 := by unfold checkNode; rw [if_neg (by rw [hf]; decide), if_neg (by simpa using h3), if_neg (by omega)]
              rw [e]
              by_cases hi : indexOf l x.f1 < 0
              · rw [decide_eq_true hi, if_pos hi, if_neg (by decide)]
                exact Tells.step (h := fun _ => some 7) (fun k => by simp [customhouseref25_node.j1]) Tells.same
              · rw [decide_eq_false hi, if_neg hi, if_pos rfl]
                exact up
      · simp only [h3, if_false]
        have e : checkNode l x = 0 := by unfold checkNode; rw [if_neg (by rw [hf]; decide), if_pos h3]
        rw [e, if_pos rfl]
        refine Tells.step (fun k => ?_) up
        simp only [customhouseref25_node.j0]
        rw [if_neg (by decide), if_neg h3]
end Go.Proofs.YtkgmempifggajaaGreatDoor.PLawFormulaMatchesReference
-- the text YtkgmempifggajaaGreatDoorPureRefB
/- The reference's Size, Check, Valid, Fits, Value, Holds, Same compute what the program's do. -/
namespace Go.Proofs.YtkgmempifggajaaGreatDoor.PLawFormulaMatchesReference
open Go.RowKit Go.Proofs.YtkgmempifggajaaGreatDoorW.PrintWords Go.Proofs.YtkgmempifggajaaGreatDoorW.PrintLast Go.Proofs.YtkgmempifggajaaGreatDoorW.PrintMore
open Go.Proofs.YtkgmempifggajaaGreatDoor.P
set_option linter.unusedVariables false
set_option linter.unusedSimpArgs false

theorem mx_nat (a b : Nat) : mx (a : Int) (b : Int) = ((max a b : Nat) : Int) := by
  unfold mx
  by_cases h : (a : Int) < b
  · rw [if_pos h]; omega
  · rw [if_neg h]; omega
theorem rsize_loop (op : Int) (nm : ByteArray) (c n : Int) (ks : List S24) (hk : ks.length ≤ 9223372036854775807) (hs : sizes ks ≤ 100000000)
    (ih : ∀ j (hj : j < ks.length), Tells (fun k => customhouseref25_Size.f k ks[j].f0 ks[j].f1 ks[j].f2 ks[j].f3 ks[j].f4) (((size ks[j] : Nat) : Int), ((depth ks[j] : Nat) : Int))) :
    ∀ d i : Nat, i + d = ks.length → Tells (fun k => customhouseref25_Size.l0 k ((1 + sizes (ks.take i) : Nat) : Int) ((depths (ks.take i) : Nat) : Int) i op nm c n ks) (((1 + sizes ks : Nat) : Int), ((1 + depths ks : Nat) : Int)) := by
  have hd0 := depths_le_sizes ks
  intro d
  induction d with
  | zero =>
    intro i hi
    obtain rfl : i = ks.length := by omega
    rw [List.take_length]
    refine Tells.step (fun k => ?_) Tells.same
    simp only [customhouseref25_Size.l0]
    rw [if_neg (by omega)]
    have : wrap64 (((depths ks : Nat) : Int) + 1) = ((1 + depths ks : Nat) : Int) := by unfold wrap64; omega
    rw [this]
  | succ d ihd =>
    intro i hi
    have hlt : i < ks.length := by omega
    have w1 : wrap64 ((i : Int) + 1) = ((i + 1 : Nat) : Int) := by unfold wrap64; omega
    have g := ihd (i + 1) (by omega)
    have s1 := sizes_snoc ks i hlt
    have s2 := depths_snoc ks i hlt
    have s3 := sizes_take_le ks (i + 1)
    have w2 : wrap64 (((1 + sizes (ks.take i) : Nat) : Int) + ((size ks[i] : Nat) : Int)) = ((1 + sizes (ks.take (i + 1)) : Nat) : Int) := by unfold wrap64; omega
    have w3 : mx ((depths (ks.take i) : Nat) : Int) ((depth ks[i] : Nat) : Int) = ((depths (ks.take (i + 1)) : Nat) : Int) := by rw [mx_nat, s2]
    refine Tells.step (h := fun k => (customhouseref25_Size.f k ks[i].f0 ks[i].f1 ks[i].f2 ks[i].f3 ks[i].f4).bind fun bt => customhouseref25_Size.l0 k (wrap64 (((1 + sizes (ks.take i) : Nat) : Int) + bt.1)) (mx ((depths (ks.take i) : Nat) : Int) bt.2) ((i + 1 : Nat) : Int) op nm c n ks) (fun k => ?_) ?_
    · simp only [customhouseref25_Size.l0]
      rw [if_pos (by omega), if_pos (by omega), rd_at ks i hlt, w1]
    · refine Tells.bind (ih i hlt) ?_
      simp only []
      rw [w2, w3]
      exact g
theorem rsize_tells {x : S24} (h : Held x) : size x ≤ 100000000 → Tells (fun k => customhouseref25_Size.f k x.f0 x.f1 x.f2 x.f3 x.f4) (((size x : Nat) : Int), ((depth x : Nat) : Int)) := by
  induction h with
  | mk x _ h1 _ _ hk _ ih =>
    intro hs
    rw [size_eq] at hs
    rw [size_eq x, depth_eq x]
    have g := rsize_loop x.f0 x.f1 x.f2 x.f3 x.f4 hk (by omega) (fun j hj => ih j hj (by have := size_mem x.f4 j hj; omega)) x.f4.length 0 (by omega)
    refine Tells.step (fun k => ?_) g
    simp only [customhouseref25_Size.f]
    rfl
theorem large_tells {x : S24} (h : Held x) (hs : size x ≤ 100000000) : Tells (fun k => customhouseref25_Large.f k x.f0 x.f1 x.f2 x.f3 x.f4) (isLarge x) := by
  unfold customhouseref25_Large.f
  refine Tells.bind (rsize_tells h hs) ?_
  simp only []
  unfold isLarge
  by_cases h1 : 200 < size x
  · rw [if_pos (by omega), decide_eq_true h1]
    exact Tells.same
  · rw [if_neg (by omega), decide_eq_false h1, Bool.false_or]
    have : decide (((depth x : Nat) : Int) > 20) = decide (20 < depth x) := by rw [decide_eq_decide]; omega
    rw [this]
    exact Tells.same
theorem check_tells (l : List S49) (hl : l.length ≤ 9223372036854775807) {x : S24} (h : Held x) (hs : size x ≤ 100000000) : Tells (fun k => customhouseref25_Check.f k x.f0 x.f1 x.f2 x.f3 x.f4 l) (checkF x l) := by
  unfold customhouseref25_Check.f
  refine Tells.bind (large_tells h hs) ?_
  unfold checkF
  cases isLarge x
  · rw [if_neg (by decide)]
    refine Tells.eq (h := fun k => (customhouseref25_node.f k x.f0 x.f1 x.f2 x.f3 x.f4 l).bind fun t => some t) (fun k => by rw [if_neg (by decide)]) ?_
    exact Tells.bind (node_tells l hl h) Tells.same
  · exact Tells.eq (h := fun _ => some 2) (fun k => by rw [if_pos rfl]) Tells.same
theorem idx_first {α : Type} (p : α → Bool) : ∀ (l : List α) (k : Nat), idxBy p l = k → ∀ j, j < k → ∀ hj : j < l.length, p l[j] = false
  | [], k, h, j, hj, hj2 => absurd hj2 (by simp)
  | a :: l, k, h, j, hj, hj2 => by
    unfold idxBy at h
    cases hp : p a
    · rw [hp, if_neg (by decide)] at h
      cases j with
      | zero => exact hp
      | succ j =>
        have hge := idxBy_ge p l
        by_cases hm : idxBy p l = -1
        · rw [if_pos hm] at h; omega
        · rw [if_neg hm] at h
          obtain ⟨k', rfl⟩ : ∃ k', k = k' + 1 := ⟨k - 1, by omega⟩
          have := idx_first p l k' (by omega) j (by omega) (by simpa using hj2)
          simpa using this
    · rw [hp, if_pos rfl] at h
      omega
theorem index_own (l : List S49) (i : Nat) (hi : i < l.length) : indexOf l l[i].f0 = i ↔ seenIn (l.take i) l[i].f0 = false := by
  constructor
  · intro h
    unfold seenIn
    rw [List.any_eq_false]
    intro g hg
    obtain ⟨j, hj, rfl⟩ := List.getElem_of_mem hg
    have hji : j < i := by rw [List.length_take] at hj; omega
    have := idx_first (named l[i].f0) l i h j hji (by omega)
    unfold named at this
    rw [List.getElem_take]
    rw [toList_data, toList_data] at this
    rw [this]
    decide
  · intro h
    refine idxBy_hit hi (fun j hj => ?_) (by unfold named; exact beq_self_eq_true _)
    unfold seenIn at h
    rw [List.any_eq_false] at h
    have hm : l[j]'(by omega) ∈ l.take i := by
      rw [List.mem_take_iff_getElem]
      exact ⟨j, by omega, rfl⟩
    have := h _ hm
    unfold named
    rw [toList_data, toList_data]
    simpa using this
theorem range_succ (i d : Nat) : List.range' i (d + 1) = i :: List.range' (i + 1) d := rfl
theorem valid_loop (l : List S49) (hl : l.length ≤ 9223372036854775807) (hh : ∀ y ∈ l, HeldFact y) :
    ∀ d i : Nat, i + d = l.length → Tells (fun k => customhouseref24_Valid.l0 k i l) ((List.range' i d).all (factAt l) && decide ((l.length : Int) ≤ 60)) := by
  intro d
  induction d with
  | zero =>
    intro i hi
    refine Tells.step (fun k => ?_) Tells.same
    simp only [customhouseref24_Valid.l0]
    rw [if_neg (by omega)]
    rfl
  | succ d ihd =>
    intro i hi
    have hlt : i < l.length := by omega
    have hrd : rd_T49 l (i : Int) = l[i] := by simp [rd_T49, List.getD_eq_getElem?_getD, List.getElem?_eq_getElem hlt]
    have w1 : wrap64 ((i : Int) + 1) = ((i + 1 : Nat) : Int) := by unfold wrap64; omega
    have g := ihd (i + 1) (by omega)
    rw [range_succ, List.all_cons]
    obtain ⟨f, hf⟩ : ∃ f, l[i] = f := ⟨_, rfl⟩
    have hgd : l.getD i z49 = f := by rw [List.getD_eq_getElem?_getD, List.getElem?_eq_getElem hlt, hf]; rfl
    have hfa : factAt l i = (factOk f && !seenIn (l.take i) f.f0) := by unfold factAt; rw [hgd]
    have hio := index_own l i hlt
    rw [hf] at hio
    have hsz := (hh l[i] (List.getElem_mem hlt)).f0
    rw [hf] at hsz
    obtain ⟨f0, f1, f2, f3⟩ := f
    simp only [] at hfa hio hsz
    have jt : Tells (fun k => customhouseref24_Valid.j1 k i true l f0 f1 f2 f3) false := by
      refine Tells.step (h := fun _ => some false) (fun k => ?_) Tells.same
      simp [customhouseref24_Valid.j1]
    refine Tells.step (h := fun k => (customhouseref07_Name.f k f0).bind fun t => if t = true then ((customhouseref24_Index.f k l f0).bind fun u => if u = (i : Int) then (if f2 < 0 then customhouseref24_Valid.j1 k i true l f0 f1 f2 f3 else (if f2 > f3 then customhouseref24_Valid.j1 k i true l f0 f1 f2 f3 else customhouseref24_Valid.j1 k i (decide (f3 > 1000000)) l f0 f1 f2 f3)) else customhouseref24_Valid.j1 k i true l f0 f1 f2 f3) else customhouseref24_Valid.j1 k i true l f0 f1 f2 f3) (fun k => ?_) ?_
    · simp only [customhouseref24_Valid.l0]
      rw [if_pos (by omega), if_pos (by omega), hrd, hf]
    · refine Tells.bind (name_tells f0 hsz) ?_
      have hn := nameOk_isName f0
      cases hN : isName f0.data.toList
      · have e : factAt l i = false := by rw [hfa]; unfold factOk; rw [hn, hN, Bool.and_false, Bool.false_and]
        rw [e, Bool.false_and, Bool.false_and]
        exact Tells.eq (fun k => by rw [if_neg (by decide)]) jt
      · refine Tells.eq (fun k => by rw [if_pos rfl]) ?_
        refine Tells.bind (index_tells l f0 hl) ?_
        by_cases hI : indexOf l f0 = (i : Int)
        · have hse : seenIn (l.take i) f0 = false := hio.1 hI
          have e : factAt l i = ((f1 == 1 && f2 == 0 && f3 == 1) || (f1 == 2 && decide (0 ≤ f2) && decide (f2 ≤ f3) && decide (f3 ≤ 1000000))) := by
            rw [hfa, hse]; unfold factOk; rw [hn, hN]; simp
          rw [e]
          refine Tells.eq (fun k => by rw [if_pos hI]) ?_
          by_cases b1 : f2 < 0
          · refine Tells.eq (fun k => by rw [if_pos b1]) ?_
            have z : ((f1 == 1 && f2 == 0 && f3 == 1) || (f1 == 2 && decide (0 ≤ f2) && decide (f2 ≤ f3) && decide (f3 ≤ 1000000))) = false := by
              rw [beq_eq_false_iff_ne.2 (show f2 ≠ 0 by omega), decide_eq_false (show ¬ 0 ≤ f2 by omega)]; simp
            rw [z]
            exact jt
          · by_cases b2 : f2 > f3
            · refine Tells.eq (fun k => by rw [if_neg b1, if_pos b2]) ?_
              have z : ((f1 == 1 && f2 == 0 && f3 == 1) || (f1 == 2 && decide (0 ≤ f2) && decide (f2 ≤ f3) && decide (f3 ≤ 1000000))) = false := by
                rw [decide_eq_false (show ¬ f2 ≤ f3 by omega)]
                by_cases q : f2 = 0
                · rw [beq_eq_false_iff_ne.2 (show f3 ≠ 1 by omega)]; simp
                · rw [beq_eq_false_iff_ne.2 q]; simp
              rw [z]
              exact jt
            · refine Tells.eq (fun k => by rw [if_neg b1, if_neg b2]) ?_
              by_cases b3 : f3 > 1000000
              · have z : ((f1 == 1 && f2 == 0 && f3 == 1) || (f1 == 2 && decide (0 ≤ f2) && decide (f2 ≤ f3) && decide (f3 ≤ 1000000))) = false := by
                  rw [decide_eq_false (show ¬ f3 ≤ 1000000 by omega), beq_eq_false_iff_ne.2 (show f3 ≠ 1 by omega)]; simp
                rw [z, decide_eq_true b3]
                exact jt
              · rw [decide_eq_false b3, decide_eq_true (show 0 ≤ f2 by omega), decide_eq_true (show f2 ≤ f3 by omega), decide_eq_true (show f3 ≤ 1000000 by omega)]
                by_cases c1 : f1 = 1
                · by_cases c2 : f2 = 0
                  · by_cases c3 : f3 = 1
                    · subst c1 c2 c3
                      refine Tells.step (fun k => ?_) (by simpa using g)
                      simp [customhouseref24_Valid.j1, w1]
                    · refine Tells.step (h := fun _ => some false) (fun k => ?_) (by rw [beq_eq_false_iff_ne.2 c3]; subst c1; simp; exact Tells.same)
                      simp [customhouseref24_Valid.j1, c1, c2, c3]
                  · refine Tells.step (h := fun _ => some false) (fun k => ?_) (by rw [beq_eq_false_iff_ne.2 c2]; subst c1; simp; exact Tells.same)
                    simp [customhouseref24_Valid.j1, c1, c2]
                · by_cases c2 : f1 = 2
                  · subst c2
                    refine Tells.step (fun k => ?_) (by simpa using g)
                    simp [customhouseref24_Valid.j1, w1]
                  · refine Tells.step (h := fun _ => some false) (fun k => ?_) (by rw [beq_eq_false_iff_ne.2 c1, beq_eq_false_iff_ne.2 c2]; simp; exact Tells.same)
                    simp only [customhouseref24_Valid.j1]
                    rw [if_neg (by decide)]
                    by_cases c3 : f1 < 1
                    · rw [if_pos c3]
                    · rw [if_neg c3, if_pos (by omega)]
        · have hse : seenIn (l.take i) f0 = true := by
            cases hq : seenIn (l.take i) f0
            · exact absurd (hio.2 hq) hI
            · rfl
          have e : factAt l i = false := by rw [hfa, hse]; simp
          rw [e, Bool.false_and, Bool.false_and]
          exact Tells.eq (fun k => by rw [if_neg hI]) jt
theorem valid_tells (l : List S49) (hl : l.length ≤ 9223372036854775807) (hh : ∀ y ∈ l, HeldFact y) : Tells (fun k => customhouseref24_Valid.f k l) (validB l) := by
  have g := valid_loop l hl hh l.length 0 (by omega)
  unfold validB
  rw [List.range_eq_range']
  exact g
theorem fits_loop (l : List S49) (cs : List Int) (hl : l.length ≤ 9223372036854775807) (hc : cs.length = l.length) :
    ∀ d i : Nat, i + d = l.length → Tells (fun k => customhouseref24_Fits.l0 k cs i l) ((List.range' i d).all (inAt l cs)) := by
  intro d
  induction d with
  | zero =>
    intro i hi
    refine Tells.step (fun k => ?_) Tells.same
    simp only [customhouseref24_Fits.l0]
    rw [if_neg (by omega)]
    rfl
  | succ d ihd =>
    intro i hi
    have hlt : i < l.length := by omega
    have hrd : rd_T49 l (i : Int) = l.getD i z49 := by simp [rd_T49]
    have hrc : rd cs (i : Int) = cs.getD i 0 := by simp [rd]
    have w1 : wrap64 ((i : Int) + 1) = ((i + 1 : Nat) : Int) := by unfold wrap64; omega
    have g := ihd (i + 1) (by omega)
    rw [range_succ, List.all_cons]
    have hin : inAt l cs i = (decide ((l.getD i z49).f2 ≤ cs.getD i 0) && decide (cs.getD i 0 ≤ (l.getD i z49).f3)) := rfl
    rw [hin]
    refine Tells.step (h := fun k => if cs.getD i 0 < (l.getD i z49).f2 then some false else if cs.getD i 0 > (l.getD i z49).f3 then some false else customhouseref24_Fits.l0 k cs ((i + 1 : Nat) : Int) l) (fun k => ?_) ?_
    · simp only [customhouseref24_Fits.l0]
      rw [if_pos (by omega), if_pos (by omega), if_pos (by omega), hrd, hrc, w1]
    · by_cases a1 : cs.getD i 0 < (l.getD i z49).f2
      · rw [decide_eq_false (show ¬ (l.getD i z49).f2 ≤ cs.getD i 0 by omega), Bool.false_and, Bool.false_and]
        exact Tells.eq (h := fun _ => some false) (fun k => by rw [if_pos a1]) Tells.same
      · rw [decide_eq_true (show (l.getD i z49).f2 ≤ cs.getD i 0 by omega), Bool.true_and]
        by_cases a2 : cs.getD i 0 > (l.getD i z49).f3
        · rw [decide_eq_false (show ¬ cs.getD i 0 ≤ (l.getD i z49).f3 by omega), Bool.false_and]
          exact Tells.eq (h := fun _ => some false) (fun k => by rw [if_neg a1, if_pos a2]) Tells.same
        · rw [decide_eq_true (show cs.getD i 0 ≤ (l.getD i z49).f3 by omega), Bool.true_and]
          exact Tells.eq (fun k => by rw [if_neg a1, if_neg a2]) g
theorem fits_tells (l : List S49) (cs : List Int) (hl : l.length ≤ 9223372036854775807) (hh : ∀ y ∈ l, HeldFact y) : Tells (fun k => customhouseref24_Fits.f k l cs) (fitsB l cs) := by
  unfold customhouseref24_Fits.f
  refine Tells.bind (valid_tells l hl hh) ?_
  have jt : Tells (fun k => customhouseref24_Fits.j0 k cs true l) false := by
    refine Tells.step (h := fun _ => some false) (fun k => ?_) Tells.same
    simp [customhouseref24_Fits.j0]
  unfold fitsB
  cases validB l
  · rw [Bool.false_and, Bool.false_and]
    exact Tells.eq (fun k => by rw [if_neg (by decide)]) jt
  · refine Tells.eq (fun k => by rw [if_pos rfl]) ?_
    by_cases hc : cs.length = l.length
    · have e : ((cs.length : Int) != (l.length : Int)) = false := by rw [hc]; simp
      rw [e, beq_iff_eq.2 hc, Bool.true_and, Bool.true_and, List.range_eq_range']
      refine Tells.step (fun k => ?_) (fits_loop l cs hl hc l.length 0 (by omega))
      simp only [customhouseref24_Fits.j0]
      rw [if_neg (by decide)]
      rfl
    · have e : ((cs.length : Int) != (l.length : Int)) = true := by simp; omega
      rw [e, beq_eq_false_iff_ne.2 hc, Bool.and_false, Bool.false_and]
      exact jt
end Go.Proofs.YtkgmempifggajaaGreatDoor.PLawFormulaMatchesReference
-- the text YtkgmempifggajaaGreatDoorPureRefC
/- The reference's Value, Holds and Same compute what the program's do. -/
namespace Go.Proofs.YtkgmempifggajaaGreatDoor.PLawFormulaMatchesReference
open Go.RowKit Go.Proofs.YtkgmempifggajaaGreatDoorW.PrintWords Go.Proofs.YtkgmempifggajaaGreatDoorW.PrintLast Go.Proofs.YtkgmempifggajaaGreatDoorW.PrintMore
open Go.Proofs.YtkgmempifggajaaGreatDoor.P
set_option linter.unusedVariables false
set_option linter.unusedSimpArgs false

theorem compare_f (a cmp b : Int) (h1 : 1 ≤ cmp) (h6 : cmp ≤ 6) : customhouseref25_Compare.f a cmp b = some (cmpB cmp a b) := by
  unfold customhouseref25_Compare.f cmpB
  rcases (show cmp = 1 ∨ cmp = 2 ∨ cmp = 3 ∨ cmp = 4 ∨ cmp = 5 ∨ cmp = 6 by omega) with rfl | rfl | rfl | rfl | rfl | rfl <;> simp
theorem value_all (l : List S49) (cs : List Int) (op : Int) (nm : ByteArray) (c n : Int) (ks : List S24) (hk : ks.length ≤ 9223372036854775807)
    (ih : ∀ j (hj : j < ks.length), Tells (fun k => customhouseref25_Value.f k ks[j].f0 ks[j].f1 ks[j].f2 ks[j].f3 ks[j].f4 l cs) (holdsE (P.valOf l cs) ks[j])) :
    ∀ d i : Nat, i + d = ks.length → Tells (fun k => customhouseref25_Value.l0 k cs i op nm c n ks l) (holdsAll (P.valOf l cs) (ks.drop i)) := by
  intro d
  induction d with
  | zero =>
    intro i hi
    refine Tells.step (fun k => ?_) Tells.same
    simp only [customhouseref25_Value.l0]
    rw [if_neg (by omega), List.drop_eq_nil_of_le (by omega)]
    rfl
  | succ d ihd =>
    intro i hi
    have hlt : i < ks.length := by omega
    have w1 : wrap64 ((i : Int) + 1) = ((i + 1 : Nat) : Int) := by unfold wrap64; omega
    rw [List.drop_eq_getElem_cons hlt]
    simp only [holdsAll]
    refine Tells.step (h := fun k => (customhouseref25_Value.f k ks[i].f0 ks[i].f1 ks[i].f2 ks[i].f3 ks[i].f4 l cs).bind fun t => if t = true then customhouseref25_Value.l0 k cs ((i + 1 : Nat) : Int) op nm c n ks l else some false) (fun k => ?_) ?_
    · simp only [customhouseref25_Value.l0]
      rw [if_pos (by omega), if_pos (by omega), rd_at ks i hlt, w1]
    · refine Tells.bind (ih i hlt) ?_
      cases holdsE (P.valOf l cs) ks[i]
      · exact Tells.eq (h := fun _ => some false) (fun k => by rw [if_neg (by decide)]) Tells.same
      · refine Tells.eq (fun k => by rw [if_pos rfl]) ?_
        rw [Bool.true_and]
        exact ihd (i + 1) (by omega)
theorem value_any (l : List S49) (cs : List Int) (op : Int) (nm : ByteArray) (c n : Int) (ks : List S24) (hk : ks.length ≤ 9223372036854775807)
    (ih : ∀ j (hj : j < ks.length), Tells (fun k => customhouseref25_Value.f k ks[j].f0 ks[j].f1 ks[j].f2 ks[j].f3 ks[j].f4 l cs) (holdsE (P.valOf l cs) ks[j])) :
    ∀ d i : Nat, i + d = ks.length → Tells (fun k => customhouseref25_Value.l1 k cs i op nm c n ks l) (holdsAny (P.valOf l cs) (ks.drop i)) := by
  intro d
  induction d with
  | zero =>
    intro i hi
    refine Tells.step (fun k => ?_) Tells.same
    simp only [customhouseref25_Value.l1]
    rw [if_neg (by omega), List.drop_eq_nil_of_le (by omega)]
    rfl
  | succ d ihd =>
    intro i hi
    have hlt : i < ks.length := by omega
    have w1 : wrap64 ((i : Int) + 1) = ((i + 1 : Nat) : Int) := by unfold wrap64; omega
    rw [List.drop_eq_getElem_cons hlt]
    simp only [holdsAny]
    refine Tells.step (h := fun k => (customhouseref25_Value.f k ks[i].f0 ks[i].f1 ks[i].f2 ks[i].f3 ks[i].f4 l cs).bind fun t => if t = true then some true else customhouseref25_Value.l1 k cs ((i + 1 : Nat) : Int) op nm c n ks l) (fun k => ?_) ?_
    · simp only [customhouseref25_Value.l1]
      rw [if_pos (by omega), if_pos (by omega), rd_at ks i hlt, w1]
    · refine Tells.bind (ih i hlt) ?_
      cases holdsE (P.valOf l cs) ks[i]
      · refine Tells.eq (fun k => by rw [if_neg (by decide)]) ?_
        rw [Bool.false_or]
        exact ihd (i + 1) (by omega)
      · exact Tells.eq (h := fun _ => some true) (fun k => by rw [if_pos rfl]) Tells.same
theorem value_tells (l : List S49) (cs : List Int) (hl : l.length ≤ 9223372036854775807) (hlc : cs.length = l.length) {x : S24} (h : Held x) : firstE (checkNode l) x = 0 → Tells (fun k => customhouseref25_Value.f k x.f0 x.f1 x.f2 x.f3 x.f4 l cs) (holdsE (P.valOf l cs) x) := by
  induction h with
  | mk x _ h1 _ _ hk _ ih =>
    intro hck
    obtain ⟨hck1, hck2⟩ := checks_of l x hck
    obtain ⟨hf, hn3⟩ := check_node_of l x hck1
    have ihk := fun j (hj : j < x.f4.length) => ih j hj (firstEs_mem _ _ hck2 j hj)
    rw [holdsE_eq]
    by_cases h3 : x.f0 = 3
    · obtain ⟨_, a1, a2, _⟩ := formed_test_of x hf h3
      have hi0 := (hn3 h3).2.2
      have hi1 : indexOf l x.f1 < l.length := idxBy_lt _ _ hi0
      rw [if_pos h3]
      refine Tells.step (h := fun k => (customhouseref24_Index.f k l x.f1).bind fun t => if 0 ≤ t then (if t < (cs.length : Int) then ((customhouseref25_Compare.f (rd cs t) x.f2 x.f3).bind fun u => some u) else none) else none) (fun k => ?_) ?_
      · simp only [customhouseref25_Value.f]
        rw [if_neg (by omega), if_pos h3]
      · refine Tells.bind (index_tells l x.f1 hl) ?_
        refine Tells.eq (fun k => by rw [if_pos hi0, if_pos (by omega), compare_f _ _ _ a1 a2]) ?_
        exact Tells.same
    rw [if_neg h3]
    have gall := value_all l cs x.f0 x.f1 x.f2 x.f3 x.f4 hk ihk x.f4.length 0 (by omega)
    have gany := value_any l cs x.f0 x.f1 x.f2 x.f3 x.f4 hk ihk x.f4.length 0 (by omega)
    rw [List.drop_zero] at gall gany
    rcases formed_op x hf h3 with h | h | ⟨h, hl1⟩ | ⟨h, _⟩ | ⟨h, _⟩
    · have e1 : (x.f0 == 1) = true := by rw [h]; rfl
      rw [if_neg (by omega), if_neg (by omega), if_neg (by omega), e1]
      refine Tells.step (h := fun _ => some true) (fun k => ?_) Tells.same
      simp only [customhouseref25_Value.f]
      rw [if_pos h]
    · have hb := hf
      unfold formedB at hb
      rw [if_neg h3, if_pos (.inr h)] at hb
      simp only [Bool.and_eq_true, beq_iff_eq] at hb
      have h0 : x.f4.length = 0 := hb.2
      have hnil : x.f4 = [] := List.eq_nil_of_length_eq_zero h0
      have e1 : (x.f0 == 1) = false := by rw [h]; rfl
      rw [if_neg (by omega), if_neg (by omega), if_neg (by omega), e1]
      have e : holdsAny (P.valOf l cs) x.f4 = false := by rw [hnil]; rfl
      rw [e] at gany
      refine Tells.step (fun k => ?_) gany
      simp only [customhouseref25_Value.f]
      rw [if_neg (by omega), if_neg h3, if_neg (by omega), if_neg (by omega)]
      rfl
    · have h0 : 0 < x.f4.length := by omega
      rw [if_pos h, holdsHd_zero _ _ h0]
      have hr0 : rd_T24 x.f4 0 = x.f4[0] := rd_at x.f4 0 h0
      refine Tells.step (h := fun k => (customhouseref25_Value.f k x.f4[0].f0 x.f4[0].f1 x.f4[0].f2 x.f4[0].f3 x.f4[0].f4 l cs).bind fun t => some (!t)) (fun k => ?_) ?_
      · simp only [customhouseref25_Value.f]
        rw [if_neg (by omega), if_neg h3, if_pos h, if_pos (by omega), hr0]
      · exact Tells.bind (ihk 0 h0) Tells.same
    · rw [if_neg (by omega), if_pos h]
      refine Tells.step (fun k => ?_) gall
      simp only [customhouseref25_Value.f]
      rw [if_neg (by omega), if_neg h3, if_neg (by omega), if_pos h]
      rfl
    · rw [if_neg (by omega), if_neg (by omega), if_pos h]
      refine Tells.step (fun k => ?_) gany
      simp only [customhouseref25_Value.f]
      rw [if_neg (by omega), if_neg h3, if_neg (by omega), if_neg (by omega)]
      rfl
theorem holds_tells (l : List S49) (cs : List Int) (hl : l.length ≤ 9223372036854775807) (hh : ∀ y ∈ l, HeldFact y) {x : S24} (h : Held x) (hs : size x ≤ 100000000) : Tells (fun k => customhouseref25_Holds.f k x.f0 x.f1 x.f2 x.f3 x.f4 l cs) (holdsF x l cs) := by
  unfold customhouseref25_Holds.f
  refine Tells.bind (fits_tells l cs hl hh) ?_
  unfold holdsF
  cases hf : fitsB l cs
  · exact Tells.eq (h := fun _ => some false) (fun k => by rw [if_neg (by decide)]) Tells.same
  · refine Tells.eq (fun k => by rw [if_pos rfl]) ?_
    refine Tells.bind (check_tells l hl h hs) ?_
    rw [Bool.true_and]
    by_cases hc : checkF x l = 0
    · rw [beq_iff_eq.2 hc, Bool.true_and]
      refine Tells.eq (fun k => by rw [if_pos hc]) ?_
      exact Tells.bind (value_tells l cs hl (fits_valid hf).2 h (check_first hc).1) Tells.same
    · rw [beq_eq_false_iff_ne.2 hc, Bool.false_and]
      exact Tells.eq (h := fun _ => some false) (fun k => by rw [if_neg hc]) Tells.same
theorem same_loop (op : Int) (nm : ByteArray) (c n : Int) (ks : List S24) (op' : Int) (nm' : ByteArray) (c' n' : Int) (ms : List S24) (hk : ks.length ≤ 9223372036854775807) (hl : ks.length = ms.length)
    (ih : ∀ j (hj : j < ks.length) (y : S24), Tells (fun k => customhouseref25_Same.f k ks[j].f0 ks[j].f1 ks[j].f2 ks[j].f3 ks[j].f4 y.f0 y.f1 y.f2 y.f3 y.f4) (sameB ks[j] y)) :
    ∀ d i : Nat, i + d = ks.length → Tells (fun k => customhouseref25_Same.l0 k i op nm c n ks op' nm' c' n' ms) (samesB (ks.drop i) (ms.drop i)) := by
  intro d
  induction d with
  | zero =>
    intro i hi
    refine Tells.step (fun k => ?_) Tells.same
    simp only [customhouseref25_Same.l0]
    rw [if_neg (by omega), List.drop_eq_nil_of_le (by omega)]
    simp [samesB]
  | succ d ihd =>
    intro i hi
    have hlt : i < ks.length := by omega
    have hlt2 : i < ms.length := by omega
    have w1 : wrap64 ((i : Int) + 1) = ((i + 1 : Nat) : Int) := by unfold wrap64; omega
    rw [List.drop_eq_getElem_cons hlt, List.drop_eq_getElem_cons hlt2]
    simp only [samesB]
    refine Tells.step (h := fun k => (customhouseref25_Same.f k ks[i].f0 ks[i].f1 ks[i].f2 ks[i].f3 ks[i].f4 ms[i].f0 ms[i].f1 ms[i].f2 ms[i].f3 ms[i].f4).bind fun t => if t = true then customhouseref25_Same.l0 k ((i + 1 : Nat) : Int) op nm c n ks op' nm' c' n' ms else some false) (fun k => ?_) ?_
    · simp only [customhouseref25_Same.l0]
      rw [if_pos (by omega), if_pos (by omega), if_pos (by omega), rd_at ks i hlt, rd_at ms i hlt2, w1]
    · refine Tells.bind (ih i hlt ms[i]) ?_
      cases sameB ks[i] ms[i]
      · exact Tells.eq (h := fun _ => some false) (fun k => by rw [if_neg (by decide)]) Tells.same
      · refine Tells.eq (fun k => by rw [if_pos rfl]) ?_
        rw [Bool.true_and]
        exact ihd (i + 1) (by omega)
theorem same_tells {x : S24} (h : Held x) : ∀ y : S24, Tells (fun k => customhouseref25_Same.f k x.f0 x.f1 x.f2 x.f3 x.f4 y.f0 y.f1 y.f2 y.f3 y.f4) (sameB x y) := by
  induction h with
  | mk x _ h1 _ _ hk _ ih =>
    intro y
    rw [sameB_eq]
    have jt : Tells (fun k => customhouseref25_Same.j0 k true x.f0 x.f1 x.f2 x.f3 x.f4 y.f0 y.f1 y.f2 y.f3 y.f4) false := by
      refine Tells.step (h := fun _ => some false) (fun k => ?_) Tells.same
      simp [customhouseref25_Same.j0]
    by_cases a0 : x.f0 = y.f0
    · by_cases a1 : x.f1.toList = y.f1.toList
      · by_cases a2 : x.f2 = y.f2
        · by_cases a3 : x.f3 = y.f3
          · rw [beq_iff_eq.2 a0, beq_iff_eq.2 a1, beq_iff_eq.2 a2, beq_iff_eq.2 a3]
            simp only [Bool.true_and]
            refine Tells.step (h := fun k => customhouseref25_Same.j0 k ((x.f4.length : Int) != (y.f4.length : Int)) x.f0 x.f1 x.f2 x.f3 x.f4 y.f0 y.f1 y.f2 y.f3 y.f4) (fun k => ?_) ?_
            · simp only [customhouseref25_Same.f]
              rw [if_pos a0, if_pos a1, if_pos a2, if_pos a3]
            · by_cases hl : x.f4.length = y.f4.length
              · have e : ((x.f4.length : Int) != (y.f4.length : Int)) = false := by rw [hl]; simp
                rw [e, beq_iff_eq.2 hl, Bool.true_and]
                have g := same_loop x.f0 x.f1 x.f2 x.f3 x.f4 y.f0 y.f1 y.f2 y.f3 y.f4 hk hl (fun j hj y => ih j hj y) x.f4.length 0 (by omega)
                rw [List.drop_zero, List.drop_zero] at g
                refine Tells.step (fun k => ?_) g
                simp only [customhouseref25_Same.j0]
                rw [if_neg (by decide)]
                rfl
              · have e : ((x.f4.length : Int) != (y.f4.length : Int)) = true := by simp; omega
                rw [e, beq_eq_false_iff_ne.2 hl, Bool.false_and]
                exact jt
          · rw [beq_eq_false_iff_ne.2 a3]
            simp only [Bool.and_false, Bool.false_and]
            refine Tells.step (fun k => ?_) jt
            simp only [customhouseref25_Same.f]
            rw [if_pos a0, if_pos a1, if_pos a2, if_neg a3]
        · rw [beq_eq_false_iff_ne.2 a2]
          simp only [Bool.and_false, Bool.false_and]
          refine Tells.step (fun k => ?_) jt
          simp only [customhouseref25_Same.f]
          rw [if_pos a0, if_pos a1, if_neg a2]
      · rw [beq_eq_false_iff_ne.2 a1]
        simp only [Bool.and_false, Bool.false_and]
        refine Tells.step (fun k => ?_) jt
        simp only [customhouseref25_Same.f]
        rw [if_pos a0, if_neg a1]
    · rw [beq_eq_false_iff_ne.2 a0]
      simp only [Bool.false_and]
      refine Tells.step (fun k => ?_) jt
      simp only [customhouseref25_Same.f]
      rw [if_neg a0]
end Go.Proofs.YtkgmempifggajaaGreatDoor.PLawFormulaMatchesReference
-- the text YtkgmempifggajaaGreatDoorGoMatch
/- FormulaMatchesReference, walked. -/
namespace Go.Proofs.YtkgmempifggajaaGreatDoor.PLawMatch
open Go.RowKit Go.Proofs.YtkgmempifggajaaGreatDoorW.PrintWords Go.Proofs.YtkgmempifggajaaGreatDoorW.PrintLast Go.Proofs.YtkgmempifggajaaGreatDoorW.PrintMore
open Go.Proofs.YtkgmempifggajaaGreatDoor.P
set_option linter.unusedVariables false
set_option linter.unusedSimpArgs false

abbrev fmC (x : Fm) (A : Option Addr) (c : Nat) : Array Value := #[.int .i64 x.f0, .string x.f1, .int .i64 x.f2, .int .i64 x.f3, .slice A x.f4.length c]
/-- The law's variables. -/
structure MP (w0 w : World) (b1 b2 b3 : Nat) (x y : Fm) (l : List Fact) (cs : List Int) (A B D E : Option Addr) (c d dc ec : Nat) : Prop where
  f : w.heap[b1]? = some (.cells (fmC x A c) 24 (0, 0))
  g : w.heap[b2]? = some (.cells (fmC y B d) 24 (0, 0))
  dom : w.heap[b3]? = some (.cells #[.slice D l.length dc] 27 (0, 0))
  fC : Kd.C kFm w A x.f4.length x.f4
  gC : Kd.C kFm w B y.f4.length y.f4
  dC : Kd.C kFact w D l.length l
  eC : Kd.C (Kd.int .i64) w E cs.length cs
  fl : x.f4.length ≤ c
  gl : y.f4.length ≤ d
  dl : l.length ≤ dc
  el : cs.length ≤ ec
  old : Below w0.heap.size w0 w
theorem MP.below {w0 w w1 : World} {b1 b2 b3 : Nat} {x y : Fm} {l : List Fact} {cs : List Int} {A B D E : Option Addr} {c d dc ec : Nat} (h : MP w0 w b1 b2 b3 x y l cs A B D E c d dc ec) (hb : Below w.heap.size w w1) : MP w0 w1 b1 b2 b3 x y l cs A B D E c d dc ec :=
  ⟨(hb.block _ (lt_of_block h.f)).trans h.f, (hb.block _ (lt_of_block h.g)).trans h.g, (hb.block _ (lt_of_block h.dom)).trans h.dom, Kd.C_below h.fC hb, Kd.C_below h.gC hb, Kd.C_below h.dC hb, Kd.C_below h.eC hb, h.fl, h.gl, h.dl, h.el, h.old.trans (hb.mono h.old.size)⟩
theorem MP.start {w : World} {x y : Fm} {l : List Fact} {cs : List Int} {A B D E : Option Addr} {c d dc ec : Nat} (hA : Kd.C kFm w A x.f4.length x.f4) (hc : x.f4.length ≤ c) (hB : Kd.C kFm w B y.f4.length y.f4) (hd : y.f4.length ≤ d)
    (hD : Kd.C kFact w D l.length l) (hdc : l.length ≤ dc) (hE : Kd.C (Kd.int .i64) w E cs.length cs) (hec : cs.length ≤ ec) :
    MP w (((w.alloc (.cells (fmC x A c) 24)).alloc (.cells (fmC y B d) 24)).alloc (.cells #[.slice D l.length dc] 27)) w.heap.size (w.heap.size + 1) (w.heap.size + 1 + 1) x y l cs A B D E c d dc ec := by
  have hb := below_alloc (below_alloc (below_alloc (Below.refl w.heap.size w) (.cells (fmC x A c) 24)) (.cells (fmC y B d) 24)) (.cells #[.slice D l.length dc] 27)
  exact ⟨by (repeat (first | (refine blk_new _ _ ?_; first | rfl | (simp; done)) | refine blk_alloc_old ?_ _ | refine blk_drew_old ?_ | refine blk_drewN_old ?_ _ | assumption)), by (repeat (first | (refine blk_new _ _ ?_; first | rfl | (simp; done)) | refine blk_alloc_old ?_ _ | refine blk_drew_old ?_ | refine blk_drewN_old ?_ _ | assumption)), by (repeat (first | (refine blk_new _ _ ?_; first | rfl | (simp; done)) | refine blk_alloc_old ?_ _ | refine blk_drew_old ?_ | refine blk_drewN_old ?_ _ | assumption)), Kd.C_below hA hb, Kd.C_below hB hb, Kd.C_below hD hb, Kd.C_below hE hb, hc, hd, hdc, hec, hb⟩
theorem mp_cells {w0 w : World} {b1 b2 b3 : Nat} {x y : Fm} {l : List Fact} {cs : List Int} {A B D E : Option Addr} {c d dc ec : Nat} (h : MP w0 w b1 b2 b3 x y l cs A B D E c d dc ec) :
    w.cell? ⟨b1, 0, none⟩ = some (.int .i64 x.f0) ∧ w.cell? ⟨b1, 1, none⟩ = some (.string x.f1) ∧ w.cell? ⟨b1, 2, none⟩ = some (.int .i64 x.f2) ∧ w.cell? ⟨b1, 3, none⟩ = some (.int .i64 x.f3) ∧ w.cell? ⟨b1, 4, none⟩ = some (.slice A x.f4.length c) ∧ w.cell? ⟨b2, 0, none⟩ = some (.int .i64 y.f0) ∧ w.cell? ⟨b2, 1, none⟩ = some (.string y.f1) ∧ w.cell? ⟨b2, 2, none⟩ = some (.int .i64 y.f2) ∧ w.cell? ⟨b2, 3, none⟩ = some (.int .i64 y.f3) ∧ w.cell? ⟨b2, 4, none⟩ = some (.slice B y.f4.length d) ∧ w.cell? ⟨b3, 0, none⟩ = some (.slice D l.length dc) ∧ MP w0 w b1 b2 b3 x y l cs A B D E c d dc ec :=
  ⟨blk_cell h.f 0, blk_cell h.f 1, blk_cell h.f 2, blk_cell h.f 3, blk_cell h.f 4, blk_cell h.g 0, blk_cell h.g 1, blk_cell h.g 2, blk_cell h.g 3, blk_cell h.g 4, blk_cell h.dom 0, h⟩
theorem mp_of {w0 w : World} {b1 b2 b3 : Nat} {x y : Fm} {l : List Fact} {cs : List Int} {A B D E : Option Addr} {c d dc ec : Nat} {p0 p1 p2 p3 p4 p5 p6 p7 p8 p9 p10 : Prop} (h : p0 ∧ p1 ∧ p2 ∧ p3 ∧ p4 ∧ p5 ∧ p6 ∧ p7 ∧ p8 ∧ p9 ∧ p10 ∧ MP w0 w b1 b2 b3 x y l cs A B D E c d dc ec) : MP w0 w b1 b2 b3 x y l cs A B D E c d dc ec := h.2.2.2.2.2.2.2.2.2.2.2
section
variable {w0 w : World} {b1 b2 b3 : Nat} {x y : Fm} {l : List Fact} {cs : List Int} {A B D E : Option Addr} {c d dc ec : Nat} (h : MP w0 w b1 b2 b3 x y l cs A B D E c d dc ec)
include h
theorem m_check {r : Int} (hs : size x ≤ 300) (hr : checkF x l = r) : Calls Tryz.prog 18 #[.agg #[.int .i64 x.f0, .string x.f1, .int .i64 x.f2, .int .i64 x.f3, .slice A x.f4.length c], .agg #[.slice D l.length dc]] w fun e w' => e = .returned (.int .i64 r) ∧ Below w.heap.size w w' := by
  have := check_calls x A c l D dc w h.fC h.fl h.dC (by omega)
  rw [hr] at this
  exact this
theorem m_rcheck {r : Int} {k : Nat} (hr : PLawFormulaMatchesReference.customhouseref25_Check.f k x.f0 x.f1 x.f2 x.f3 x.f4 l = some r) : Calls Tryz.prog 19 #[.agg #[.int .i64 x.f0, .string x.f1, .int .i64 x.f2, .int .i64 x.f3, .slice A x.f4.length c], .agg #[.slice D l.length dc]] w fun e w' => e = .returned (.int .i64 r) ∧ Below w.heap.size w w' :=
  PLawFormulaMatchesReference.customhouseref25_Check.calls k x.f0 x.f1 x.f2 x.f3 A c x.f4 D dc l r w h.fC h.fl h.dC h.dl hr
theorem m_holds {r : Bool} (hs : size x ≤ 300) (hok : okDom l = true) (hr : holdsF x l cs = r) : Calls Tryz.prog 20 #[.agg #[.int .i64 x.f0, .string x.f1, .int .i64 x.f2, .int .i64 x.f3, .slice A x.f4.length c], .agg #[.slice D l.length dc], .slice E cs.length ec] w fun e w' => e = .returned (.bool r) ∧ Below w.heap.size w w' := by
  have := holds_calls x A c l D dc cs E ec w h.fC h.fl h.dC h.dl h.eC h.el (by omega) (okDom_len hok) (okDom_at hok)
  rw [hr] at this
  exact this
theorem m_rholds {r : Bool} {k : Nat} (hr : PLawFormulaMatchesReference.customhouseref25_Holds.f k x.f0 x.f1 x.f2 x.f3 x.f4 l cs = some r) : Calls Tryz.prog 21 #[.agg #[.int .i64 x.f0, .string x.f1, .int .i64 x.f2, .int .i64 x.f3, .slice A x.f4.length c], .agg #[.slice D l.length dc], .slice E cs.length ec] w fun e w' => e = .returned (.bool r) ∧ Below w.heap.size w w' :=
  PLawFormulaMatchesReference.customhouseref25_Holds.calls k x.f0 x.f1 x.f2 x.f3 A c x.f4 D dc l E ec cs r w h.fC h.fl h.dC h.dl h.eC h.el hr
theorem m_same {r : Bool} (hr : sameB x y = r) : Calls Tryz.prog 22 #[.agg #[.int .i64 x.f0, .string x.f1, .int .i64 x.f2, .int .i64 x.f3, .slice A x.f4.length c], .agg #[.int .i64 y.f0, .string y.f1, .int .i64 y.f2, .int .i64 y.f3, .slice B y.f4.length d]] w fun e w' => e = .returned (.bool r) ∧ Below w.heap.size w w' := by
  have := same_calls x y A B c d w h.fC h.gC h.fl h.gl
  rw [hr] at this
  exact this
theorem m_rsame {r : Bool} {k : Nat} (hr : PLawFormulaMatchesReference.customhouseref25_Same.f k x.f0 x.f1 x.f2 x.f3 x.f4 y.f0 y.f1 y.f2 y.f3 y.f4 = some r) : Calls Tryz.prog 23 #[.agg #[.int .i64 x.f0, .string x.f1, .int .i64 x.f2, .int .i64 x.f3, .slice A x.f4.length c], .agg #[.int .i64 y.f0, .string y.f1, .int .i64 y.f2, .int .i64 y.f3, .slice B y.f4.length d]] w fun e w' => e = .returned (.bool r) ∧ Below w.heap.size w w' :=
  PLawFormulaMatchesReference.customhouseref25_Same.calls k x.f0 x.f1 x.f2 x.f3 A c x.f4 y.f0 y.f1 y.f2 y.f3 B d y.f4 r w h.fC h.fl h.gC h.gl hr
end
set_option maxHeartbeats 8000000 in
set_option maxRecDepth 100000 in
theorem match_walk (k : Nat) (x y : Fm) (l : List Fact) (cs : List Int) (A B D E : Option Addr) (c d dc ec : Nat) (w : World) (s1 s2 s3 s4 s5 : Bool)
    (hA : Kd.C kFm w A x.f4.length x.f4) (hc : x.f4.length ≤ c) (hB : Kd.C kFm w B y.f4.length y.f4) (hd : y.f4.length ≤ d) (hD : Kd.C kFact w D l.length l) (hdc : l.length ≤ dc) (hE : Kd.C (Kd.int .i64) w E cs.length cs) (hec : cs.length ≤ ec)
    (h1 : PLawFormulaMatchesReference.customhouseref25_Small.f k x.f0 x.f1 x.f2 x.f3 x.f4 300 = some s1) (h2 : PLawFormulaMatchesReference.customhouseref25_Small.f k y.f0 y.f1 y.f2 y.f3 y.f4 300 = some s2) (h3 : PLawFormulaMatchesReference.customhouselaw25_few.f k l cs = some s3) (h4 : PLawFormulaMatchesReference.customhouselaw25_short.f k x.f0 x.f1 x.f2 x.f3 x.f4 = some s4) (h5 : PLawFormulaMatchesReference.customhouselaw25_short.f k y.f0 y.f1 y.f2 y.f3 y.f4 = some s5)
    (g : s1 = true → s3 = true → size x ≤ 300 ∧ okDom l = true ∧ PLawFormulaMatchesReference.customhouseref25_Size.f k x.f0 x.f1 x.f2 x.f3 x.f4 = some (((size x : Nat) : Int), ((depth x : Nat) : Int)) ∧ PLawFormulaMatchesReference.customhouseref25_Check.f k x.f0 x.f1 x.f2 x.f3 x.f4 l = some (checkF x l) ∧ PLawFormulaMatchesReference.customhouseref25_Holds.f k x.f0 x.f1 x.f2 x.f3 x.f4 l cs = some (holdsF x l cs) ∧ PLawFormulaMatchesReference.customhouseref25_Same.f k x.f0 x.f1 x.f2 x.f3 x.f4 y.f0 y.f1 y.f2 y.f3 y.f4 = some (sameB x y)) :
    Calls Tryz.prog 3 #[.agg (fmC x A c), .agg (fmC y B d), .agg #[.slice D l.length dc], .slice E cs.length ec] w fun e w' => e = .returned (.bool true) ∧ Below w.heap.size w w' := by
  have HP := Aside0.mk (MP.start hA hc hB hd hD hdc hE hec)
  have H1 := Aside0.mk h1
  have H2 := Aside0.mk h2
  have H3 := Aside0.mk h3
  have H4 := Aside0.mk h4
  have H5 := Aside0.mk h5
  clear hA hB hD hE h1 h2 h3 h4 h5
  go_enter Tryz.func3, Tryz.ntmps3
  go_wp2_with fail
  refine (head_calls _).mono ?_
  rintro e w1 ⟨rfl, hb⟩
  replace HP := Aside0.mk (HP.out.below hb)
  clear hb
  have c0 := blk_cell HP.out.f 0
  have c1 := blk_cell HP.out.f 1
  have c2 := blk_cell HP.out.f 2
  have c3 := blk_cell HP.out.f 3
  have c4 := blk_cell HP.out.f 4
  go_wp2_with fail
  refine (PLawFormulaMatchesReference.customhouseref25_Small.calls k x.f0 x.f1 x.f2 x.f3 A c x.f4 300 s1 _ HP.out.fC HP.out.fl H1.out).mono ?_
  rintro e w2 ⟨rfl, hb⟩
  replace HP := Aside0.mk (HP.out.below hb)
  clear hb c0 c1 c2 c3 c4
  cases s1
  · go_wp2
    go_ret
    exact ⟨rfl, HP.out.old⟩
  have d0 := blk_cell HP.out.g 0
  have d1 := blk_cell HP.out.g 1
  have d2 := blk_cell HP.out.g 2
  have d3 := blk_cell HP.out.g 3
  have d4 := blk_cell HP.out.g 4
  go_wp2_with fail
  refine (PLawFormulaMatchesReference.customhouseref25_Small.calls k y.f0 y.f1 y.f2 y.f3 B d y.f4 300 s2 _ HP.out.gC HP.out.gl H2.out).mono ?_
  rintro e w2 ⟨rfl, hb⟩
  replace HP := Aside0.mk (HP.out.below hb)
  clear hb d0 d1 d2 d3 d4
  cases s2
  · go_wp2
    go_ret
    exact ⟨rfl, HP.out.old⟩
  have e0 := blk_cell HP.out.dom 0
  go_wp2_with fail
  refine (PLawFormulaMatchesReference.customhouselaw25_few.calls k D dc l E ec cs s3 _ HP.out.dC HP.out.dl HP.out.eC HP.out.el H3.out).mono ?_
  rintro e w2 ⟨rfl, hb⟩
  replace HP := Aside0.mk (HP.out.below hb)
  clear hb e0
  cases s3
  · go_wp2
    go_ret
    exact ⟨rfl, HP.out.old⟩
  have c0 := blk_cell HP.out.f 0
  have c1 := blk_cell HP.out.f 1
  have c2 := blk_cell HP.out.f 2
  have c3 := blk_cell HP.out.f 3
  have c4 := blk_cell HP.out.f 4
  go_wp2_with fail
  refine (PLawFormulaMatchesReference.customhouselaw25_short.calls k x.f0 x.f1 x.f2 x.f3 A c x.f4 s4 _ HP.out.fC HP.out.fl H4.out).mono ?_
  rintro e w2 ⟨rfl, hb⟩
  replace HP := Aside0.mk (HP.out.below hb)
  clear hb c0 c1 c2 c3 c4
  cases s4
  · go_wp2
    go_ret
    exact ⟨rfl, HP.out.old⟩
  have d0 := blk_cell HP.out.g 0
  have d1 := blk_cell HP.out.g 1
  have d2 := blk_cell HP.out.g 2
  have d3 := blk_cell HP.out.g 3
  have d4 := blk_cell HP.out.g 4
  go_wp2_with fail
  refine (PLawFormulaMatchesReference.customhouselaw25_short.calls k y.f0 y.f1 y.f2 y.f3 B d y.f4 s5 _ HP.out.gC HP.out.gl H5.out).mono ?_
  rintro e w2 ⟨rfl, hb⟩
  replace HP := Aside0.mk (HP.out.below hb)
  clear hb d0 d1 d2 d3 d4
  cases s5
  · go_wp2
    go_ret
    exact ⟨rfl, HP.out.old⟩
  obtain ⟨sz, ok, j1, j2, j3, j4⟩ := g (by trivial) (by trivial)
  clear g H1 H2 H3 H4 H5
  have OK := Aside0.mk ok
  have J1 := Aside0.mk j1
  obtain ⟨r1, hr1⟩ : ∃ r, checkF x l = r := ⟨_, rfl⟩
  obtain ⟨r2, hr2⟩ : ∃ r, holdsF x l cs = r := ⟨_, rfl⟩
  obtain ⟨r3, hr3⟩ : ∃ r, sameB x y = r := ⟨_, rfl⟩
  rw [hr1] at j2
  rw [hr2] at j3
  rw [hr3] at j4
  have J2 := Aside0.mk j2
  have J3 := Aside0.mk j3
  have J4 := Aside0.mk j4
  have Q1 := Aside0.mk hr1
  have Q2 := Aside0.mk hr2
  have Q3 := Aside0.mk hr3
  clear ok j1 j2 j3 j4 hr1 hr2 hr3
  have c0 := blk_cell HP.out.f 0
  have c1 := blk_cell HP.out.f 1
  have c2 := blk_cell HP.out.f 2
  have c3 := blk_cell HP.out.f 3
  have c4 := blk_cell HP.out.f 4
  go_wp2_with fail
  refine (Size_calls x A c _ HP.out.fC HP.out.fl (by omega)).mono ?_
  rintro e w2 ⟨rfl, hb⟩
  replace HP := Aside0.mk (HP.out.below hb)
  clear hb c0 c1 c2 c3 c4
  have c0 := blk_cell HP.out.f 0
  have c1 := blk_cell HP.out.f 1
  have c2 := blk_cell HP.out.f 2
  have c3 := blk_cell HP.out.f 3
  have c4 := blk_cell HP.out.f 4
  go_wp2_with fail
  refine (PLawFormulaMatchesReference.customhouseref25_Size.calls k x.f0 x.f1 x.f2 x.f3 A c x.f4 _ _ _ HP.out.fC HP.out.fl J1.out).mono ?_
  rintro e w2 ⟨rfl, hb⟩
  replace HP := Aside0.mk (HP.out.below hb)
  clear hb c0 c1 c2 c3 c4
  go_wp2_with fail
  obtain ⟨n1, hn1⟩ : ∃ n : Int, ((size x : Nat) : Int) = n := ⟨_, rfl⟩
  obtain ⟨n2, hn2⟩ : ∃ n : Int, ((depth x : Nat) : Int) = n := ⟨_, rfl⟩
  simp only [hn1, hn2]
  clear hn1 hn2
  obtain ⟨b1, hb1⟩ : ∃ k, w.heap.size = k := ⟨_, rfl⟩
  obtain ⟨b2, hb2⟩ : ∃ k, b1 + 1 = k := ⟨_, rfl⟩
  obtain ⟨b3, hb3⟩ : ∃ k, b2 + 1 = k := ⟨_, rfl⟩
  rw [hb1, hb2, hb3] at HP
  simp only [hb1, hb2, hb3]
  clear hb2 hb3
  have hS := mp_cells (HP.out.below (below_drew (Below.refl _ _)))
  first
  | (
        go_region_held3 (fun w' => w'.cell? ⟨b1, 0, none⟩ = some (.int .i64 x.f0) ∧ w'.cell? ⟨b1, 1, none⟩ = some (.string x.f1) ∧ w'.cell? ⟨b1, 2, none⟩ = some (.int .i64 x.f2) ∧ w'.cell? ⟨b1, 3, none⟩ = some (.int .i64 x.f3) ∧ w'.cell? ⟨b1, 4, none⟩ = some (.slice A x.f4.length c) ∧ w'.cell? ⟨b2, 0, none⟩ = some (.int .i64 y.f0) ∧ w'.cell? ⟨b2, 1, none⟩ = some (.string y.f1) ∧ w'.cell? ⟨b2, 2, none⟩ = some (.int .i64 y.f2) ∧ w'.cell? ⟨b2, 3, none⟩ = some (.int .i64 y.f3) ∧ w'.cell? ⟨b2, 4, none⟩ = some (.slice B y.f4.length d) ∧ w'.cell? ⟨b3, 0, none⟩ = some (.slice D l.length dc) ∧ MP w w' b1 b2 b3 x y l cs A B D E c d dc ec)
          (first | (with_reducible exact hS) | (with_reducible assumption) | (with_reducible exact mp_cells (MP.below (mp_of (by assumption)) hb)))
          (first
            | (go_at_call 18; with_reducible refine Calls.mono (m_check (mp_of (by assumption)) sz Q1.out) ?_; rintro e w' ⟨rfl, hb⟩)
            | (go_at_call 19; with_reducible refine Calls.mono (m_rcheck (mp_of (by assumption)) J2.out) ?_; rintro e w' ⟨rfl, hb⟩)
            | (go_at_call 20; with_reducible refine Calls.mono (m_holds (mp_of (by assumption)) sz OK.out Q2.out) ?_; rintro e w' ⟨rfl, hb⟩)
            | (go_at_call 21; with_reducible refine Calls.mono (m_rholds (mp_of (by assumption)) J3.out) ?_; rintro e w' ⟨rfl, hb⟩)
            | (go_at_call 22; with_reducible refine Calls.mono (m_same (mp_of (by assumption)) Q3.out) ?_; rintro e w' ⟨rfl, hb⟩)
            | (go_at_call 23; with_reducible refine Calls.mono (m_rsame (mp_of (by assumption)) J4.out) ?_; rintro e w' ⟨rfl, hb⟩)))
  rename_i hH
  replace HP := Aside0.mk (mp_of hH)
  clear hH hS
  go_wp2
  go_ret
  exact ⟨rfl, HP.out.old⟩
theorem match_card {w : World} (x : Fm) (hx : Held x) (A : Option Addr) (c : Nat) (hA : Kd.C kFm w A x.f4.length x.f4) (hc : x.f4.length ≤ c) (y : Fm) (hy : Held y) (B : Option Addr) (d : Nat) (hB : Kd.C kFm w B y.f4.length y.f4) (hd : y.f4.length ≤ d) (l : List Fact) (hl : l.length ≤ 9223372036854775807) (hh : ∀ y ∈ l, HeldFact y) (D : Option Addr) (dc : Nat) (hD : Kd.C kFact w D l.length l) (hdc : l.length ≤ dc)
    (cs : List Int) (_ : cs.length ≤ 9223372036854775807) (_ : ∀ y ∈ cs, (Lit.int .i64 y).wf = true) (E : Option Addr) (ec : Nat) (hE : Kd.C (Kd.int .i64) w E cs.length cs) (hec : cs.length ≤ ec) (_ : World) :
    Calls Tryz.prog 3 #[.agg (fmC x A c), .agg (fmC y B d), .agg #[.slice D l.length dc], .slice E cs.length ec] w fun e w' => e = .returned (.bool true) ∧ Below w.heap.size w w' := by
  obtain ⟨k1, h1⟩ := PLawFormulaMatchesReference.small_tells x hx.low 300 (by decide) (by decide)
  obtain ⟨k2, h2⟩ := PLawFormulaMatchesReference.small_tells y hy.low 300 (by decide) (by decide)
  obtain ⟨k3, h3⟩ := PLawFormulaMatchesReference.few_tells l cs hl
  obtain ⟨k4, s4, h4⟩ := PLawFormulaMatchesReference.short_all hx.low
  obtain ⟨k5, s5, h5⟩ := PLawFormulaMatchesReference.short_all hy.low
  by_cases hs : size x ≤ 100000000
  · obtain ⟨k6, h6⟩ := PLawFormulaMatchesReference.rsize_tells hx hs
    obtain ⟨k7, h7⟩ := PLawFormulaMatchesReference.check_tells l hl hx hs
    obtain ⟨k8, h8⟩ := PLawFormulaMatchesReference.holds_tells l cs hl hh hx hs
    obtain ⟨k9, h9⟩ := PLawFormulaMatchesReference.same_tells hx y
    obtain ⟨k, hk⟩ : ∃ k, k = k1 + k2 + k3 + k4 + k5 + k6 + k7 + k8 + k9 := ⟨_, rfl⟩
    refine match_walk k x y l cs A B D E c d dc ec w _ _ _ s4 s5 hA hc hB hd hD hdc hE hec (h1 k (by omega)) (h2 k (by omega)) (h3 k (by omega)) (h4 k (by omega)) (h5 k (by omega)) (fun a1 a3 => ?_)
    exact ⟨by simp only [decide_eq_true_eq] at a1; omega, PLawFormulaMatchesReference.few_ok a3, h6 k (by omega), h7 k (by omega), h8 k (by omega), h9 k (by omega)⟩
  · obtain ⟨k, hk⟩ : ∃ k, k = k1 + k2 + k3 + k4 + k5 := ⟨_, rfl⟩
    refine match_walk k x y l cs A B D E c d dc ec w _ _ _ s4 s5 hA hc hB hd hD hdc hE hec (h1 k (by omega)) (h2 k (by omega)) (h3 k (by omega)) (h4 k (by omega)) (h5 k (by omega)) (fun a1 a3 => ?_)
    simp only [decide_eq_true_eq] at a1
    omega
end Go.Proofs.YtkgmempifggajaaGreatDoor.PLawMatch
