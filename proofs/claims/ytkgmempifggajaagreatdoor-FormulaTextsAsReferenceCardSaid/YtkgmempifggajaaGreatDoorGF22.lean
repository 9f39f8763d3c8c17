/- What the statement's proof builds on: PureTx. -/
import Derived.Test.YtkgmempifggajaaGreatDoorGF19
import Derived.Test.YtkgmempifggajaaGreatDoorGF13
import Derived.Test.YtkgmempifggajaaGreatDoorGF15
import Derived.ArgAppend
import Derived.Below
import Derived.BigQuiet
import Derived.Carry
import Derived.Deep.AppendLies
import Derived.Deep.CutBlock
import Derived.Deep.DeepCutAuto
import Derived.Deep.Draws
import Derived.Deep.LoopGhost
import Derived.Deep.OwnRows
import Derived.Deep.QuietTactic
import Derived.Deep.RegionHeld3
import Derived.Great.BuildSlice
import Derived.KernelRfl
import Derived.Laws.BitsLemmas
import Derived.Laws.BytesArg
import Derived.Laws.EntriesVeiled
import Derived.Laws.IdiomCopy
import Derived.Laws.MakeOwn
import Derived.Laws.OwnMore
import Derived.Laws.Rows
import Derived.Laws.Runes
import Derived.Laws.Slices
import Derived.Lib.AppendStr
import Derived.Lib.ConvBytes
import Derived.Lib.SmallJoins
import Derived.Maps.AppendAt
import Derived.Maps.OwnSet
import Derived.OneCell
import Derived.OrdersHeld
import Derived.OwnWalk
import Derived.RowKit
import Derived.RowKit3
import Derived.Scope
import Derived.Shelf.LaysC
import Derived.Shelf.LaysM
import Derived.Shelf.Slices.Turned
import Derived.Shelf.Small.Strs
import Derived.Shelf.Small.Utf8
import Derived.Shelf.Strconv.Atoi
import Derived.Shelf.Strconv.AtoiAll
import Derived.Shelf.Strconv.AtoiErr
import Derived.Shelf.Strconv.AtoiErrFast
import Derived.Shelf.Strconv.AtoiFail
import Derived.Shelf.Strconv.AtoiInnerAll
import Derived.Shelf.Strconv.AtoiLong
import Derived.Shelf.Strconv.Clone
import Derived.Shelf.Strconv.ErrVar
import Derived.Shelf.Strconv.ErrVarAll
import Derived.Shelf.Strconv.Itoa0
import Derived.Shelf.Strconv.Itoa1
import Derived.Shelf.Strconv.Itoa2
import Derived.Shelf.Strconv.Itoa3
import Derived.Shelf.Strconv.Lower
import Derived.Shelf.Strconv.ParseInt10
import Derived.Shelf.Strconv.ParseIntEmpty
import Derived.Shelf.Strconv.ParseUint10
import Derived.Shelf.Strconv.ParseUint10Any
import Derived.Shelf.Strconv.ParseUint10Empty
import Derived.Shelf.Strconv.RangeError
import Derived.Shelf.Strconv.SyntaxError
import Derived.Shelf.Strconv.ToError
import Derived.Shelf.Strconv.ToErrorRange
import Derived.Shelf.Strings.AsciiSet
import Derived.Shelf.Strings.Builder1
import Derived.Shelf.Strings.Builder2
import Derived.Shelf.Strings.BuilderF
import Derived.Shelf.Strings.BuilderK
import Derived.Shelf.Strings.IndexAny
import Derived.Shelf.Strings.IndexAnyAll
import Derived.Shelf.Strings.OnBuilder
import Derived.Shelf.Strings.Prefix
import Derived.Shelf.Strings.Runes
import Derived.Shelf.Strings.Search1
import Derived.StringKeys
import Derived.Tactics
import Derived.Test.YtkgmempifggajaaGreatDoorProg
import Derived.WalkKit
import Derived.WalkLawsBesides
import Derived.WalkSpells
import Derived.WideLaws
import Derived.Test.YtkgmempifggajaaGreatDoorGF12
import Derived.Test.YtkgmempifggajaaGreatDoorGF20
import Derived.Test.YtkgmempifggajaaGreatDoorGF16
import Derived.Test.YtkgmempifggajaaGreatDoorGF21
/- The reference's formed, Size, Large, Same compute what the program's do. (Printed by wip/tools/gen_pref.py.) -/
namespace Go.Proofs.YtkgmempifggajaaGreatDoor.PLawFormulaTextsAsReference
open Go.RowKit Go.Proofs.YtkgmempifggajaaGreatDoorW.PrintWords Go.Proofs.YtkgmempifggajaaGreatDoorW.PrintLast Go.Proofs.YtkgmempifggajaaGreatDoorW.PrintMore
open Go.Proofs.YtkgmempifggajaaGreatDoor.P
set_option linter.unusedVariables false
set_option linter.unusedSimpArgs false
theorem letter_f (c : UInt8) : customhouseref07_letter.f (c.toNat : Int) = some (isLetter c) := by
 have := u8_all (fun c => customhouseref07_letter.f (c.toNat : Int) == some (isLetter c)) (by decide +kernel) c
 simpa using this
theorem word_f (c : UInt8) : customhouseref07_word.f (c.toNat : Int) = some (isWord c) := by
 have := u8_all (fun c => customhouseref07_word.f (c.toNat : Int) == some (isWord c)) (by decide +kernel) c
 simpa using this
theorem bt_get (s : ByteArray) (i : Nat) (c : UInt8) (r : List UInt8) (h : s.data.toList.drop i = c :: r) : bt s (i : Int) = (c.toNat : Int) ∧ i < s.size ∧ s.data.toList.drop (i + 1) = r := by
 have hlt : i < s.data.toList.length := by
  rcases Nat.lt_or_ge i s.data.toList.length with h2 | h2
  ·exact h2
  ·rw [List.drop_eq_nil_of_le h2] at h; cases h
 have hs : i < s.size := by rw [Array.length_toList] at hlt; exact hlt
 rw [List.drop_eq_getElem_cons hlt] at h
 injection h with h1 h2
 refine ⟨?_, hs, h2⟩
 have hb := bt_at s (i : Int) (by simpa using hs)
 rw [← hb, ← h1]
 simp only [Int.toNat_natCast]
 congr 1
def nameEnd (l : List UInt8) : Bool := match l with | [] => false | c :: r => decide (r.length ≤ 23) && isLetter c
theorem name_loop (s : ByteArray) (hs : s.size ≤ 9223372036854775807) : ∀ (l : List UInt8) (i : Nat), s.data.toList.drop i = l → i ≤ s.size → Tells (fun k => customhouseref07_Name.l0 k s i) (l.all isWord && nameEnd s.data.toList) := by
 have hsz : s.data.toList.length = s.size := by rw [Array.length_toList]; rfl
 intro l
 induction l with
 | nil =>
  intro i h hi
  have hle : s.size ≤ i := by
   have := congrArg List.length h
   rw [List.length_drop, hsz] at this
   simp at this
   omega
  refine Tells.step (fun k => ?_) Tells.same
  simp only [customhouseref07_Name.l0]
  rw [if_neg (by omega)]
  cases hq : s.data.toList with
  | nil =>
   rw [hq] at hsz
   simp at hsz
   rw [if_neg (by omega)]
   rfl
  | cons c r =>
   rw [hq] at hsz
   simp at hsz
   rw [if_pos (by omega)]
   by_cases h24 : (s.size : Int) ≤ 24
   ·obtain ⟨hb, _, _⟩ := bt_get s 0 c r hq
    have hb' : bt s 0 = (c.toNat : Int) := hb
    rw [if_pos h24, if_pos (by omega), hb', letter_f]
    have : decide (r.length ≤ 23) = true := by simp; omega
    simp [nameEnd, this]
   ·have : decide (r.length ≤ 23) = false := by simp; omega
    rw [if_neg h24]
    simp [nameEnd, this]
 | cons c r ih =>
  intro i h hi
  obtain ⟨hb, hlt, hd⟩ := bt_get s i c r h
  have w1 : wrap64 ((i : Int) + 1) = ((i + 1 : Nat) : Int) := by unfold wrap64; omega
  cases hw : isWord c
  ·refine Tells.step (h := fun _ => some false) (fun k => ?_) (by simp [hw]; exact Tells.same)
   simp only [customhouseref07_Name.l0]
   rw [if_pos (by omega), if_pos (by omega), hb, word_f, hw]
   rfl
  ·rw [List.all_cons, hw, Bool.true_and]
   refine Tells.step (fun k => ?_) (ih (i + 1) hd (by omega))
   simp only [customhouseref07_Name.l0]
   rw [if_pos (by omega), if_pos (by omega), hb, word_f, hw, w1]
   rfl
theorem letter_word (c : UInt8) (h : isLetter c = true) : isWord c = true := by unfold isWord; rw [h]; rfl
theorem name_tells (s : ByteArray) (hs : s.size ≤ 9223372036854775807) : Tells (fun k => customhouseref07_Name.f k s) (isName s.data.toList) := by
 have g := name_loop s hs s.data.toList 0 rfl (Nat.zero_le _)
 have e : (s.data.toList.all isWord && nameEnd s.data.toList) = isName s.data.toList := by
  cases s.data.toList with
  | nil => rfl
  | cons c r =>
   simp only [List.all_cons, nameEnd, isName]
   cases hl : isLetter c
   ·simp
   ·rw [letter_word c hl]
    cases r.all isWord <;> cases decide (r.length ≤ 23) <;> rfl
 rw [e] at g
 exact g
theorem key_f (s : ByteArray) : customhouseref25_Key.f s = some (isKey s) := by
 have e : isKey s = ((s.toList == [111, 114]) || ((s.toList == [97, 110, 100]) || ((s.toList == [110, 111, 116]) || ((s.toList == [116, 114, 117, 101]) || (s.toList == [102, 97, 108, 115, 101]))))) := by
  unfold isKey keyWords
  simp only [List.any_cons, List.any_nil, Bool.or_false]
  simp only [ByteArray.toList_eq]
 rw [e]
 unfold customhouseref25_Key.f
 generalize s.toList = q
 by_cases h1 : q = [111, 114]
 ·subst h1; rfl
 by_cases h2 : q = [97, 110, 100]
 ·subst h2; rfl
 by_cases h3 : q = [110, 111, 116]
 ·subst h3; rfl
 by_cases h4 : q = [116, 114, 117, 101]
 ·subst h4; rfl
 rw [if_neg h1, if_neg h2, if_neg h3, if_neg h4, beq_eq_false_iff_ne.2 h1, beq_eq_false_iff_ne.2 h2, beq_eq_false_iff_ne.2 h3, beq_eq_false_iff_ne.2 h4]
 rfl
theorem size_nil (s : ByteArray) : (s.size == 0) = decide (s.toList = []) := by
 rw [toList_data]
 have hsz : s.data.toList.length = s.size := by rw [Array.length_toList]; rfl
 cases hq : s.data.toList with
 | nil => rw [hq] at hsz; simp at hsz; simp [← hsz]
 | cons c r => rw [hq] at hsz; simp at hsz; rw [← hsz]; simp
theorem formed_tells (x : S24) (hs : x.f1.size ≤ 9223372036854775807) : Tells (fun k => customhouseref25_formed.f k x.f0 x.f1 x.f2 x.f3 x.f4) (formedB x) := by
 have j1 : ∀ (b c : Bool), (c = true ↔ x.f0 = 1 ∨ x.f0 = 2) → (b = (x.f1.size == 0 && x.f2 == 0 && x.f3 == 0)) → Tells (fun k => customhouseref25_formed.j1 k b x.f0 c x.f0 x.f1 x.f2 x.f3 x.f4) (formedB x) := by
  intro b c hc hb
  have hlen : ∀ n : Nat, ((x.f4.length : Int) == (n : Int)) = (x.f4.length == n) := fun n => by rw [Bool.eq_iff_iff]; simp only [beq_iff_eq]; omega
  by_cases h12 : x.f0 = 1 ∨ x.f0 = 2
  ·have hc1 : c = true := hc.2 h12
   have h3 : x.f0 ≠ 3 := by omega
   have e : formedB x = (b && (x.f4.length == 0)) := by unfold formedB; rw [if_neg h3, if_pos h12, ← hb]
   rw [e]
   refine Tells.step (h := fun _ => some (b && (x.f4.length == 0))) (fun k => ?_) Tells.same
   simp only [customhouseref25_formed.j1]
   rw [hc1, if_pos rfl]
   have := hlen 0
   cases b
   ·simp
   ·simp only [if_true, Bool.true_and]; rw [← this]; rfl
  ·have hc1 : c = false := by cases c; rfl; exact absurd (hc.1 rfl) h12
   by_cases h3 : x.f0 = 3
   ·have e : formedB x = (x.f4.length == 0 && decide (1 ≤ x.f2) && decide (x.f2 ≤ 6) && isName x.f1.data.toList && !isKey x.f1) := by unfold formedB; rw [if_pos h3]
    rw [e]
    refine Tells.step (h := fun k => if x.f2 ≥ 1 then (if x.f2 ≤ 6 then (if (x.f4.length : Int) = 0 then ((customhouseref07_Name.f k x.f1).bind fun t => if t = true then (some (!isKey x.f1)) else some false) else some false) else some false) else some false) (fun k => ?_) ?_
    ·simp only [customhouseref25_formed.j1]
     rw [hc1, if_neg (by decide), if_pos h3]
     simp only [key_f, Option.bind_some]
    ·by_cases a1 : x.f2 ≥ 1
     ·by_cases a2 : x.f2 ≤ 6
      ·by_cases a3 : (x.f4.length : Int) = 0
       ·have a3' : (x.f4.length == 0) = true := beq_iff_eq.2 (by omega)
        have a1' : decide (1 ≤ x.f2) = true := decide_eq_true a1
        have a2' : decide (x.f2 ≤ 6) = true := decide_eq_true a2
        rw [a3', a1', a2']
        refine Tells.eq (fun k => by rw [if_pos a1, if_pos a2, if_pos a3]) ?_
        refine Tells.bind (name_tells x.f1 hs) ?_
        cases isName x.f1.data.toList
        ·exact Tells.same
        ·exact Tells.same
       ·have a3' : (x.f4.length == 0) = false := by rw [beq_eq_false_iff_ne]; omega
        rw [a3']
        refine Tells.eq (h := fun _ => some false) (fun k => by rw [if_pos a1, if_pos a2, if_neg a3]) ?_
        simp only [Bool.false_and]
        exact Tells.same
      ·have a2' : decide (x.f2 ≤ 6) = false := decide_eq_false a2
       rw [a2']
       refine Tells.eq (h := fun _ => some false) (fun k => by rw [if_pos a1, if_neg a2]) ?_
       simp only [Bool.and_false, Bool.false_and]
       exact Tells.same
     ·have a1' : decide (1 ≤ x.f2) = false := decide_eq_false a1
      rw [a1']
      refine Tells.eq (h := fun _ => some false) (fun k => by rw [if_neg a1]) ?_
      simp only [Bool.and_false, Bool.false_and]
      exact Tells.same
   ·have e : formedB x = (b && (if x.f0 = 4 then x.f4.length == 1 else (x.f0 == 5 || x.f0 == 6) && decide (2 ≤ x.f4.length))) := by unfold formedB; rw [if_neg h3, if_neg h12, ← hb]
    rw [e]
    refine Tells.step (h := fun _ => some (b && (if x.f0 = 4 then x.f4.length == 1 else (x.f0 == 5 || x.f0 == 6) && decide (2 ≤ x.f4.length)))) (fun k => ?_) Tells.same
    simp only [customhouseref25_formed.j1]
    rw [hc1, if_neg (by decide), if_neg h3]
    have h1 := hlen 1
    have h2 : decide ((x.f4.length : Int) ≥ 2) = decide (2 ≤ x.f4.length) := by rw [decide_eq_decide]; omega
    by_cases h4 : x.f0 = 4
    ·rw [if_pos h4, if_pos h4]
     cases b
     ·simp
     ·simp only [if_true, Bool.true_and]; rw [← h1]; rfl
    ·rw [if_neg h4, if_neg h4]
     by_cases h5 : x.f0 = 5
     ·rw [if_pos h5, h2]
      cases b <;> simp [h5]
     ·rw [if_neg h5]
      by_cases h6 : x.f0 = 6
      ·rw [if_pos h6, h2]
       cases b <;> simp [h6]
      ·rw [if_neg h6]
       cases b <;> simp [h5, h6]
 have j0 : ∀ b : Bool, b = (x.f1.size == 0 && x.f2 == 0 && x.f3 == 0) → Tells (fun k => customhouseref25_formed.j0 k b x.f0 x.f1 x.f2 x.f3 x.f4) (formedB x) := by
  intro b hb
  by_cases h1 : x.f0 = 1
  ·refine Tells.step (fun k => ?_) (j1 b true (by simp [h1]) hb)
   simp only [customhouseref25_formed.j0]
   rw [if_pos h1]
   simp [h1]
  ·refine Tells.step (fun k => ?_) (j1 b (x.f0 == 2) (by simp [h1]) hb)
   simp only [customhouseref25_formed.j0]
   rw [if_neg h1]
 unfold customhouseref25_formed.f
 have hn := size_nil x.f1
 by_cases a1 : x.f1.toList = []
 ·rw [decide_eq_true a1] at hn
  by_cases a2 : x.f2 = 0
  ·have := j0 (x.f3 == 0) (by rw [hn]; simp [a2])
   simpa [a1, a2] using this
  ·have a2' : (x.f2 == 0) = false := beq_eq_false_iff_ne.2 a2
   have := j0 false (by rw [hn, a2']; rfl)
   simpa [a1, a2] using this
 ·rw [decide_eq_false a1] at hn
  have := j0 false (by rw [hn]; rfl)
  simpa [a1] using this
theorem mx_nat (a b : Nat) : mx (a : Int) (b : Int) = ((max a b : Nat) : Int) := by
 unfold mx
 by_cases h : (a : Int) < b
 ·rw [if_pos h]; omega
 ·rw [if_neg h]; omega
theorem rsize_loop (op : Int) (nm : ByteArray) (c n : Int) (ks : List S24) (hk : ks.length ≤ 9223372036854775807) (hs : sizes ks ≤ 100000000)
  (ih : ∀ j (hj : j < ks.length), Tells (fun k => customhouseref25_Size.f k ks[j].f0 ks[j].f1 ks[j].f2 ks[j].f3 ks[j].f4) (((size ks[j] : Nat) : Int), ((depth ks[j] : Nat) : Int))) :
  ∀ d i : Nat, i + d = ks.length → Tells (fun k => customhouseref25_Size.l0 k ((1 + sizes (ks.take i) : Nat) : Int) ((depths (ks.take i) : Nat) : Int) i op nm c n ks) (((1 + sizes ks : Nat) : Int), ((1 + depths ks : Nat) : Int)) := by
 have hd0 := depths_le_sizes ks
 intro d
 induction d with
 | zero =>
  intro i hi
  obtain rfl : i = ks.length := by omega
  rw [List.take_length]
  refine Tells.step (fun k => ?_) Tells.same
  simp only [customhouseref25_Size.l0]
  rw [if_neg (by omega)]
  have : wrap64 (((depths ks : Nat) : Int) + 1) = ((1 + depths ks : Nat) : Int) := by unfold wrap64; omega
  rw [this]
 | succ d ihd =>
  intro i hi
  have hlt : i < ks.length := by omega
  have w1 : wrap64 ((i : Int) + 1) = ((i + 1 : Nat) : Int) := by unfold wrap64; omega
  have g := ihd (i + 1) (by omega)
  have s1 := sizes_snoc ks i hlt
  have s2 := depths_snoc ks i hlt
  have s3 := sizes_take_le ks (i + 1)
  have w2 : wrap64 (((1 + sizes (ks.take i) : Nat) : Int) + ((size ks[i] : Nat) : Int)) = ((1 + sizes (ks.take (i + 1)) : Nat) : Int) := by unfold wrap64; omega
  have w3 : mx ((depths (ks.take i) : Nat) : Int) ((depth ks[i] : Nat) : Int) = ((depths (ks.take (i + 1)) : Nat) : Int) := by rw [mx_nat, s2]
  refine Tells.step (h := fun k => (customhouseref25_Size.f k ks[i].f0 ks[i].f1 ks[i].f2 ks[i].f3 ks[i].f4).bind fun bt => customhouseref25_Size.l0 k (wrap64 (((1 + sizes (ks.take i) : Nat) : Int) + bt.1)) (mx ((depths (ks.take i) : Nat) : Int) bt.2) ((i + 1 : Nat) : Int) op nm c n ks) (fun k => ?_) ?_
  ·simp only [customhouseref25_Size.l0]
   rw [if_pos (by omega), if_pos (by omega), rd_at ks i hlt, w1]
  ·refine Tells.bind (ih i hlt) ?_
   simp only []
   rw [w2, w3]
   exact g
theorem rsize_tells {x : S24} (h : Low x) : size x ≤ 100000000 → Tells (fun k => customhouseref25_Size.f k x.f0 x.f1 x.f2 x.f3 x.f4) (((size x : Nat) : Int), ((depth x : Nat) : Int)) := by
 induction h with
 | mk x hk _ ih =>
  intro hs
  rw [size_eq] at hs
  rw [size_eq x, depth_eq x]
  have g := rsize_loop x.f0 x.f1 x.f2 x.f3 x.f4 hk (by omega) (fun j hj => ih j hj (by have := size_mem x.f4 j hj; omega)) x.f4.length 0 (by omega)
  refine Tells.step (fun k => ?_) g
  simp only [customhouseref25_Size.f]
  rfl
theorem large_tells {x : S24} (h : Low x) (hs : size x ≤ 100000000) : Tells (fun k => customhouseref25_Large.f k x.f0 x.f1 x.f2 x.f3 x.f4) (isLarge x) := by
 unfold customhouseref25_Large.f
 refine Tells.bind (rsize_tells h hs) ?_
 simp only []
 unfold isLarge
 by_cases h1 : 200 < size x
 ·rw [if_pos (by omega), decide_eq_true h1]
  exact Tells.same
 ·rw [if_neg (by omega), decide_eq_false h1, Bool.false_or]
  have : decide (((depth x : Nat) : Int) > 20) = decide (20 < depth x) := by rw [decide_eq_decide]; omega
  rw [this]
  exact Tells.same
theorem same_loop (op : Int) (nm : ByteArray) (c n : Int) (ks : List S24) (op' : Int) (nm' : ByteArray) (c' n' : Int) (ms : List S24) (hk : ks.length ≤ 9223372036854775807) (hl : ks.length = ms.length)
  (ih : ∀ j (hj : j < ks.length) (y : S24), Tells (fun k => customhouseref25_Same.f k ks[j].f0 ks[j].f1 ks[j].f2 ks[j].f3 ks[j].f4 y.f0 y.f1 y.f2 y.f3 y.f4) (sameB ks[j] y)) :
  ∀ d i : Nat, i + d = ks.length → Tells (fun k => customhouseref25_Same.l0 k i op nm c n ks op' nm' c' n' ms) (samesB (ks.drop i) (ms.drop i)) := by
 intro d
 induction d with
 | zero =>
  intro i hi
  refine Tells.step (fun k => ?_) Tells.same
  simp only [customhouseref25_Same.l0]
  rw [if_neg (by omega), List.drop_eq_nil_of_le (by omega)]
  simp [samesB]
 | succ d ihd =>
  intro i hi
  have hlt : i < ks.length := by omega
  have hlt2 : i < ms.length := by omega
  have w1 : wrap64 ((i : Int) + 1) = ((i + 1 : Nat) : Int) := by unfold wrap64; omega
  rw [List.drop_eq_getElem_cons hlt, List.drop_eq_getElem_cons hlt2]
  simp only [samesB]
  refine Tells.step (h := fun k => (customhouseref25_Same.f k ks[i].f0 ks[i].f1 ks[i].f2 ks[i].f3 ks[i].f4 ms[i].f0 ms[i].f1 ms[i].f2 ms[i].f3 ms[i].f4).bind fun t => if t = true then customhouseref25_Same.l0 k ((i + 1 : Nat) : Int) op nm c n ks op' nm' c' n' ms else some false) (fun k => ?_) ?_
  ·simp only [customhouseref25_Same.l0]
   rw [if_pos (by omega), if_pos (by omega), if_pos (by omega), rd_at ks i hlt, rd_at ms i hlt2, w1]
  ·refine Tells.bind (ih i hlt ms[i]) ?_
   cases sameB ks[i] ms[i]
   ·exact Tells.eq (h := fun _ => some false) (fun k => by rw [if_neg (by decide)]) Tells.same
   ·refine Tells.eq (fun k => by rw [if_pos rfl]) ?_
    rw [Bool.true_and]
    exact ihd (i + 1) (by omega)
theorem same_tells {x : S24} (h : Low x) : ∀ y : S24, Tells (fun k => customhouseref25_Same.f k x.f0 x.f1 x.f2 x.f3 x.f4 y.f0 y.f1 y.f2 y.f3 y.f4) (sameB x y) := by
 induction h with
 | mk x hk _ ih =>
  intro y
  rw [sameB_eq]
  have jt : Tells (fun k => customhouseref25_Same.j0 k true x.f0 x.f1 x.f2 x.f3 x.f4 y.f0 y.f1 y.f2 y.f3 y.f4) false := by
   refine Tells.step (h := fun _ => some false) (fun k => ?_) Tells.same
   simp [customhouseref25_Same.j0]
  by_cases a0 : x.f0 = y.f0
  ·by_cases a1 : x.f1.toList = y.f1.toList
   ·by_cases a2 : x.f2 = y.f2
    ·by_cases a3 : x.f3 = y.f3
     ·rw [beq_iff_eq.2 a0, beq_iff_eq.2 a1, beq_iff_eq.2 a2, beq_iff_eq.2 a3]
      simp only [Bool.true_and]
      refine Tells.step (h := fun k => customhouseref25_Same.j0 k ((x.f4.length : Int) != (y.f4.length : Int)) x.f0 x.f1 x.f2 x.f3 x.f4 y.f0 y.f1 y.f2 y.f3 y.f4) (fun k => ?_) ?_
      ·simp only [customhouseref25_Same.f]
       rw [if_pos a0, if_pos a1, if_pos a2, if_pos a3]
      ·by_cases hl : x.f4.length = y.f4.length
       ·have e : ((x.f4.length : Int) != (y.f4.length : Int)) = false := by rw [hl]; simp
        rw [e, beq_iff_eq.2 hl, Bool.true_and]
        have g := same_loop x.f0 x.f1 x.f2 x.f3 x.f4 y.f0 y.f1 y.f2 y.f3 y.f4 hk hl (fun j hj y => ih j hj y) x.f4.length 0 (by omega)
        rw [List.drop_zero, List.drop_zero] at g
        refine Tells.step (fun k => ?_) g
        simp only [customhouseref25_Same.j0]
        rw [if_neg (by decide)]
        rfl
       ·have e : ((x.f4.length : Int) != (y.f4.length : Int)) = true := by simp; omega
        rw [e, beq_eq_false_iff_ne.2 hl, Bool.false_and]
        exact jt
     ·rw [beq_eq_false_iff_ne.2 a3]
      simp only [Bool.and_false, Bool.false_and]
      refine Tells.step (fun k => ?_) jt
      simp only [customhouseref25_Same.f]
      rw [if_pos a0, if_pos a1, if_pos a2, if_neg a3]
    ·rw [beq_eq_false_iff_ne.2 a2]
     simp only [Bool.and_false, Bool.false_and]
     refine Tells.step (fun k => ?_) jt
     simp only [customhouseref25_Same.f]
     rw [if_pos a0, if_pos a1, if_neg a2]
   ·rw [beq_eq_false_iff_ne.2 a1]
    simp only [Bool.and_false, Bool.false_and]
    refine Tells.step (fun k => ?_) jt
    simp only [customhouseref25_Same.f]
    rw [if_pos a0, if_neg a1]
  ·rw [beq_eq_false_iff_ne.2 a0]
   simp only [Bool.false_and]
   refine Tells.step (fun k => ?_) jt
   simp only [customhouseref25_Same.f]
   rw [if_neg a0]
end Go.Proofs.YtkgmempifggajaaGreatDoor.PLawFormulaTextsAsReference
