/- What the statement's proof builds on: RdK, RdL, RdM. -/
import Derived.Test.YtkgmempifggajaaGreatDoorGF22
import Derived.Test.YtkgmempifggajaaGreatDoorGF9
import Derived.Test.YtkgmempifggajaaGreatDoorGF11
import Derived.Test.YtkgmempifggajaaGreatDoorGF24
import Derived.Deep.RegionHeld3
import Derived.Deep.DeepCutAuto
import Derived.Deep.CutBlock
/- The reference's next: plain facts about the text's bytes; the contracts of its small callees. -/
namespace Go.Proofs.YtkgmempifggajaaGreatDoor.PLawFormulaTextsAsReference
open Go.RowKit Go.Proofs.YtkgmempifggajaaGreatDoorW.PrintWords Go.Proofs.YtkgmempifggajaaGreatDoorW.PrintLast Go.Proofs.YtkgmempifggajaaGreatDoorW.PrintMore
open Go.Proofs.YtkgmempifggajaaGreatDoor.P
set_option linter.unusedVariables false
set_option linter.unusedSimpArgs false
theorem digit_f (c : UInt8) : customhouseref07_digit.f (c.toNat : Int) = some (isDigit c) := by
 have := u8_all (fun c => customhouseref07_digit.f (c.toNat : Int) == some (isDigit c)) (by decide +kernel) c
 simpa using this
theorem toNat_eq (c d : UInt8) : ((c.toNat : Int) = (d.toNat : Int)) ↔ c = d := by
 constructor
 ·intro h; apply UInt8.toNat_inj.1; omega
 ·rintro rfl; rfl
theorem drop_end {s : ByteArray} {i : Nat} (h : s.data.toList.drop i = []) : s.size ≤ i := by
 have := congrArg List.length h
 rw [List.length_drop, Array.length_toList] at this
 have e : s.data.size = s.size := rfl
 simp at this
 omega
theorem has_loop (s : ByteArray) (hs : s.size ≤ 1000) (c : UInt8) : ∀ (l : List UInt8) (i : Nat), s.data.toList.drop i = l → i ≤ s.size → Tells (fun k => customhouseref07_has.l0 k s (c.toNat : Int) i) (l.contains c) := by
 intro l
 induction l with
 | nil =>
  intro i h hi
  have := drop_end h
  refine Tells.step (fun k => ?_) Tells.same
  simp only [customhouseref07_has.l0]
  rw [if_neg (by omega)]
  rfl
 | cons a r ih =>
  intro i h hi
  obtain ⟨hb, hlt, hd⟩ := bt_get s i a r h
  have w1 : wrap64 ((i : Int) + 1) = ((i + 1 : Nat) : Int) := by unfold wrap64; omega
  by_cases hc : a = c
  ·subst hc
   refine Tells.step (h := fun _ => some true) (fun k => ?_) (by simp; exact Tells.same)
   simp only [customhouseref07_has.l0]
   rw [if_pos (by omega), if_pos (by omega), hb, if_pos rfl]
  ·have e : (a :: r).contains c = r.contains c := by
    rw [List.contains_cons]
    have : (c == a) = false := by rw [beq_eq_false_iff_ne]; exact fun h => hc h.symm
    rw [this, Bool.false_or]
   rw [e]
   refine Tells.step (fun k => ?_) (ih (i + 1) hd (by omega))
   simp only [customhouseref07_has.l0]
   rw [if_pos (by omega), if_pos (by omega), hb, if_neg (fun h => hc ((toNat_eq a c).1 h)), w1]
theorem has_tells (s : ByteArray) (hs : s.size ≤ 1000) (c : UInt8) : Tells (fun k => customhouseref07_has.f k s (c.toNat : Int)) (s.data.toList.contains c) := has_loop s hs c _ 0 rfl (Nat.zero_le _)
theorem has_blank (c : UInt8) : Tells (fun k => customhouseref07_has.f k (⟨#[32, 9, 10]⟩ : ByteArray) (c.toNat : Int)) (isBlank c) := by
 have h := has_tells (⟨#[32, 9, 10]⟩ : ByteArray) (by decide) c
 have e : (⟨#[32, 9, 10]⟩ : ByteArray).data.toList.contains c = isBlank c := by
  have := u8_all (fun c => (⟨#[32, 9, 10]⟩ : ByteArray).data.toList.contains c == isBlank c) (by decide +kernel) c
  simpa using this
 rw [e] at h
 exact h
theorem has_cmp (c : UInt8) : Tells (fun k => customhouseref07_has.f k (⟨#[33, 60, 62]⟩ : ByteArray) (c.toNat : Int)) (c == 33 || c == 60 || c == 62) := by
 have h := has_tells (⟨#[33, 60, 62]⟩ : ByteArray) (by decide) c
 have e : (⟨#[33, 60, 62]⟩ : ByteArray).data.toList.contains c = (c == 33 || c == 60 || c == 62) := by
  have := u8_all (fun c => (⟨#[33, 60, 62]⟩ : ByteArray).data.toList.contains c == (c == 33 || c == 60 || c == 62)) (by decide +kernel) c
  exact eq_of_beq this
 rw [e] at h
 exact h
theorem has_sym (c : UInt8) : Tells (fun k => customhouseref07_has.f k (⟨#[59, 44, 46, 58, 40, 41, 91, 93, 123, 125, 61, 60, 62, 43, 45]⟩ : ByteArray) (c.toNat : Int)) (c == 60 || c == 62 || isSym c) := by
 have h := has_tells (⟨#[59, 44, 46, 58, 40, 41, 91, 93, 123, 125, 61, 60, 62, 43, 45]⟩ : ByteArray) (by decide) c
 have e : (⟨#[59, 44, 46, 58, 40, 41, 91, 93, 123, 125, 61, 60, 62, 43, 45]⟩ : ByteArray).data.toList.contains c = (c == 60 || c == 62 || isSym c) := by
  have := u8_all (fun c => (⟨#[59, 44, 46, 58, 40, 41, 91, 93, 123, 125, 61, 60, 62, 43, 45]⟩ : ByteArray).data.toList.contains c == (c == 60 || c == 62 || isSym c)) (by decide +kernel) c
  exact eq_of_beq this
 rw [e] at h
 exact h
theorem gap_tells (s : ByteArray) (hs : s.size ≤ 20000) : ∀ (l : List UInt8) (i : Nat), s.data.toList.drop i = l → i ≤ s.size →
  Tells (fun k => customhouseref07_gap.l0 k s i) ((s.size - (skip false l).length : Nat) : Int) ∧ Tells (fun k => customhouseref07_gap.l1 k s i) ((s.size - (skip true l).length : Nat) : Int) := by
 intro l
 induction l with
 | nil =>
  intro i h hi
  have hle : s.size ≤ i := by
   have := congrArg List.length h
   rw [List.length_drop, Array.length_toList] at this
   have e : s.data.size = s.size := rfl
   simp at this
   omega
  obtain rfl : i = s.size := by omega
  have g0 : Tells (fun k => customhouseref07_gap.l0 k s (s.size : Int)) ((s.size - (skip false []).length : Nat) : Int) := by
   refine Tells.step (fun k => ?_) Tells.same
   simp only [customhouseref07_gap.l0]
   rw [if_neg (by omega)]
   simp [skip]
  refine ⟨g0, Tells.step (fun k => ?_) g0⟩
  simp only [customhouseref07_gap.l1]
  rw [if_neg (by omega)]
 | cons c r ih =>
  intro i h hi
  obtain ⟨hb, hlt, hd⟩ := bt_get s i c r h
  obtain ⟨ih0, ih1⟩ := ih (i + 1) hd (by omega)
  have w1 : wrap64 ((i : Int) + 1) = ((i + 1 : Nat) : Int) := by unfold wrap64; omega
  have rl : r.length + 1 ≤ s.size := by
   have := congrArg List.length h
   rw [List.length_drop, Array.length_toList] at this
   have e : s.data.size = s.size := rfl
   simp at this
   omega
  have ri : s.size - (r.length + 1) = i := by
   have := congrArg List.length h
   rw [List.length_drop, Array.length_toList] at this
   have e : s.data.size = s.size := rfl
   simp at this
   omega
  have g0 : Tells (fun k => customhouseref07_gap.l0 k s (i : Int)) ((s.size - (skip false (c :: r)).length : Nat) : Int) := by
   refine Tells.step (h := fun k => (customhouseref07_has.f k (⟨#[32, 9, 10]⟩ : ByteArray) (c.toNat : Int)).bind fun t => if t = true then customhouseref07_gap.l0 k s ((i + 1 : Nat) : Int) else if (c.toNat : Int) = 35 then customhouseref07_gap.l1 k s i else some (i : Int)) (fun k => ?_) ?_
   ·simp only [customhouseref07_gap.l0]
    rw [if_pos (by omega), if_pos (by omega), hb, w1]
   ·refine Tells.bind (has_blank c) ?_
    cases hbl : isBlank c
    ·simp only [Bool.false_eq_true, if_false]
     by_cases h35 : (c.toNat : Int) = 35
     ·have hc : c = 35 := by apply UInt8.toNat_inj.1; show c.toNat = 35; omega
      subst hc
      simp only [h35, if_true]
      have e : skip false (35 :: r) = skip true r := by simp [skip, isBlank]
      rw [e]
      refine Tells.step (fun k => ?_) ih1
      simp only [customhouseref07_gap.l1]
      rw [if_pos (by omega), if_pos (by omega), hb, if_neg (by decide), w1]
     ·simp only [h35, if_false]
      have hne : (c == 35) = false := by
       rw [beq_eq_false_iff_ne]
       intro hc
       rw [hc] at h35
       exact h35 rfl
      have e : skip false (c :: r) = c :: r := by simp [skip, hbl, hne]
      rw [e]
      refine Tells.of ?_
      rw [List.length_cons, ri]
    ·have e : skip false (c :: r) = skip false r := by simp [skip, hbl]
     rw [e]
     exact ih0
  refine ⟨g0, ?_⟩
  by_cases h10 : (c.toNat : Int) = 10
  ·have hc : c = 10 := by apply UInt8.toNat_inj.1; show c.toNat = 10; omega
   subst hc
   have e : skip true (10 :: r) = skip false (10 :: r) := by simp [skip, isBlank]
   rw [e]
   refine Tells.step (fun k => ?_) g0
   simp only [customhouseref07_gap.l1]
   rw [if_pos (by omega), if_pos (by omega), hb, if_pos h10]
  ·have hne : (c == 10) = false := by
    rw [beq_eq_false_iff_ne]
    intro hc
    rw [hc] at h10
    exact h10 rfl
   have e : skip true (c :: r) = skip true r := by simp [skip, hne]
   rw [e]
   refine Tells.step (fun k => ?_) ih1
   simp only [customhouseref07_gap.l1]
   rw [if_pos (by omega), if_pos (by omega), hb, if_neg h10, w1]
abbrev T5 := Int × Int × Int × ByteArray × Int
def badT5 (e : Int) : T5 := (0, 0, 0, (⟨#[]⟩ : ByteArray), e)
def res5 (at_ : Nat) : Except Nat Tk → T5
 | .error e => badT5 (e : Int)
 | .ok t => ((t.kind : Int), (at_ : Int), (t.n : Int), (⟨t.text.toArray⟩ : ByteArray), 0)
theorem numOf_snoc (l : List UInt8) (c : UInt8) : numOf (l ++ [c]) = 10 * numOf l + (c.toNat - 48) := by
 unfold numOf
 rw [List.foldl_append]
 rfl
theorem numOf_lt (l : List UInt8) (h : l.all isDigit = true) : numOf l < 10 ^ l.length := by
 have : ∀ (n : Nat) (l : List UInt8), l.length = n → l.all isDigit = true → numOf l < 10 ^ n := by
  intro n
  induction n with
  | zero => intro l hl _; rw [List.eq_nil_of_length_eq_zero hl]; decide
  | succ n ih =>
   intro l hl ha
   have hne : l ≠ [] := by intro h; rw [h] at hl; cases hl
   obtain ⟨m, c, rfl⟩ : ∃ m c, l = m ++ [c] := ⟨l.dropLast, l.getLast hne, (List.dropLast_concat_getLast hne).symm⟩
   rw [numOf_snoc]
   rw [List.all_append] at ha
   simp at ha hl
   have g := ih m (by omega) (by simpa using ha.1)
   have hc : c.toNat - 48 ≤ 9 := by
    have := u8_all (fun c => !isDigit c || decide (c.toNat - 48 ≤ 9)) (by decide +kernel) c
    rw [ha.2] at this
    simpa using this
   rw [Nat.pow_succ]
   omega
 exact this l.length l rfl h
theorem numOf_13 (l : List UInt8) (h : l.all isDigit = true) (hl : l.length ≤ 13) : numOf l < 10000000000000 := by
 have h1 := numOf_lt l h
 have h2 : 10 ^ l.length ≤ 10 ^ 13 := Nat.pow_le_pow_right (by omega) hl
 have h3 : 10 ^ 13 = 10000000000000 := rfl
 rw [h3] at h2
 exact Nat.lt_of_lt_of_le h1 h2
theorem digit_val (c : UInt8) (h : isDigit c = true) : ((c.toNat : Int) - 48) % 256 = ((c.toNat - 48 : Nat) : Int) := by
 have := u8_all (fun c => !isDigit c || decide (((c.toNat : Int) - 48) % 256 = ((c.toNat - 48 : Nat) : Int))) (by decide +kernel) c
 rw [h] at this
 simpa using this
theorem take_while (p : UInt8 → Bool) (l : List UInt8) : l.take (l.takeWhile p).length = l.takeWhile p := by
 induction l with
 | nil => rfl
 | cons c r ih =>
  rw [List.takeWhile_cons]
  cases h : p c
  ·rfl
  ·simp only [if_true, List.length_cons, List.take_succ_cons, ih]
theorem drop_while (p : UInt8 → Bool) (l : List UInt8) : l.drop (l.takeWhile p).length = l.dropWhile p := by
 induction l with
 | nil => rfl
 | cons c r ih =>
  rw [List.takeWhile_cons, List.dropWhile_cons]
  cases h : p c
  ·simp
  ·simp only [if_true, List.length_cons, List.drop_succ_cons, ih]
theorem extract_head {s : ByteArray} {a : Nat} {c : UInt8} {r : List UInt8} (h : s.data.toList.drop a = c :: r) (p : UInt8 → Bool) :
  s.extract a (a + 1 + (r.takeWhile p).length) = ⟨(c :: r.takeWhile p).toArray⟩ := by
 rw [extract_take, h, show a + 1 + (r.takeWhile p).length - a = (r.takeWhile p).length + 1 by omega, List.take_succ_cons, take_while]
theorem drop_tail {s : ByteArray} {a : Nat} {c : UInt8} {r : List UInt8} (h : s.data.toList.drop a = c :: r) (n : Nat) : s.data.toList.drop (a + 1 + n) = r.drop n := by
 rw [← List.drop_drop, show a + 1 = a + 1 from rfl, ← List.drop_drop, h]
 rfl
theorem dropWhile_head {p : UInt8 → Bool} {l r : List UInt8} {x : UInt8} (h : l.dropWhile p = x :: r) : p x = false := by
 induction l with
 | nil => cases h
 | cons c m ih =>
  rw [List.dropWhile_cons] at h
  cases hp : p c
  ·rw [hp] at h
   simp at h
   rw [← h.1]; exact hp
  ·rw [hp] at h
   simp at h
   exact ih h
def inText (a : UInt8) : Bool := !(a == 34 || a == 10)
theorem head_at (s : ByteArray) (a : Nat) (ha : a < s.size) : s.data.toList.drop a = s[a] :: s.data.toList.drop (a + 1) := by
 have hl : a < s.data.toList.length := by rw [Array.length_toList]; exact ha
 rw [List.drop_eq_getElem_cons hl]
 congr 1
theorem end_at (p : UInt8 → Bool) (s : ByteArray) (a : Nat) : a + 1 + ((s.data.toList.drop (a + 1)).takeWhile p).length = endOf p s (a + 1) := rfl
theorem res_name (s : ByteArray) (a : Nat) (ha : a < s.size) (hl : isLetter s[a] = true) (e : Nat) (he : endOf isWord s (a + 1) = e) :
  res5 a (token (s.data.toList.drop a)) = if e - a > 24 then badT5 2 else (1, (a : Int), 0, s.extract a e, 0) := by
 have h := head_at s a ha
 rw [← he, ← end_at, h]
 obtain ⟨r, hr⟩ : ∃ r, s.data.toList.drop (a + 1) = r := ⟨_, rfl⟩
 rw [hr] at h ⊢
 rw [extract_head h, show a + 1 + (r.takeWhile isWord).length - a = (r.takeWhile isWord).length + 1 by omega]
 have et : token (s[a] :: r) = (if (s[a] :: r.takeWhile isWord).length > 24 then .error 2 else .ok ⟨1, s[a] :: r.takeWhile isWord, 0, (s[a] :: r.takeWhile isWord).length⟩) := by
  simp only [token, hl, if_true]
 rw [et, List.length_cons]
 by_cases h24 : (r.takeWhile isWord).length + 1 > 24
 ·rw [if_pos h24, if_pos h24]; rfl
 ·rw [if_neg h24, if_neg h24]; rfl
theorem res_number (s : ByteArray) (a : Nat) (ha : a < s.size) (hl : isLetter s[a] = false) (hg : isDigit s[a] = true) (e : Nat) (he : endOf isDigit s (a + 1) = e) :
  res5 a (token (s.data.toList.drop a)) = if e - a > 13 ∨ ∃ h : e < s.size, isWord s[e] = true then badT5 4 else (2, (a : Int), (numOf ((s.data.toList.drop a).take (e - a)) : Nat), s.extract a e, 0) := by
 have h := head_at s a ha
 rw [← he, ← end_at]
 have hdt := drop_tail h
 rw [h]
 obtain ⟨r, hr⟩ : ∃ r, s.data.toList.drop (a + 1) = r := ⟨_, rfl⟩
 rw [hr] at h hdt ⊢
 have et : token (s[a] :: r) = (if (s[a] :: r.takeWhile isDigit).length > 13 then .error 4 else match r.dropWhile isDigit with
  | [] => .ok ⟨2, s[a] :: r.takeWhile isDigit, numOf (s[a] :: r.takeWhile isDigit), (s[a] :: r.takeWhile isDigit).length⟩
  | x :: _ => if isLetter x || x == 95 then .error 4 else .ok ⟨2, s[a] :: r.takeWhile isDigit, numOf (s[a] :: r.takeWhile isDigit), (s[a] :: r.takeWhile isDigit).length⟩) := by
  simp only [token, hl, hg, Bool.false_eq_true, if_false, if_true]
  rfl
 rw [et, List.length_cons, extract_head h, show a + 1 + (r.takeWhile isDigit).length - a = (r.takeWhile isDigit).length + 1 by omega, List.take_succ_cons, take_while]
 by_cases h13 : (r.takeWhile isDigit).length + 1 > 13
 ·rw [if_pos h13, if_pos (.inl h13)]; rfl
 ·rw [if_neg h13]
  have hd := hdt (r.takeWhile isDigit).length
  rw [drop_while] at hd
  cases hq : r.dropWhile isDigit with
  | nil =>
   rw [hq] at hd
   have hend := drop_end hd
   rw [if_neg (fun hh => hh.elim h13 (fun ⟨h1, _⟩ => by omega))]
   rfl
  | cons x m =>
   rw [hq] at hd
   have hx := dropWhile_head hq
   have ew : isWord x = (isLetter x || x == 95) := by unfold isWord; rw [hx, Bool.or_false]
   obtain ⟨_, hlt, _⟩ := bt_get s _ x m hd
   have hxe : s[a + 1 + (r.takeWhile isDigit).length] = x := by
    have := head_at s _ hlt
    rw [hd] at this
    injection this with h1 _
    exact h1.symm
   simp only [← ew]
   cases hw : isWord x
   ·simp only [Bool.false_eq_true, if_false]
    rw [if_neg (fun hh => hh.elim h13 (fun ⟨_, h1⟩ => by rw [hxe, hw] at h1; cases h1))]
    rfl
   ·simp only [if_true]
    rw [if_pos (Or.inr ⟨hlt, by rw [hxe, hw]⟩)]
    rfl
theorem res_text (s : ByteArray) (a : Nat) (ha : a < s.size) (h34 : s[a] = 34) (e : Nat) (he : endOf inText s (a + 1) = e) :
  res5 a (token (s.data.toList.drop a)) = if h : e < s.size then (if s[e] = 10 then badT5 6 else if e - a - 1 > 400 then badT5 2 else (3, (a : Int), 0, s.extract (a + 1) e, 0)) else badT5 6 := by
 have h := head_at s a ha
 have hdt := drop_tail h
 rw [← he, ← end_at, h, h34]
 have hex : ∀ n, s.extract (a + 1) (a + 1 + n) = ⟨((s.data.toList.drop (a + 1)).take n).toArray⟩ := fun n => by rw [extract_take, show a + 1 + n - (a + 1) = n by omega]
 obtain ⟨r, hr⟩ : ∃ r, s.data.toList.drop (a + 1) = r := ⟨_, rfl⟩
 rw [hr] at h hdt hex ⊢
 have et : token (34 :: r) = (match r.dropWhile inText with
  | [] => .error 6
  | x :: _ => if x == 10 then .error 6 else if (r.takeWhile inText).length > 400 then .error 2 else .ok ⟨3, r.takeWhile inText, 0, (r.takeWhile inText).length + 2⟩) := rfl
 rw [et]
 have hd := hdt (r.takeWhile inText).length
 rw [drop_while] at hd
 cases hq : r.dropWhile inText with
 | nil =>
  rw [hq] at hd
  have hend := drop_end hd
  rw [dif_neg (by omega)]
  rfl
 | cons x m =>
  rw [hq] at hd
  obtain ⟨_, hlt, _⟩ := bt_get s _ x m hd
  have hxe : s[a + 1 + (r.takeWhile inText).length] = x := by
   have := head_at s _ hlt
   rw [hd] at this
   injection this with h1 _
   exact h1.symm
  rw [dif_pos hlt, hxe]
  by_cases hx : x = 10
  ·subst hx; rfl
  ·rw [if_neg hx, show a + 1 + (r.takeWhile inText).length - a - 1 = (r.takeWhile inText).length by omega, hex, take_while]
   simp only
   rw [if_neg (show ¬ (x == 10) = true by simpa using hx)]
   by_cases h4 : (r.takeWhile inText).length > 400
   ·rw [if_pos h4, if_pos h4]; rfl
   ·rw [if_neg h4, if_neg h4]; rfl
theorem res_symbol (s : ByteArray) (a : Nat) (ha : a < s.size) (hl : isLetter s[a] = false) (hg : isDigit s[a] = false) (h34 : ¬ s[a] = 34) :
  res5 a (token (s.data.toList.drop a)) = if (s[a] == 33 || s[a] == 60 || s[a] == 62) = true ∧ ∃ h : a + 1 < s.size, s[a + 1] = 61 then (4, (a : Int), 0, s.extract a (a + 2), 0)
   else if (s[a] == 60 || s[a] == 62 || isSym s[a]) = true then (4, (a : Int), 0, s.extract a (a + 1), 0) else badT5 3 := by
 have h := head_at s a ha
 have hd0 : s.data.toList.drop a = s[a] :: s.data.toList.drop (a + 1) := h
 have e1 : s.extract a (a + 1) = (⟨[s[a]].toArray⟩ : ByteArray) := by rw [extract_take, h, show a + 1 - a = 1 by omega]; rfl
 have tk : token (s[a] :: s.data.toList.drop (a + 1)) = (if ((s[a] == 33 || s[a] == 60 || s[a] == 62) && (s.data.toList.drop (a + 1)).head? == some 61) = true then .ok ⟨4, [s[a], 61], 0, 2⟩ else if (s[a] == 60 || s[a] == 62 || isSym s[a]) = true then .ok ⟨4, [s[a]], 0, 1⟩ else .error 3) := by
  simp only [token, hl, hg, Bool.false_eq_true, if_false]
  rw [if_neg (by simpa using h34)]
 rw [h, tk, e1]
 have last : res5 a (if (s[a] == 60 || s[a] == 62 || isSym s[a]) = true then .ok ⟨4, [s[a]], 0, 1⟩ else .error 3) = (if (s[a] == 60 || s[a] == 62 || isSym s[a]) = true then ((4, (a : Int), 0, (⟨[s[a]].toArray⟩ : ByteArray), 0) : T5) else badT5 3) := by split <;> rfl
 by_cases h1 : a + 1 < s.size
 ·have h2 := head_at s (a + 1) h1
  have eh : ((s.data.toList.drop (a + 1)).head? == some 61) = (s[a + 1] == 61) := by rw [h2]; rfl
  rw [eh]
  by_cases hc : (s[a] == 33 || s[a] == 60 || s[a] == 62) = true
  ·by_cases h61 : s[a + 1] = 61
   ·rw [if_pos (by rw [hc, h61]; rfl), if_pos ⟨hc, h1, h61⟩]
    have e2 : s.extract a (a + 2) = (⟨[s[a], 61].toArray⟩ : ByteArray) := by rw [extract_take, h, h2, h61, show a + 2 - a = 2 by omega]; rfl
    rw [e2]
    rfl
   ·rw [if_neg (by rw [hc, beq_eq_false_iff_ne.2 h61]; decide)]
    exact last.trans (if_neg (fun hh => h61 hh.2.2)).symm
  ·rw [if_neg (fun hh => hc (by simp only [Bool.and_eq_true] at hh; exact hh.1))]
   exact last.trans (if_neg (fun hh => hc hh.1)).symm
 ·have h2 : s.data.toList.drop (a + 1) = [] := List.drop_eq_nil_of_le (by rw [Array.length_toList]; show s.size ≤ _; omega)
  rw [h2]
  rw [if_neg (by simp)]
  exact last.trans (if_neg (fun hh => h1 hh.2.1)).symm
end Go.Proofs.YtkgmempifggajaaGreatDoor.PLawFormulaTextsAsReference
/- The reference's next, walked. (Printed by wip/tools/gen_rnext.py.) -/
namespace Go.Proofs.YtkgmempifggajaaGreatDoor.P
open Go.RowKit Go.Proofs.YtkgmempifggajaaGreatDoorW.PrintWords Go.Proofs.YtkgmempifggajaaGreatDoorW.PrintLast Go.Proofs.YtkgmempifggajaaGreatDoorW.PrintMore
open Go.Proofs.YtkgmempifggajaaGreatDoor.PLawFormulaTextsAsReference
set_option linter.unusedVariables false
set_option linter.unusedSimpArgs false
abbrev tok4 (k a n : Int) (x : ByteArray) : Array Value := #[.int .i64 k, .int .i64 a, .int .i64 n, .string x]
structure NX (w0 w : World) (k a n : Int) (x : ByteArray) : Prop where
 res : w.heap[w0.heap.size]? = some (.cells (tok4 0 0 0 ⟨#[]⟩) 75 (0, 0))
 tok : w.heap[w0.heap.size + 1]? = some (.cells (tok4 k a n x) 75 (0, 0))
 old : Below w0.heap.size w0 w
theorem NX.below {w0 w w1 : World} {k a n : Int} {x : ByteArray} (h : NX w0 w k a n x) (hb : Below w.heap.size w w1) : NX w0 w1 k a n x :=
 ⟨(hb.block _ (lt_of_block h.res)).trans h.res, (hb.block _ (lt_of_block h.tok)).trans h.tok, h.old.trans (hb.mono h.old.size)⟩
theorem NX.put {w0 w : World} {k a n : Int} {x : ByteArray} (h : NX w0 w k a n x) (i : Nat) (v : Value) (k' a' n' : Int) (x' : ByteArray) (e : (tok4 k a n x).setIfInBounds i v = tok4 k' a' n' x') : NX w0 (w.setCell ⟨w0.heap.size + 1, i, none⟩ v) k' a' n' x' :=
 ⟨(Below.heap_setCell _ _ _ _ (show w0.heap.size ≠ w0.heap.size + 1 by omega)).trans h.res, blk_put h.tok i v e, h.old.setCell (p := ⟨w0.heap.size + 1, i, none⟩) (show w0.heap.size ≤ w0.heap.size + 1 by omega) _⟩
theorem NX.fin {w0 w : World} {k a n : Int} {x : ByteArray} (h : NX w0 w k a n x) (p q r : Int) (y : ByteArray) :
  ((((w.setCell ⟨w0.heap.size, 0, none⟩ (.int .i64 p)).setCell ⟨w0.heap.size, 1, none⟩ (.int .i64 q)).setCell ⟨w0.heap.size, 2, none⟩ (.int .i64 r)).setCell ⟨w0.heap.size, 3, none⟩ (.string y)).heap[w0.heap.size]? = some (.cells (tok4 p q r y) 75 (0, 0)) ∧
  Below w0.heap.size w0 ((((w.setCell ⟨w0.heap.size, 0, none⟩ (.int .i64 p)).setCell ⟨w0.heap.size, 1, none⟩ (.int .i64 q)).setCell ⟨w0.heap.size, 2, none⟩ (.int .i64 r)).setCell ⟨w0.heap.size, 3, none⟩ (.string y)) :=
 ⟨put4 h.res _ _ _ _, (((h.old.setCell (p := ⟨w0.heap.size, 0, none⟩) (Nat.le_refl _) _).setCell (p := ⟨w0.heap.size, 1, none⟩) (Nat.le_refl _) _).setCell (p := ⟨w0.heap.size, 2, none⟩) (Nat.le_refl _) _).setCell (p := ⟨w0.heap.size, 3, none⟩) (Nat.le_refl _) _⟩
theorem NX.start (w : World) (a : Int) : NX w ((w.alloc (.cells (tok4 0 0 0 ⟨#[]⟩) 75)).alloc (.cells (tok4 0 a 0 ⟨#[]⟩) 75)) 0 a 0 ⟨#[]⟩ :=
 ⟨blk_alloc_old (blk_new w _ rfl) _, blk_new _ _ (by simp), below_alloc (below_alloc (Below.refl _ _) _) _⟩
theorem byte_is {c : UInt8} (n : UInt8) (h : c = n) : (((c.toNat : Nat) : Int) == ((n.toNat : Nat) : Int)) = true := by rw [h]; simp
theorem byte_no {c : UInt8} (n : UInt8) (h : ¬ c = n) : (((c.toNat : Nat) : Int) == ((n.toNat : Nat) : Int)) = false := by
 rw [beq_eq_false_iff_ne]
 intro h2
 exact h (UInt8.toNat_inj.1 (by omega))
theorem num_next (s : ByteArray) (a i k : Nat) (h1 : a ≤ i) (h2 : i < k) (h3 : k ≤ s.size) (h13 : k - a ≤ 13) (hd : ((s.data.toList.drop a).take (k - a)).all isDigit = true) :
  numOf ((s.data.toList.drop a).take (i + 1 - a)) = 10 * numOf ((s.data.toList.drop a).take (i - a)) + (s[i].toNat - 48) ∧ 10 * numOf ((s.data.toList.drop a).take (i - a)) + (s[i].toNat - 48) < 10000000000000 ∧ isDigit s[i] = true := by
 have hc := head_at s i (by omega)
 have hsn : (s.data.toList.drop a).take (i + 1 - a) = (s.data.toList.drop a).take (i - a) ++ [s[i]] := by
  rw [show i + 1 - a = (i - a) + 1 by omega, List.take_add_one, List.getElem?_drop, show a + (i - a) = i by omega]
  have : s.data.toList[i]? = some s[i] := by
   have := congrArg List.head? hc
   rw [List.head?_drop] at this
   exact this
  rw [this]
  rfl
 have hsub : ((s.data.toList.drop a).take (i + 1 - a)).all isDigit = true := by
  rw [List.all_eq_true] at hd ⊢
  intro x hx
  refine hd x ?_
  rw [show i + 1 - a = min (i + 1 - a) (k - a) by omega, ← List.take_take] at hx
  exact List.mem_of_mem_take hx
 have hcd : isDigit s[i] = true := by
  rw [hsn, List.all_append] at hsub
  simp at hsub
  exact hsub.2
 have hn : numOf ((s.data.toList.drop a).take (i + 1 - a)) < 10000000000000 := numOf_13 _ hsub (by rw [List.length_take]; omega)
 rw [hsn, numOf_snoc] at hn
 exact ⟨by rw [hsn, numOf_snoc], hn, hcd⟩
theorem num_ar (q z : Nat) (h : 10 * q + z < 10000000000000) (hz : z ≤ 9) : IntKind.i64.wrap (IntKind.i64.wrap (10 * (q : Int)) + IntKind.i64.wrap (z : Int)) = ((10 * q + z : Nat) : Int) := by
 rw [IntKind.wrap_i64, IntKind.wrap_i64, IntKind.wrap_i64]
 omega
theorem num_val (q : Nat) (c : UInt8) (hc : isDigit c = true) (h : 10 * q + (c.toNat - 48) < 10000000000000) : IntKind.i64.wrap (IntKind.i64.wrap (10 * (q : Int)) + IntKind.i64.wrap (IntKind.u8.wrap ((c.toNat : Int) - 48))) = ((10 * q + (c.toNat - 48) : Nat) : Int) := by
 have h9 : c.toNat - 48 ≤ 9 := by
  have := u8_all (fun c => !isDigit c || decide (c.toNat - 48 ≤ 9)) (by decide +kernel) c
  rw [hc] at this
  simpa using this
 rw [IntKind.wrap_u8, digit_val c hc]
 exact num_ar q _ h h9
theorem num_all (s : ByteArray) (a k : Nat) (h1 : a < k) (h2 : k ≤ s.size) (hd : ∀ h : a < s.size, isDigit s[a] = true) (hn : ∀ j (h1 : a + 1 ≤ j) (h2 : j < k) (h3 : j < s.size), isDigit s[j] = true) : ((s.data.toList.drop a).take (k - a)).all isDigit = true := by
 rw [List.all_eq_true]
 intro x hx
 obtain ⟨i, hi, rfl⟩ := List.mem_iff_getElem.1 hx
 rw [List.getElem_take, List.getElem_drop]
 rw [List.length_take, List.length_drop, Array.length_toList] at hi
 have hz : a + i < s.size := by have : s.data.size = s.size := rfl; omega
 show isDigit s[a + i] = true
 by_cases h0 : i = 0
 ·subst h0; exact hd hz
 ·exact hn (a + i) (by omega) (by omega) hz
abbrev RNextPost (w : World) (q : T5) (e : Ending) (w' : World) : Prop := e = .returned (.tuple #[.agg (tok4 q.1 q.2.1 q.2.2.1 q.2.2.2.1), .int .i64 q.2.2.2.2]) ∧ Below w.heap.size w w'
set_option maxHeartbeats 8000000 in
set_option maxRecDepth 100000 in
theorem rnext_name (s : ByteArray) (hs : s.size ≤ 20000) (a : Nat) (ha : a < s.size) (hl : isLetter s[a] = true) (w : World) :
  Calls Tryz.prog 82 #[.string s, .int .i64 a] w (RNextPost w (res5 a (token (s.data.toList.drop a)))) := by
 have HR := Aside0.mk (res_name s a ha hl)
 have HL := Aside0.mk hl
 clear hl
 go_enter Tryz.func82, Tryz.ntmps82
 go_wp2_with fail
 refine (customhouseref07_letter.calls _ true _ (by rw [letter_f, HL.out])).mono ?_
 rintro e w1 ⟨rfl, hd⟩
 have HX0 := Aside0.mk ((NX.start w a).below hd.below)
 clear hd
 go_wp2
 go_loopw [6] (fun v6 wr => ∃ k : Nat, v6 = .int .i64 (k : Int) ∧ a + 1 ≤ k ∧ k ≤ s.size ∧ Aside0 (∀ j (h1 : a + 1 ≤ j) (h2 : j < k) (h3 : j < s.size), isWord s[j] = true) ∧ Aside0 (NX w wr 0 a 0 ⟨#[]⟩)) (fun v _ => s.size - (intOf v).toNat)
 case atStart => exact ⟨a + 1, rfl, Nat.le_refl _, by omega, ⟨fun j h1 h2 => absurd h2 (by omega)⟩, ⟨HX0.out⟩⟩
 case round =>
  obtain ⟨k, rfl, hk1, hk2, HN, HX⟩ := hrel
  by_cases hlt : k < s.size
  ·cases hv : isWord s[k]
   ·have HE := Aside0.mk (endOf_eq hk1 hk2 (fun j hj hl => HN.out j hj hl (by omega)) (fun _ => hv))
    have HV := Aside0.mk hv
    clear hv
    go_wp2_with fail
    refine (customhouseref07_word.calls _ false _ (by rw [word_f, HV.out])).mono ?_
    rintro e w1 ⟨rfl, hd⟩
    have HX2 := Aside0.mk (HX.out.below hd.below)
    clear hd
    have HRk := Aside0.mk (HR.out _ HE.out)
    have HX3 := Aside0.mk (HX2.out.put 0 (.int .i64 1) 1 a 0 ⟨#[]⟩ rfl)
    have ht0 := blk_cell HX2.out.tok 0
    have hu0 := blk_frozen HX2.out.tok 0
    have ht1 := blk_cell HX2.out.tok 1
    have hu1 := blk_frozen HX2.out.tok 1
    have ht2 := blk_cell HX2.out.tok 2
    have hu2 := blk_frozen HX2.out.tok 2
    have ht3 := blk_cell HX2.out.tok 3
    have hu3 := blk_frozen HX2.out.tok 3
    have hr0 := blk_cell HX2.out.res 0
    have hf0 := blk_frozen HX2.out.res 0
    have hr1 := blk_cell HX2.out.res 1
    have hf1 := blk_frozen HX2.out.res 1
    have hr2 := blk_cell HX2.out.res 2
    have hf2 := blk_frozen HX2.out.res 2
    have hr3 := blk_cell HX2.out.res 3
    have hf3 := blk_frozen HX2.out.res 3
    by_cases h24 : k - a > 24
    ·have b24 : (24 : Int) < (k : Int) - (a : Int) := by omega
     go_wp2
     refine bodyPost_ret (results_ct rfl _ _ w.heap.size 75 (tok4 0 0 0 ⟨#[]⟩) (0, 0) _ rfl (HX3.out.fin 0 0 0 ⟨#[]⟩).1 Tryz.underlying75 rfl (by kernel_rfl)) rfl ?_
     exact ⟨by rw [HRk.out, if_pos h24]; rfl, (HX3.out.fin 0 0 0 ⟨#[]⟩).2⟩
    ·have b24 : ¬ (24 : Int) < (k : Int) - (a : Int) := by omega
     have HX4 := Aside0.mk (HX3.out.put 3 (.string (s.extract a k)) 1 a 0 (s.extract a k) rfl)
     go_wp2
     refine bodyPost_ret (results_ct rfl _ _ w.heap.size 75 (tok4 1 a 0 (s.extract a k)) (0, 0) _ rfl (HX4.out.fin 1 a 0 (s.extract a k)).1 Tryz.underlying75 rfl (by kernel_rfl)) rfl ?_
     exact ⟨by rw [HRk.out, if_neg h24]; rfl, (HX4.out.fin 1 a 0 (s.extract a k)).2⟩
   ·have HV := Aside0.mk hv
    clear hv
    go_wp2_with fail
    refine (customhouseref07_word.calls _ true _ (by rw [word_f, HV.out])).mono ?_
    rintro e w1 ⟨rfl, hd⟩
    have HX2 := Aside0.mk (HX.out.below hd.below)
    clear hd
    go_wp2
    go_roundw
    case rel => exact ⟨k + 1, by go_num, by omega, by omega, ⟨fun j h1 h2 h3 => by
     by_cases e : j = k
     ·subst e; exact HV.out
     ·exact HN.out j h1 (by omega) h3⟩, HX2⟩
    case measure => simp [intOf]; omega
  ·obtain rfl : k = s.size := by omega
   have HE := Aside0.mk (endOf_eq hk1 (Nat.le_refl _) (fun j hj hl => HN.out j hj hl hl) (fun hl => absurd hl (by omega)))
   have HX2 := HX
   have HRk := Aside0.mk (HR.out _ HE.out)
   have HX3 := Aside0.mk (HX2.out.put 0 (.int .i64 1) 1 a 0 ⟨#[]⟩ rfl)
   have ht0 := blk_cell HX2.out.tok 0
   have hu0 := blk_frozen HX2.out.tok 0
   have ht1 := blk_cell HX2.out.tok 1
   have hu1 := blk_frozen HX2.out.tok 1
   have ht2 := blk_cell HX2.out.tok 2
   have hu2 := blk_frozen HX2.out.tok 2
   have ht3 := blk_cell HX2.out.tok 3
   have hu3 := blk_frozen HX2.out.tok 3
   have hr0 := blk_cell HX2.out.res 0
   have hf0 := blk_frozen HX2.out.res 0
   have hr1 := blk_cell HX2.out.res 1
   have hf1 := blk_frozen HX2.out.res 1
   have hr2 := blk_cell HX2.out.res 2
   have hf2 := blk_frozen HX2.out.res 2
   have hr3 := blk_cell HX2.out.res 3
   have hf3 := blk_frozen HX2.out.res 3
   by_cases h24 : s.size - a > 24
   ·have b24 : (24 : Int) < (s.size : Int) - (a : Int) := by omega
    go_wp2
    refine bodyPost_ret (results_ct rfl _ _ w.heap.size 75 (tok4 0 0 0 ⟨#[]⟩) (0, 0) _ rfl (HX3.out.fin 0 0 0 ⟨#[]⟩).1 Tryz.underlying75 rfl (by kernel_rfl)) rfl ?_
    exact ⟨by rw [HRk.out, if_pos h24]; rfl, (HX3.out.fin 0 0 0 ⟨#[]⟩).2⟩
   ·have b24 : ¬ (24 : Int) < (s.size : Int) - (a : Int) := by omega
    have HX4 := Aside0.mk (HX3.out.put 3 (.string (s.extract a s.size)) 1 a 0 (s.extract a s.size) rfl)
    go_wp2
    refine bodyPost_ret (results_ct rfl _ _ w.heap.size 75 (tok4 1 a 0 (s.extract a s.size)) (0, 0) _ rfl (HX4.out.fin 1 a 0 (s.extract a s.size)).1 Tryz.underlying75 rfl (by kernel_rfl)) rfl ?_
    exact ⟨by rw [HRk.out, if_neg h24]; rfl, (HX4.out.fin 1 a 0 (s.extract a s.size)).2⟩
set_option maxHeartbeats 8000000 in
set_option maxRecDepth 100000 in
theorem rnext_number (s : ByteArray) (hs : s.size ≤ 20000) (a : Nat) (ha : a < s.size) (hl : isLetter s[a] = false) (hg : isDigit s[a] = true) (w : World) :
  Calls Tryz.prog 82 #[.string s, .int .i64 a] w (RNextPost w (res5 a (token (s.data.toList.drop a)))) := by
 have HR := Aside0.mk (res_number s a ha hl hg)
 have HL := Aside0.mk hl
 have HDG := Aside0.mk hg
 clear hl hg
 go_enter Tryz.func82, Tryz.ntmps82
 go_wp2_with fail
 refine (customhouseref07_letter.calls _ false _ (by rw [letter_f, HL.out])).mono ?_
 rintro e w1 ⟨rfl, hd⟩
 have HX00 := Aside0.mk ((NX.start w a).below hd.below)
 clear hd
 go_wp2_with fail
 refine (customhouseref07_digit.calls _ true _ (by rw [digit_f, HDG.out])).mono ?_
 rintro e w1 ⟨rfl, hd⟩
 have HX0 := Aside0.mk (HX00.out.below hd.below)
 clear hd
 go_upto_block 2 with fail
 go_cut [6] (fun v6 wx => ∃ k : Nat, v6 = .int .i64 (k : Int) ∧ a + 1 ≤ k ∧ k ≤ s.size ∧ Aside0 (endOf isDigit s (a + 1) = k) ∧ Aside0 (∀ j (h1 : a + 1 ≤ j) (h2 : j < k) (h3 : j < s.size), isDigit s[j] = true) ∧ Aside0 (NX w wx 0 a 0 ⟨#[]⟩))
 case first =>
  go_wp2_with fail
  go_loopw [6] (fun v6 wr => ∃ k : Nat, v6 = .int .i64 (k : Int) ∧ a + 1 ≤ k ∧ k ≤ s.size ∧ Aside0 (∀ j (h1 : a + 1 ≤ j) (h2 : j < k) (h3 : j < s.size), isDigit s[j] = true) ∧ Aside0 (NX w wr 0 a 0 ⟨#[]⟩)) (fun v _ => s.size - (intOf v).toNat)
  case atStart => exact ⟨a + 1, rfl, Nat.le_refl _, by omega, ⟨fun j h1 h2 => absurd h2 (by omega)⟩, ⟨HX0.out⟩⟩
  case round =>
   obtain ⟨k, rfl, hk1, hk2, HN, HX⟩ := hrel
   by_cases hlt : k < s.size
   ·cases hv : isDigit s[k]
    ·have HE := Aside0.mk (endOf_eq hk1 hk2 (fun j hj hl => HN.out j hj hl (by omega)) (fun _ => hv))
     have HV := Aside0.mk hv
     clear hv
     go_wp2_with fail
     refine (customhouseref07_digit.calls _ false _ (by rw [digit_f, HV.out])).mono ?_
     rintro e w1 ⟨rfl, hd⟩
     have HX2 := Aside0.mk (HX.out.below hd.below)
     clear hd
     go_wp2_with fail
     go_meet
     exact ⟨k, rfl, hk1, hk2, HE, HN, HX2⟩
    ·have HV := Aside0.mk hv
     clear hv
     go_wp2_with fail
     refine (customhouseref07_digit.calls _ true _ (by rw [digit_f, HV.out])).mono ?_
     rintro e w1 ⟨rfl, hd⟩
     have HX2 := Aside0.mk (HX.out.below hd.below)
     clear hd
     go_wp2
     go_roundw
     case rel => exact ⟨k + 1, by go_num, by omega, by omega, ⟨fun j h1 h2 h3 => by
      by_cases e : j = k
      ·subst e; exact HV.out
      ·exact HN.out j h1 (by omega) h3⟩, HX2⟩
     case measure => simp [intOf]; omega
   ·obtain rfl : k = s.size := by omega
    have HE := Aside0.mk (endOf_eq hk1 (Nat.le_refl _) (fun j hj hl => HN.out j hj hl hl) (fun hl => absurd hl (by omega)))
    go_wp2_with fail
    go_meet
    exact ⟨s.size, rfl, hk1, Nat.le_refl _, HE, HN, HX⟩
 obtain ⟨k, rfl, hk1, hk2, HE, HN, HX⟩ := hcut
 have HRk := Aside0.mk (HR.out _ HE.out)
 have HAL := Aside0.mk (num_all s a k (by omega) hk2 (fun _ => HDG.out) HN.out)
 clear HE HN
 have ht0 := blk_cell HX.out.tok 0
 have hu0 := blk_frozen HX.out.tok 0
 have HX3 := Aside0.mk (HX.out.put 0 (.int .i64 2) 2 a 0 ⟨#[]⟩ rfl)
 go_upto_region 14 with fail
 go_cut [67] (fun v wx => v = .bool (decide (k - a > 13 ∨ ∃ h : k < s.size, isWord s[k] = true)) ∧ Aside0 (NX w wx 2 a 0 ⟨#[]⟩))
 case first =>
  by_cases h13 : k - a > 13
  ·have b13 : (13 : Int) < (k : Int) - (a : Int) := by omega
   go_wp2_with fail
   go_meet
   exact ⟨by rw [decide_eq_true (show (k - a > 13 ∨ ∃ h : k < s.size, isWord s[k] = true) from .inl h13)], HX3⟩
  ·have b13 : ¬ (13 : Int) < (k : Int) - (a : Int) := by omega
   by_cases hlt : k < s.size
   ·cases hv : isWord s[k]
    ·have HV := Aside0.mk hv
     clear hv
     go_wp2_with fail
     refine (customhouseref07_word.calls _ false _ (by rw [word_f, HV.out])).mono ?_
     rintro e w1 ⟨rfl, hd⟩
     have HX4 := Aside0.mk (HX3.out.below hd.below)
     clear hd
     go_wp2_with fail
     go_meet
     exact ⟨by rw [decide_eq_false (show ¬ (k - a > 13 ∨ ∃ h : k < s.size, isWord s[k] = true) from fun hh => hh.elim h13 (fun ⟨_, h1⟩ => by rw [HV.out] at h1; cases h1))], HX4⟩
    ·have HV := Aside0.mk hv
     clear hv
     go_wp2_with fail
     refine (customhouseref07_word.calls _ true _ (by rw [word_f, HV.out])).mono ?_
     rintro e w1 ⟨rfl, hd⟩
     have HX4 := Aside0.mk (HX3.out.below hd.below)
     clear hd
     go_wp2_with fail
     go_meet
     exact ⟨by rw [decide_eq_true (show (k - a > 13 ∨ ∃ h : k < s.size, isWord s[k] = true) from .inr ⟨hlt, HV.out⟩)], HX4⟩
   ·go_wp2_with fail
    go_meet
    exact ⟨by rw [decide_eq_false (show ¬ (k - a > 13 ∨ ∃ h : k < s.size, isWord s[k] = true) from fun hh => hh.elim h13 (fun ⟨h1, _⟩ => hlt h1))], HX3⟩
 obtain ⟨rfl, HX⟩ := hcut
 clear HX3 ht0 hu0
 by_cases hbad : (k - a > 13 ∨ ∃ h : k < s.size, isWord s[k] = true)
 ·have eb : decide (k - a > 13 ∨ ∃ h : k < s.size, isWord s[k] = true) = true := decide_eq_true hbad
  have HBD := Aside0.mk hbad
  clear hbad
  rw [eb]
  clear eb
  have ht0 := blk_cell HX.out.tok 0
  have hu0 := blk_frozen HX.out.tok 0
  have ht1 := blk_cell HX.out.tok 1
  have hu1 := blk_frozen HX.out.tok 1
  have ht2 := blk_cell HX.out.tok 2
  have hu2 := blk_frozen HX.out.tok 2
  have ht3 := blk_cell HX.out.tok 3
  have hu3 := blk_frozen HX.out.tok 3
  have hr0 := blk_cell HX.out.res 0
  have hf0 := blk_frozen HX.out.res 0
  have hr1 := blk_cell HX.out.res 1
  have hf1 := blk_frozen HX.out.res 1
  have hr2 := blk_cell HX.out.res 2
  have hf2 := blk_frozen HX.out.res 2
  have hr3 := blk_cell HX.out.res 3
  have hf3 := blk_frozen HX.out.res 3
  go_wp2
  refine bodyPost_ret (results_ct rfl _ _ w.heap.size 75 (tok4 0 0 0 ⟨#[]⟩) (0, 0) _ rfl (HX.out.fin 0 0 0 ⟨#[]⟩).1 Tryz.underlying75 rfl (by kernel_rfl)) rfl ?_
  exact ⟨by rw [HRk.out, if_pos HBD.out]; rfl, (HX.out.fin 0 0 0 ⟨#[]⟩).2⟩
 ·have eb : decide (k - a > 13 ∨ ∃ h : k < s.size, isWord s[k] = true) = false := decide_eq_false hbad
  have h13 : k - a ≤ 13 := by
   rcases Nat.lt_or_ge 13 (k - a) with h | h
   ·exact absurd (.inl h) hbad
   ·exact h
  have HBD := Aside0.mk hbad
  clear hbad
  rw [eb]
  clear eb
  go_wp2_with fail
  go_loopw [9] (fun v9 wr => ∃ i : Nat, v9 = .int .i64 (i : Int) ∧ a ≤ i ∧ i ≤ k ∧ Aside0 (NX w wr 2 a ((numOf ((s.data.toList.drop a).take (i - a)) : Nat) : Int) ⟨#[]⟩)) (fun v _ => s.size - (intOf v).toNat)
  case atStart => exact ⟨a, rfl, Nat.le_refl _, by omega, ⟨by rw [Nat.sub_self, List.take_zero]; exact HX.out⟩⟩
  case round =>
   obtain ⟨i, rfl, hi1, hi2, HM⟩ := hrel
   clear HX
   by_cases hlt : i < k
   ·have hz : i < s.size := by omega
    have ht2 := blk_cell HM.out.tok 2
    have hu2 := blk_frozen HM.out.tok 2
    obtain ⟨q, hq⟩ : ∃ q, numOf ((s.data.toList.drop a).take (i - a)) = q := ⟨_, rfl⟩
    rw [hq] at HM ht2
    have HQ := Aside0.mk hq
    clear hq
    go_wp2_with fail
    refine wp_region_held_drew (S := (fun _ => True)) (by kernel_rfl) ?_ (fun hH0 => ?_)
    ·trivial
    refine wpAnyH_take (i := 0) (oi := { dst := some 75, op := Go.Op.fieldAddr 75 (Go.Operand.tmp 7) 2, type := 0, pos := "ref.go:76", after := #[], guard := none }) (v := ?_) rfl (by kernel_rfl) (by kernel_rfl) (by kernel_rfl) (fun _ _ _ h => h) (Or.inl ⟨by rfl, ?_⟩) (by assumption) ?_
    rotate_left 1
    ·((intro w hSw; (try dsimp only at hSw); go_simp); first | done | (with_reducible rfl))
    try simp only [Act.put, List.setIfInBounds_toArray, List.set_cons_zero, List.set_cons_succ]
    refine wpAnyH_take (i := 3) (oi := { dst := some 78, op := Go.Op.move (Go.Operand.tmp 0), type := 9, pos := "ref.go:76", after := #[], guard := none }) (v := ?_) rfl (by kernel_rfl) (by kernel_rfl) (by kernel_rfl) (fun _ _ _ h => h) (Or.inl ⟨by rfl, ?_⟩) (by assumption) ?_
    rotate_left 1
    ·((intro w hSw; (try dsimp only at hSw); go_simp); first | done | (with_reducible rfl))
    try simp only [Act.put, List.setIfInBounds_toArray, List.set_cons_zero, List.set_cons_succ]
    refine wpAnyH_take (i := 4) (oi := { dst := some 79, op := Go.Op.move (Go.Operand.tmp 9), type := 3, pos := "ref.go:76", after := #[], guard := none }) (v := ?_) rfl (by kernel_rfl) (by kernel_rfl) (by kernel_rfl) (fun _ _ _ h => h) (Or.inl ⟨by rfl, ?_⟩) (by assumption) ?_
    rotate_left 1
    ·((intro w hSw; (try dsimp only at hSw); go_simp); first | done | (with_reducible rfl))
    try simp only [Act.put, List.setIfInBounds_toArray, List.set_cons_zero, List.set_cons_succ]
    refine wpAnyH_take (i := 5) (oi := { dst := some 80, op := Go.Op.index 9 (Go.Operand.tmp 78) (Go.Operand.tmp 79), type := 5, pos := "ref.go:76", after := #[{ on := 3, ground := Go.Ground.data }, { on := 4, ground := Go.Ground.data }], guard := none }) (v := ?_) rfl (by kernel_rfl) (by kernel_rfl) (by kernel_rfl) (fun _ _ _ h => h) (Or.inl ⟨by rfl, ?_⟩) (by assumption) ?_
    rotate_left 1
    ·((intro w hSw; (try dsimp only at hSw); go_simp); first | done | (with_reducible rfl))
    try simp only [Act.put, List.setIfInBounds_toArray, List.set_cons_zero, List.set_cons_succ]
    refine wpAnyH_take (i := 6) (oi := { dst := some 81, op := Go.Op.binOp Go.BinOp.sub 5 (Go.Operand.tmp 80) (Go.Operand.const (Go.Value.int Go.IntKind.u8 48)) 5, type := 5, pos := "ref.go:76", after := #[{ on := 5, ground := Go.Ground.data }], guard := none }) (v := ?_) rfl (by kernel_rfl) (by kernel_rfl) (by kernel_rfl) (fun _ _ _ h => h) (Or.inl ⟨by rfl, ?_⟩) (by assumption) ?_
    rotate_left 1
    ·((intro w hSw; (try dsimp only at hSw); go_simp); first | done | (with_reducible rfl))
    try simp only [Act.put, List.setIfInBounds_toArray, List.set_cons_zero, List.set_cons_succ]
    refine wpAnyH_take (i := 7) (oi := { dst := some 82, op := Go.Op.convert 5 3 (Go.Operand.tmp 81), type := 3, pos := "ref.go:76", after := #[{ on := 6, ground := Go.Ground.data }], guard := none }) (v := ?_) rfl (by kernel_rfl) (by kernel_rfl) (by kernel_rfl) (fun _ _ _ h => h) (Or.inl ⟨by rfl, ?_⟩) (by assumption) ?_
    rotate_left 1
    ·((intro w hSw; (try dsimp only at hSw); go_simp); first | done | (with_reducible rfl))
    try simp only [Act.put, List.setIfInBounds_toArray, List.set_cons_zero, List.set_cons_succ]
    refine wpAnyH_ready (rs := [1]) (by kernel_rfl) (by simp) ?_
    refine AllReadyH.cons (o := { dst := some 76, op := Go.Op.load 3 (Go.Operand.tmp 75), type := 3, pos := "ref.go:76", after := #[{ on := 0, ground := Go.Ground.data }], guard := none }) rfl (fun K hK => ?_) AllReadyH.nil
    go_simp
    refine hK.out _ _ ?_ (fun hH1 => ?_)
    ·first | ((try dsimp only); trivial) | (dsimp only)
    clear hK K hH0
    try simp only [Act.put, List.setIfInBounds_toArray, List.set_cons_zero, List.set_cons_succ]
    refine wpAnyH_take (i := 2) (oi := { dst := some 77, op := Go.Op.binOp Go.BinOp.mul 3 (Go.Operand.const (Go.Value.int Go.IntKind.i64 10)) (Go.Operand.tmp 76) 3, type := 3, pos := "ref.go:76", after := #[{ on := 1, ground := Go.Ground.data }], guard := none }) (v := ?_) rfl (by kernel_rfl) (by kernel_rfl) (by kernel_rfl) (fun _ _ _ h => h) (Or.inl ⟨by rfl, ?_⟩) (by assumption) ?_
    rotate_left 1
    ·((intro w hSw; (try dsimp only at hSw); go_simp); first | done | (with_reducible rfl))
    try simp only [Act.put, List.setIfInBounds_toArray, List.set_cons_zero, List.set_cons_succ]
    refine wpAnyH_take (i := 8) (oi := { dst := some 83, op := Go.Op.binOp Go.BinOp.add 3 (Go.Operand.tmp 77) (Go.Operand.tmp 82) 3, type := 3, pos := "ref.go:76", after := #[{ on := 2, ground := Go.Ground.data }, { on := 7, ground := Go.Ground.data }], guard := none }) (v := ?_) rfl (by kernel_rfl) (by kernel_rfl) (by kernel_rfl) (fun _ _ _ h => h) (Or.inl ⟨by rfl, ?_⟩) (by assumption) ?_
    rotate_left 1
    ·((intro w hSw; (try dsimp only at hSw); go_simp); first | done | (with_reducible rfl))
    try simp only [Act.put, List.setIfInBounds_toArray, List.set_cons_zero, List.set_cons_succ]
    refine wpAnyH_take (i := 9) (oi := { dst := some 84, op := Go.Op.fieldAddr 75 (Go.Operand.tmp 7) 2, type := 0, pos := "ref.go:76", after := #[{ on := 0, ground := Go.Ground.phase }, { on := 1, ground := Go.Ground.phase }, { on := 2, ground := Go.Ground.phase }, { on := 3, ground := Go.Ground.phase }, { on := 4, ground := Go.Ground.phase }, { on := 5, ground := Go.Ground.phase }, { on := 6, ground := Go.Ground.phase }, { on := 7, ground := Go.Ground.phase }, { on := 8, ground := Go.Ground.phase }], guard := none }) (v := ?_) rfl (by kernel_rfl) (by kernel_rfl) (by kernel_rfl) (fun _ _ _ h => h) (Or.inl ⟨by rfl, ?_⟩) (by assumption) ?_
    rotate_left 1
    ·((intro w hSw; (try dsimp only at hSw); go_simp); first | done | (with_reducible rfl))
    try simp only [Act.put, List.setIfInBounds_toArray, List.set_cons_zero, List.set_cons_succ]
    refine wpAnyH_ready (rs := [10]) (by kernel_rfl) (by simp) ?_
    refine AllReadyH.cons (o := { dst := none, op := Go.Op.store 3 (Go.Operand.tmp 84) (Go.Operand.tmp 83), type := 0, pos := "ref.go:76", after := #[{ on := 9, ground := Go.Ground.data }, { on := 8, ground := Go.Ground.data }, { on := 0, ground := Go.Ground.phase }, { on := 1, ground := Go.Ground.phase }, { on := 2, ground := Go.Ground.phase }, { on := 3, ground := Go.Ground.phase }, { on := 4, ground := Go.Ground.phase }, { on := 5, ground := Go.Ground.phase }, { on := 6, ground := Go.Ground.phase }, { on := 7, ground := Go.Ground.phase }, { on := 8, ground := Go.Ground.phase }], guard := none }) rfl (fun K hK => ?_) AllReadyH.nil
    go_simp
    refine hK.out _ _ ?_ (fun hH2 => ?_)
    ·first | ((try dsimp only); trivial) | (dsimp only)
    clear hK K hH1
    try simp only [Act.put, List.setIfInBounds_toArray, List.set_cons_zero, List.set_cons_succ]
    refine wpAnyH_done (by kernel_rfl) ?_ _
    obtain ⟨e1, e2, e3⟩ := num_next s a i k hi1 hlt hk2 h13 HAL.out
    have hval := num_val q s[i] e3 (by rw [← HQ.out]; exact e2)
    rw [← HQ.out] at hval
    rw [HQ.out] at hval e1
    rw [hval]
    have HM2 := Aside0.mk (show NX w _ 2 a ((numOf ((s.data.toList.drop a).take (i + 1 - a)) : Nat) : Int) ⟨#[]⟩ from by rw [e1]; exact (HM.out.put 2 (.int .i64 ((10 * q + (s[i].toNat - 48) : Nat) : Int)) 2 a ((10 * q + (s[i].toNat - 48) : Nat) : Int) ⟨#[]⟩ rfl).below (below_drew (Below.refl _ _)))
    clear hval e1 e2 ht2 hu2
    go_wp2
    go_roundw
    case rel => exact ⟨i + 1, by go_num, by omega, by omega, HM2⟩
    case measure => simp [intOf]; omega
   ·obtain rfl : i = k := by omega
    have HX4 := Aside0.mk (HM.out.put 3 (.string (s.extract a i)) 2 a ((numOf ((s.data.toList.drop a).take (i - a)) : Nat) : Int) (s.extract a i) rfl)
    have ht0 := blk_cell HM.out.tok 0
    have hu0 := blk_frozen HM.out.tok 0
    have ht1 := blk_cell HM.out.tok 1
    have hu1 := blk_frozen HM.out.tok 1
    have ht2 := blk_cell HM.out.tok 2
    have hu2 := blk_frozen HM.out.tok 2
    have ht3 := blk_cell HM.out.tok 3
    have hu3 := blk_frozen HM.out.tok 3
    have hr0 := blk_cell HM.out.res 0
    have hf0 := blk_frozen HM.out.res 0
    have hr1 := blk_cell HM.out.res 1
    have hf1 := blk_frozen HM.out.res 1
    have hr2 := blk_cell HM.out.res 2
    have hf2 := blk_frozen HM.out.res 2
    have hr3 := blk_cell HM.out.res 3
    have hf3 := blk_frozen HM.out.res 3
    go_wp2
    refine bodyPost_ret (results_ct rfl _ _ w.heap.size 75 (tok4 2 a ((numOf ((s.data.toList.drop a).take (i - a)) : Nat) : Int) (s.extract a i)) (0, 0) _ rfl (HX4.out.fin 2 a ((numOf ((s.data.toList.drop a).take (i - a)) : Nat) : Int) (s.extract a i)).1 Tryz.underlying75 rfl (by kernel_rfl)) rfl ?_
    exact ⟨by rw [HRk.out, if_neg HBD.out]; rfl, (HX4.out.fin 2 a ((numOf ((s.data.toList.drop a).take (i - a)) : Nat) : Int) (s.extract a i)).2⟩
set_option maxHeartbeats 8000000 in
set_option maxRecDepth 100000 in
theorem rnext_text (s : ByteArray) (hs : s.size ≤ 20000) (a : Nat) (ha : a < s.size) (hl : isLetter s[a] = false) (hg : isDigit s[a] = false) (h34 : s[a] = 34) (w : World) :
  Calls Tryz.prog 82 #[.string s, .int .i64 a] w (RNextPost w (res5 a (token (s.data.toList.drop a)))) := by
 have HR := Aside0.mk (res_text s a ha h34)
 have HL := Aside0.mk hl
 have HDG := Aside0.mk hg
 have c34 : (((s[a].toNat : Nat) : Int) == 34) = true := byte_is 34 h34
 clear hl hg h34
 go_enter Tryz.func82, Tryz.ntmps82
 go_wp2_with fail
 refine (customhouseref07_letter.calls _ false _ (by rw [letter_f, HL.out])).mono ?_
 rintro e w1 ⟨rfl, hd⟩
 have HX00 := Aside0.mk ((NX.start w a).below hd.below)
 clear hd
 go_wp2_with fail
 refine (customhouseref07_digit.calls _ false _ (by rw [digit_f, HDG.out])).mono ?_
 rintro e w1 ⟨rfl, hd⟩
 have HX0 := Aside0.mk (HX00.out.below hd.below)
 clear hd
 go_upto_block 6 with fail
 go_cut [6] (fun v6 wx => ∃ k : Nat, v6 = .int .i64 (k : Int) ∧ a + 1 ≤ k ∧ k ≤ s.size ∧ Aside0 (endOf inText s (a + 1) = k) ∧ Aside0 (NX w wx 0 a 0 ⟨#[]⟩))
 case first =>
  clear c34
  go_wp2_with fail
  go_loopw [6] (fun v6 wr => ∃ k : Nat, v6 = .int .i64 (k : Int) ∧ a + 1 ≤ k ∧ k ≤ s.size ∧ Aside0 (∀ j (h1 : a + 1 ≤ j) (h2 : j < k) (h3 : j < s.size), inText s[j] = true) ∧ Aside0 (NX w wr 0 a 0 ⟨#[]⟩)) (fun v _ => s.size - (intOf v).toNat)
  case atStart => exact ⟨a + 1, rfl, Nat.le_refl _, by omega, ⟨fun j h1 h2 => absurd h2 (by omega)⟩, ⟨HX0.out⟩⟩
  case round =>
   obtain ⟨k, rfl, hk1, hk2, HN, HX⟩ := hrel
   by_cases hlt : k < s.size
   ·by_cases h34 : s[k] = 34
    ·have HE := Aside0.mk (endOf_eq hk1 hk2 (fun j hj hl => HN.out j hj hl (by omega)) (fun _ => by unfold inText; rw [h34]; rfl))
     have c34 : (((s[k].toNat : Nat) : Int) == 34) = true := byte_is 34 h34
     have c34n : (((s[k].toNat : Nat) : Int) != 34) = false := by rw [bne, c34]; rfl
     clear h34
     go_wp2_with fail
     go_meet
     exact ⟨k, rfl, hk1, hk2, HE, HX⟩
    ·by_cases h10 : s[k] = 10
     ·have HE := Aside0.mk (endOf_eq hk1 hk2 (fun j hj hl => HN.out j hj hl (by omega)) (fun _ => by unfold inText; rw [h10]; rfl))
      have c34 : (((s[k].toNat : Nat) : Int) == 34) = false := byte_no 34 h34
      have c34n : (((s[k].toNat : Nat) : Int) != 34) = true := by rw [bne, c34]; rfl
      have c10 : (((s[k].toNat : Nat) : Int) == 10) = true := byte_is 10 h10
      have c10n : (((s[k].toNat : Nat) : Int) != 10) = false := by rw [bne, c10]; rfl
      clear h34 h10
      go_wp2_with fail
      go_meet
      exact ⟨k, rfl, hk1, hk2, HE, HX⟩
     ·have HV := Aside0.mk (show inText s[k] = true by unfold inText; simp [h34, h10])
      have c34 : (((s[k].toNat : Nat) : Int) == 34) = false := byte_no 34 h34
      have c34n : (((s[k].toNat : Nat) : Int) != 34) = true := by rw [bne, c34]; rfl
      have c10 : (((s[k].toNat : Nat) : Int) == 10) = false := byte_no 10 h10
      have c10n : (((s[k].toNat : Nat) : Int) != 10) = true := by rw [bne, c10]; rfl
      clear h34 h10
      go_wp2
      go_roundw
      case rel => exact ⟨k + 1, by go_num, by omega, by omega, ⟨fun j h1 h2 h3 => by
       by_cases e : j = k
       ·subst e; exact HV.out
       ·exact HN.out j h1 (by omega) h3⟩, HX⟩
      case measure => simp [intOf]; omega
   ·obtain rfl : k = s.size := by omega
    have HE := Aside0.mk (endOf_eq hk1 (Nat.le_refl _) (fun j hj hl => HN.out j hj hl hl) (fun hl => absurd hl (by omega)))
    go_wp2_with fail
    go_meet
    exact ⟨s.size, rfl, hk1, Nat.le_refl _, HE, HX⟩
 obtain ⟨k, rfl, hk1, hk2, HE, HX⟩ := hcut
 have HRk := Aside0.mk (HR.out _ HE.out)
 clear HE c34
 have hr0 := blk_cell HX.out.res 0
 have hf0 := blk_frozen HX.out.res 0
 have hr1 := blk_cell HX.out.res 1
 have hf1 := blk_frozen HX.out.res 1
 have hr2 := blk_cell HX.out.res 2
 have hf2 := blk_frozen HX.out.res 2
 have hr3 := blk_cell HX.out.res 3
 have hf3 := blk_frozen HX.out.res 3
 by_cases hlt : k < s.size
 ·by_cases h10 : s[k] = 10
  ·have HQ := Aside0.mk (HRk.out.trans ((dif_pos hlt).trans (if_pos h10)))
   have c10 : (((s[k].toNat : Nat) : Int) == 10) = true := byte_is 10 h10
   have c10n : (((s[k].toNat : Nat) : Int) != 10) = false := by rw [bne, c10]; rfl
   clear h10 HRk
   go_wp2
   refine bodyPost_ret (results_ct rfl _ _ w.heap.size 75 (tok4 0 0 0 ⟨#[]⟩) (0, 0) _ rfl (HX.out.fin 0 0 0 ⟨#[]⟩).1 Tryz.underlying75 rfl (by kernel_rfl)) rfl ?_
   exact ⟨by rw [HQ.out]; rfl, (HX.out.fin 0 0 0 ⟨#[]⟩).2⟩
  ·have HQ := Aside0.mk (HRk.out.trans ((dif_pos hlt).trans (if_neg h10)))
   have c10 : (((s[k].toNat : Nat) : Int) == 10) = false := byte_no 10 h10
   have c10n : (((s[k].toNat : Nat) : Int) != 10) = true := by rw [bne, c10]; rfl
   clear h10 HRk
   by_cases h4 : k - a - 1 > 400
   ·have b4 : (400 : Int) < (k : Int) - (a : Int) - 1 := by omega
    go_wp2
    refine bodyPost_ret (results_ct rfl _ _ w.heap.size 75 (tok4 0 0 0 ⟨#[]⟩) (0, 0) _ rfl (HX.out.fin 0 0 0 ⟨#[]⟩).1 Tryz.underlying75 rfl (by kernel_rfl)) rfl ?_
    exact ⟨by rw [HQ.out, if_pos h4]; rfl, (HX.out.fin 0 0 0 ⟨#[]⟩).2⟩
   ·have b4 : ¬ (400 : Int) < (k : Int) - (a : Int) - 1 := by omega
    go_wp2
    refine bodyPost_ret (results_ct rfl _ _ w.heap.size 75 (tok4 3 a 0 (s.extract (a + 1) k)) (0, 0) _ rfl (HX.out.fin 3 a 0 (s.extract (a + 1) k)).1 Tryz.underlying75 rfl (by kernel_rfl)) rfl ?_
    exact ⟨by rw [HQ.out, if_neg h4]; rfl, (HX.out.fin 3 a 0 (s.extract (a + 1) k)).2⟩
 ·have HQ := Aside0.mk (HRk.out.trans (dif_neg hlt))
  go_wp2
  refine bodyPost_ret (results_ct rfl _ _ w.heap.size 75 (tok4 0 0 0 ⟨#[]⟩) (0, 0) _ rfl (HX.out.fin 0 0 0 ⟨#[]⟩).1 Tryz.underlying75 rfl (by kernel_rfl)) rfl ?_
  exact ⟨by rw [HQ.out]; rfl, (HX.out.fin 0 0 0 ⟨#[]⟩).2⟩
set_option maxHeartbeats 8000000 in
set_option maxRecDepth 100000 in
theorem rnext_symbol (s : ByteArray) (hs : s.size ≤ 20000) (a : Nat) (ha : a < s.size) (hl : isLetter s[a] = false) (hg : isDigit s[a] = false) (h34 : ¬ s[a] = 34) (w : World) :
  Calls Tryz.prog 82 #[.string s, .int .i64 a] w (RNextPost w (res5 a (token (s.data.toList.drop a)))) := by
 have HR := Aside0.mk (res_symbol s a ha hl hg h34)
 have HL := Aside0.mk hl
 have HDG := Aside0.mk hg
 have c34 : (((s[a].toNat : Nat) : Int) == 34) = false := byte_no 34 h34
 obtain ⟨kc, hkc⟩ := (has_cmp s[a]).run
 obtain ⟨ks, hks⟩ := (has_sym s[a]).run
 have HKC := Aside0.mk hkc
 have HKS := Aside0.mk hks
 clear hkc hks
 clear hl hg h34
 go_enter Tryz.func82, Tryz.ntmps82
 go_wp2_with fail
 refine (customhouseref07_letter.calls _ false _ (by rw [letter_f, HL.out])).mono ?_
 rintro e w1 ⟨rfl, hd⟩
 have HX00 := Aside0.mk ((NX.start w a).below hd.below)
 clear hd
 go_wp2_with fail
 refine (customhouseref07_digit.calls _ false _ (by rw [digit_f, HDG.out])).mono ?_
 rintro e w1 ⟨rfl, hd⟩
 have HX0 := Aside0.mk (HX00.out.below hd.below)
 clear hd
 have ht0 := blk_cell HX0.out.tok 0
 have hu0 := blk_frozen HX0.out.tok 0
 have HX3 := Aside0.mk (HX0.out.put 0 (.int .i64 4) 4 a 0 ⟨#[]⟩ rfl)
 go_upto_region 29 with fail
 go_cut [143] (fun v wx => v = .bool (decide ((s[a] == 33 || s[a] == 60 || s[a] == 62) = true ∧ ∃ h : a + 1 < s.size, s[a + 1] = 61)) ∧ Aside0 (NX w wx 4 a 0 ⟨#[]⟩))
 case first =>
  go_wp2_with fail
  refine (customhouseref07_has.calls kc _ _ _ _ HKC.out).mono ?_
  rintro e w2 ⟨rfl, hd⟩
  have HX4 := Aside0.mk (HX3.out.below hd.below)
  clear hd
  cases hc : (s[a] == 33 || s[a] == 60 || s[a] == 62)
  ·have HC := Aside0.mk hc
   clear hc
   go_wp2_with fail
   go_meet
   exact ⟨by rw [decide_eq_false (fun hh => by have := hh.1; rw [HC.out] at this; cases this)], HX4⟩
  ·have HC := Aside0.mk hc
   clear hc
   by_cases hlt : a + 1 < s.size
   ·by_cases h61 : s[a + 1] = 61
    ·have H61 := Aside0.mk h61
     have c61 : (((s[a + 1].toNat : Nat) : Int) == 61) = true := byte_is 61 h61
     clear h61
     go_wp2_with fail
     go_meet
     exact ⟨by rw [decide_eq_true ⟨HC.out, hlt, H61.out⟩], HX4⟩
    ·have H61 := Aside0.mk h61
     have c61 : (((s[a + 1].toNat : Nat) : Int) == 61) = false := byte_no 61 h61
     clear h61
     go_wp2_with fail
     go_meet
     exact ⟨by rw [decide_eq_false (fun hh => H61.out hh.2.2)], HX4⟩
   ·go_wp2_with fail
    go_meet
    exact ⟨by rw [decide_eq_false (fun hh => hlt hh.2.1)], HX4⟩
 obtain ⟨rfl, HX⟩ := hcut
 clear HX3 ht0 hu0 HKC
 by_cases hcd : ((s[a] == 33 || s[a] == 60 || s[a] == 62) = true ∧ ∃ h : a + 1 < s.size, s[a + 1] = 61)
 ·have eb : decide ((s[a] == 33 || s[a] == 60 || s[a] == 62) = true ∧ ∃ h : a + 1 < s.size, s[a + 1] = 61) = true := decide_eq_true hcd
  have HQ := Aside0.mk (HR.out.trans (if_pos hcd))
  have hlt : a + 1 < s.size := hcd.2.1
  clear hcd HR
  rw [eb]
  clear eb
  have HX5 := Aside0.mk (HX.out.put 3 (.string (s.extract a (a + 2))) 4 a 0 (s.extract a (a + 2)) rfl)
  have ht0 := blk_cell HX.out.tok 0
  have hu0 := blk_frozen HX.out.tok 0
  have ht1 := blk_cell HX.out.tok 1
  have hu1 := blk_frozen HX.out.tok 1
  have ht2 := blk_cell HX.out.tok 2
  have hu2 := blk_frozen HX.out.tok 2
  have ht3 := blk_cell HX.out.tok 3
  have hu3 := blk_frozen HX.out.tok 3
  have hr0 := blk_cell HX.out.res 0
  have hf0 := blk_frozen HX.out.res 0
  have hr1 := blk_cell HX.out.res 1
  have hf1 := blk_frozen HX.out.res 1
  have hr2 := blk_cell HX.out.res 2
  have hf2 := blk_frozen HX.out.res 2
  have hr3 := blk_cell HX.out.res 3
  have hf3 := blk_frozen HX.out.res 3
  go_wp2
  refine bodyPost_ret (results_ct rfl _ _ w.heap.size 75 (tok4 4 a 0 (s.extract a (a + 2))) (0, 0) _ rfl (HX5.out.fin 4 a 0 (s.extract a (a + 2))).1 Tryz.underlying75 rfl (by kernel_rfl)) rfl ?_
  exact ⟨by rw [HQ.out]; rfl, (HX5.out.fin 4 a 0 (s.extract a (a + 2))).2⟩
 ·have eb : decide ((s[a] == 33 || s[a] == 60 || s[a] == 62) = true ∧ ∃ h : a + 1 < s.size, s[a + 1] = 61) = false := decide_eq_false hcd
  have HQ := Aside0.mk (HR.out.trans (if_neg hcd))
  clear hcd HR
  rw [eb]
  clear eb
  go_wp2_with fail
  refine (customhouseref07_has.calls ks _ _ _ _ HKS.out).mono ?_
  rintro e w2 ⟨rfl, hd⟩
  have HX6 := Aside0.mk (HX.out.below hd.below)
  clear hd
  cases hc : (s[a] == 60 || s[a] == 62 || isSym s[a])
  ·have HQ2 := Aside0.mk (HQ.out.trans (if_neg (by rw [hc]; decide)))
   clear hc HQ
   have ht0 := blk_cell HX6.out.tok 0
   have hu0 := blk_frozen HX6.out.tok 0
   have ht1 := blk_cell HX6.out.tok 1
   have hu1 := blk_frozen HX6.out.tok 1
   have ht2 := blk_cell HX6.out.tok 2
   have hu2 := blk_frozen HX6.out.tok 2
   have ht3 := blk_cell HX6.out.tok 3
   have hu3 := blk_frozen HX6.out.tok 3
   have hr0 := blk_cell HX6.out.res 0
   have hf0 := blk_frozen HX6.out.res 0
   have hr1 := blk_cell HX6.out.res 1
   have hf1 := blk_frozen HX6.out.res 1
   have hr2 := blk_cell HX6.out.res 2
   have hf2 := blk_frozen HX6.out.res 2
   have hr3 := blk_cell HX6.out.res 3
   have hf3 := blk_frozen HX6.out.res 3
   go_wp2
   refine bodyPost_ret (results_ct rfl _ _ w.heap.size 75 (tok4 0 0 0 ⟨#[]⟩) (0, 0) _ rfl (HX6.out.fin 0 0 0 ⟨#[]⟩).1 Tryz.underlying75 rfl (by kernel_rfl)) rfl ?_
   exact ⟨by rw [HQ2.out]; rfl, (HX6.out.fin 0 0 0 ⟨#[]⟩).2⟩
  ·have HQ2 := Aside0.mk (HQ.out.trans (if_pos hc))
   clear hc HQ
   have HX7 := Aside0.mk (HX6.out.put 3 (.string (s.extract a (a + 1))) 4 a 0 (s.extract a (a + 1)) rfl)
   have ht0 := blk_cell HX6.out.tok 0
   have hu0 := blk_frozen HX6.out.tok 0
   have ht1 := blk_cell HX6.out.tok 1
   have hu1 := blk_frozen HX6.out.tok 1
   have ht2 := blk_cell HX6.out.tok 2
   have hu2 := blk_frozen HX6.out.tok 2
   have ht3 := blk_cell HX6.out.tok 3
   have hu3 := blk_frozen HX6.out.tok 3
   have hr0 := blk_cell HX6.out.res 0
   have hf0 := blk_frozen HX6.out.res 0
   have hr1 := blk_cell HX6.out.res 1
   have hf1 := blk_frozen HX6.out.res 1
   have hr2 := blk_cell HX6.out.res 2
   have hf2 := blk_frozen HX6.out.res 2
   have hr3 := blk_cell HX6.out.res 3
   have hf3 := blk_frozen HX6.out.res 3
   go_wp2
   refine bodyPost_ret (results_ct rfl _ _ w.heap.size 75 (tok4 4 a 0 (s.extract a (a + 1))) (0, 0) _ rfl (HX7.out.fin 4 a 0 (s.extract a (a + 1))).1 Tryz.underlying75 rfl (by kernel_rfl)) rfl ?_
   exact ⟨by rw [HQ2.out]; rfl, (HX7.out.fin 4 a 0 (s.extract a (a + 1))).2⟩
theorem rnext_calls (s : ByteArray) (hs : s.size ≤ 20000) (a : Nat) (ha : a < s.size) (w : World) :
  Calls Tryz.prog 82 #[.string s, .int .i64 a] w (RNextPost w (res5 a (token (s.data.toList.drop a)))) := by
 cases hl : isLetter s[a]
 ·cases hg : isDigit s[a]
  ·by_cases h34 : s[a] = 34
   ·exact rnext_text s hs a ha hl hg h34 w
   ·exact rnext_symbol s hs a ha hl hg h34 w
  ·exact rnext_number s hs a ha hl hg w
 ·exact rnext_name s hs a ha hl w
end Go.Proofs.YtkgmempifggajaaGreatDoor.P
/- The reference's Lex computes what the program's does. -/
namespace Go.Proofs.YtkgmempifggajaaGreatDoor.P
open Go.RowKit Go.Proofs.YtkgmempifggajaaGreatDoorW.PrintWords Go.Proofs.YtkgmempifggajaaGreatDoorW.PrintLast Go.Proofs.YtkgmempifggajaaGreatDoorW.PrintMore
open Go.Proofs.YtkgmempifggajaaGreatDoor.PLawFormulaTextsAsReference
set_option linter.unusedVariables false
set_option linter.unusedSimpArgs false
set_option maxRecDepth 100000 in
theorem rwidth_calls (k a n : Int) (x : ByteArray) (wd : Nat) (h : (k = 3 ∧ wd = x.size + 2) ∨ (k ≠ 3 ∧ wd = x.size)) (hw : wd ≤ 30000) (w : World) :
  Calls Tryz.prog 83 #[.agg (tok4 k a n x)] w fun e w' => e = .returned (.int .i64 (wd : Int)) ∧ Below w.heap.size w w' := by
 have HB := Aside0.mk (below_alloc (Below.refl w.heap.size w) (.cells (tok4 k a n x) 75))
 rcases h with ⟨h1, h2⟩ | ⟨h1, h2⟩
 ·have hk : (k == 3) = true := by simp [h1]
  have hx : x.size + 2 ≤ 30000 := by omega
  have H2 := Aside0.mk h2
  clear h1 h2
  go_enter Tryz.func83, Tryz.ntmps83
  go_wp2
  go_ret
  exact ⟨by rw [H2.out]; congr 2, HB.out⟩
 ·have hk : (k == 3) = false := beq_eq_false_iff_ne.2 h1
  have H2 := Aside0.mk h2
  clear h1 h2
  go_enter Tryz.func83, Tryz.ntmps83
  go_wp2
  go_ret
  exact ⟨by rw [H2.out]; rfl, HB.out⟩
theorem token_wd {l : List UInt8} {t : Tk} (h : token l = .ok t) : ((t.kind : Int) = 3 ∧ t.width = (⟨t.text.toArray⟩ : ByteArray).size + 2) ∨ ((t.kind : Int) ≠ 3 ∧ t.width = (⟨t.text.toArray⟩ : ByteArray).size) := by
 have hz : ((⟨t.text.toArray⟩ : ByteArray).size : Nat) = t.text.length := by show t.text.toArray.size = _; simp
 rw [hz]
 unfold token at h
 split at h
 ·cases h
 ·simp only at h
  split at h
  ·split at h
   ·cases h
   ·cases h; exact .inr ⟨by simp, rfl⟩
  ·split at h
   ·split at h
    ·cases h
    ·split at h
     ·cases h; exact .inr ⟨by simp, rfl⟩
     ·split at h
      ·cases h
      ·cases h; exact .inr ⟨by simp, rfl⟩
   ·split at h
    ·split at h
     ·cases h
     ·split at h
      ·cases h
      ·split at h
       ·cases h
       ·cases h; exact .inl ⟨rfl, rfl⟩
    ·split at h
     ·cases h; exact .inr ⟨by simp, rfl⟩
     ·split at h
      ·cases h; exact .inr ⟨by simp, rfl⟩
      ·cases h
theorem rgap_run (s : ByteArray) (hs : s.size ≤ 20000) (i : Nat) (hi : i ≤ s.size) : ∃ k, customhouseref07_gap.f k s (i : Int) = some ((gapOf s i : Nat) : Int) := (gap_tells s hs _ i rfl hi).1.run
set_option maxHeartbeats 4000000 in
set_option maxRecDepth 100000 in
theorem rlex_short (s : ByteArray) (w : World) (h : s.size ≤ 20000) : Calls Tryz.prog 58 #[.string s] w (LexPost s w) := by
 have b20 : ¬ (20000 : Int) < (s.size : Int) := by omega
 have HZ := Aside0.mk h
 obtain ⟨kg, hkg⟩ := rgap_run s h 0 (Nat.zero_le _)
 have HKG := Aside0.mk hkg
 clear hkg
 go_enter Tryz.func58, Tryz.ntmps58
 go_wp2_with fail
 refine (customhouseref07_gap.calls kg s 0 _ _ HKG.out).mono ?_
 rintro e w2 ⟨rfl, hd⟩
 have HB2 := Aside0.mk (hd.below)
 clear hd HKG
 have hk := gapOf_le s 0
 have HG := Aside0.mk (gapOf_gapOf s 0 (by omega))
 have HL := Aside0.mk (lexs_gap s (s.data.toList.length + 1) 0 0 (by omega))
 obtain ⟨k0, hk0⟩ : ∃ k, gapOf s 0 = k := ⟨_, rfl⟩
 rw [hk0] at HG HL hk ⊢
 clear hk0
 go_wp2
 go_loopw [5, 6] (fun v6 v7 wr => ∃ (k : Nat) (acc : List Tok) (f : Nat), k ≤ s.size ∧ v7 = .int .i64 k ∧ acc.length ≤ 5000 ∧ s.size < f + k ∧ Aside0 (gapOf s k = k) ∧
   Aside0 (lexs (s.data.toList.length + 1) s.data.toList 0 0 = match lexs f (s.data.toList.drop k) k acc.length with | .error e => .error e | .ok r => .ok (acc ++ r)) ∧
   Aside0 (kTok.R 75 wr w.heap.size (fun _ => True) v6 acc) ∧ Aside0 (Below w.heap.size w wr)) (fun _ v7 _ => s.size - (intOf v7).toNat)
 case atStart =>
  refine ⟨k0, [], s.data.toList.length + 1, hk, rfl, by simp, by simp; omega, HG, ⟨?_⟩, ⟨Kd.R_nil _ _ _ _ _⟩, HB2⟩
  have := HL.out
  rw [List.drop_zero] at this
  rw [this, List.length_nil]
  cases lexs (s.data.toList.length + 1) (s.data.toList.drop k0) k0 0 <;> simp
 case round =>
  clear HG HL hk HB2
  obtain ⟨k, acc, f, hk, rfl, hacc, hf, HG, HL, HR, HB⟩ := hrel
  by_cases hlt : k < s.size
  ·obtain ⟨f, rfl⟩ : ∃ g, f = g + 1 := ⟨f - 1, by omega⟩
   have e : s.data.toList.length = s.size := by simp
   have HST := Aside0.mk (lexs_at s f k acc.length hlt HG.out)
   obtain ⟨A, c, rfl⟩ := Kd.R_slice HR.out
   have hzw : w.heap.size ≤ wr.heap.size := HB.out.size
   go_wp2_with fail
   refine (rnext_calls s HZ.out k hlt wr).mono ?_
   rintro e' w3 ⟨he', hb⟩
   cases ht : token (s.data.toList.drop k) with
   | error e1 =>
    have he := token_err ht
    have HX := Aside0.mk (show lex s.data.toList = ([], (e1 : Int), (k : Int)) by
     unfold lex
     rw [if_neg (by omega), HL.out, HST.out, ht])
    rw [ht] at he'
    simp only [res5, badT5] at he'
    subst he'
    clear ht e HST HL
    have hne : ((e1 : Int) == 0) = false := by simp; omega
    have hne2 : ((e1 : Int) != 0) = true := by simp; omega
    have HB3 := Aside0.mk (HB.out.trans (hb.mono HB.out.size))
    clear hb
    go_wp2
    go_ret3
    exact ⟨.slice none 0 0, by rw [HX.out]; rfl, by rw [HX.out]; exact Kd.R_nil _ _ _ _ _, below_alloc HB3.out _⟩
   | ok t =>
    have hw := token_width ht
    rw [List.length_drop, e] at hw
    have HWD := Aside0.mk (token_wd ht)
    rw [ht] at he'
    simp only [res5] at he'
    subst he'
    have HB3 := Aside0.mk (HB.out.trans (hb.mono HB.out.size))
    by_cases h5 : acc.length = 5000
    ·have HX := Aside0.mk (show lex s.data.toList = ([], 2, (k : Int)) by
      unfold lex
      rw [if_neg (by omega), HL.out, HST.out, ht]
      simp only [h5, if_true]
      rfl)
     clear ht e HST HL hb
     have hb5 : ((acc.length : Int) == 5000) = true := by simp; omega
     go_wp2
     go_ret3
     exact ⟨.slice none 0 0, by rw [HX.out]; rfl, by rw [HX.out]; exact Kd.R_nil _ _ _ _ _, below_alloc HB3.out _⟩
    ·have HL2 := Aside0.mk (show lexs (s.data.toList.length + 1) s.data.toList 0 0 = match lexs f (s.data.toList.drop (k + t.width)) (k + t.width) (acc.length + 1) with | .error e => .error e | .ok r => .ok (acc ++ tokOf t k :: r) by
      rw [HL.out, HST.out, ht]
      simp only [h5, if_false]
      cases lexs f (s.data.toList.drop (k + t.width)) (k + t.width) (acc.length + 1) <;> rfl)
     have HR3 := Aside0.mk (Kd.R_below HR.out hb)
     clear ht e HST HL hb HR HB
     have hb5 : ((acc.length : Int) == 5000) = false := by simp; omega
     have hbase : w.heap.size ≤ w3.heap.size := HB3.out.size
     have HT3 := Aside0.mk (blk_new w3 (.cells (tok4 t.kind k t.n ⟨t.text.toArray⟩) 75) rfl)
     go_upto_region 8 with fail
     obtain ⟨W4, hW4⟩ : ∃ W, w3.alloc (.cells (tok4 t.kind k t.n ⟨t.text.toArray⟩) 75) = W := ⟨_, rfl⟩
     have HB4 := Aside0.mk (show Below w.heap.size w W4 from hW4 ▸ below_alloc HB3.out _)
     have HR4 := Aside0.mk (show kTok.R 75 W4 w.heap.size (fun q => q ≠ w3.heap.size) (.slice A acc.length c) acc from hW4 ▸ Kd.R_alloc (Kd.R_mono (Kd.R_bound HR3.out) (fun q hq => by first | (have := hq.2.2.1; omega) | (have := hq.2.2; omega))) _)
     have hz4 : w3.heap.size < W4.heap.size := by rw [← hW4]; simp
     rw [hW4] at HT3 ⊢
     clear hW4 HR3 HB3
     obtain ⟨g, hg⟩ : ∃ g, w3.heap.size = g := ⟨_, rfl⟩
     rw [hg] at HT3 HR4 hz4 hbase
     simp only [hg]
     clear hg
     have ht0 := blk_cell HT3.out 0
     have ht1 := blk_cell HT3.out 1
     have ht2 := blk_cell HT3.out 2
     have ht3 := blk_cell HT3.out 3
     have hne := Aside0.mk (show (Value.slice A acc.length c).ownBlock ≠ some g from fun e => HR4.out.1 g e rfl)
     go_upto_region 13 with (at_builtin; go_loud (refine Kd.R_append kTok w.heap.size rfl _ _ 66 75 _ 40 rfl Tryz.underlying66 info_tok rfl (by decide) (by decide) (.slice A acc.length c) acc (tokOf t k) [.int .i64 t.kind, .int .i64 k, .int .i64 t.n, .string ⟨t.text.toArray⟩] (fun q => q ≠ g) (fun _ => False) rfl (by simp [Act.eval]) (k75_mkM _ _ _ (tokOf t k)) (fun _ h => h.elim) (fun q hq => by first | omega | (simp at hq; omega)) HR4.out HB4.out (by first | omega | (simp; omega)) (by omega) ?_); intro v1 w4 hR hBB hG hat)
     have HT5 := Aside0.mk (show w4.heap[g]? = some (.cells (tok4 t.kind k t.n ⟨t.text.toArray⟩) 75 (0, 0)) from (hG.block g (by first | omega | (simp; omega)) hne.out.symm).trans (by first | exact HT3.out | exact blk_alloc_old HT3.out _))
     have HB5 := Aside0.mk hBB
     have HR5 := Aside0.mk hR
     clear hBB hR hG hat HB4 HR4 HT3 ht0 ht1 ht2 ht3
     have ht0 : w4.cell? ⟨g, 0, none⟩ = some (.int .i64 t.kind) := blk_cell HT5.out 0
     have ht1 : w4.cell? ⟨g, 1, none⟩ = some (.int .i64 k) := blk_cell HT5.out 1
     have ht2 : w4.cell? ⟨g, 2, none⟩ = some (.int .i64 t.n) := blk_cell HT5.out 2
     have ht3 : w4.cell? ⟨g, 3, none⟩ = some (.string ⟨t.text.toArray⟩) := blk_cell HT5.out 3
     go_wp2_with fail
     have hwz := HZ.out
     refine (rwidth_calls t.kind k t.n ⟨t.text.toArray⟩ t.width HWD.out (by omega) _).mono ?_
     rintro e' w5 ⟨rfl, hb⟩
     replace HR5 := Aside0.mk (Kd.R_below HR5.out hb)
     replace HB5 := Aside0.mk (HB5.out.trans (hb.mono HB5.out.size))
     clear hb ht0 ht1 ht2 ht3 HT5
     obtain ⟨kn, hkn⟩ := rgap_run s HZ.out (k + t.width) (by omega)
     have hcast : ((k + t.width : Nat) : Int) = (k : Int) + (t.width : Int) := by omega
     rw [hcast] at hkn
     have HKN := Aside0.mk hkn
     clear hkn hcast
     go_wp2_with fail
     refine (customhouseref07_gap.calls kn s _ _ _ HKN.out).mono ?_
     rintro e' w6 ⟨rfl, hd⟩
     have HB6 := Aside0.mk (HB5.out.trans (hd.below.mono HB5.out.size))
     have HR6 := Aside0.mk (Kd.R_below HR5.out hd.below)
     have hge := gapOf_ge s (k + t.width) (by omega)
     have hgl := gapOf_le s (k + t.width)
     have HG5 := Aside0.mk (gapOf_gapOf s (k + t.width) (by omega))
     have HL5 := Aside0.mk (lexs_gap s f (k + t.width) (acc.length + 1) (by omega))
     clear hd HB5 HR5 HKN
     obtain ⟨k5, hk5⟩ : ∃ q, gapOf s (k + t.width) = q := ⟨_, rfl⟩
     rw [hk5] at HG5 HL5 hge hgl ⊢
     clear hk5
     go_wp2
     go_roundw
     case rel =>
      refine ⟨k5, acc ++ [tokOf t k], f, hgl, rfl, by simp; omega, by omega, HG5, ⟨?_⟩, ⟨Kd.R_mono HR6.out (fun _ _ => trivial)⟩, HB6⟩
      rw [HL2.out, HL5.out, List.length_append, List.length_singleton]
      cases lexs f (s.data.toList.drop k5) k5 (acc.length + 1) <;> simp
     case measure => simp [intOf]; omega
  ·obtain rfl : k = s.size := by omega
   obtain ⟨A, c, rfl⟩ := Kd.R_slice HR.out
   have HX := Aside0.mk (show lex s.data.toList = (acc, 0, 0) by
    have e : s.data.toList.length = s.size := by simp
    unfold lex
    rw [if_neg (by omega), HL.out, lexs_end s f s.size acc.length (Nat.le_refl _)]
    simp)
   go_wp2
   go_ret3
   exact ⟨_, by rw [HX.out]; rfl, by rw [HX.out]; exact HR.out, HB.out⟩
set_option maxRecDepth 100000 in
theorem rlex_long (s : ByteArray) (w : World) (h : (20000 : Int) < s.size) : Calls Tryz.prog 58 #[.string s] w (LexPost s w) := by
 have e : s.data.toList.length = s.size := by simp
 have HL := Aside0.mk (show lex s.data.toList = ([], 2, -1) by unfold lex; rw [if_pos (by omega)])
 clear e
 go_enter Tryz.func58, Tryz.ntmps58
 go_wp2
 go_ret3
 refine ⟨.slice none 0 0, by rw [HL.out]; rfl, by rw [HL.out]; exact Kd.R_nil _ _ _ _ _, Below.refl _ _⟩
theorem rlex_calls (s : ByteArray) (w : World) : Calls Tryz.prog 58 #[.string s] w (LexPost s w) := by
 by_cases h : (20000 : Int) < s.size
 ·exact rlex_long s w h
 ·exact rlex_short s w (by omega)
end Go.Proofs.YtkgmempifggajaaGreatDoor.P
