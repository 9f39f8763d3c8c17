/- What the statement's proof builds on: RoundB, RoundC, TextE. -/
import Derived.Test.YtkgmempifggajaaGreatDoorGF12
import Derived.Test.YtkgmempifggajaaGreatDoorGF15
import Derived.ArgAppend
import Derived.Below
import Derived.BigQuiet
import Derived.Carry
import Derived.Deep.AppendLies
import Derived.Deep.CutBlock
import Derived.Deep.DeepCutAuto
import Derived.Deep.Draws
import Derived.Deep.LoopGhost
import Derived.Deep.OwnRows
import Derived.Deep.QuietTactic
import Derived.Deep.RegionHeld3
import Derived.Great.BuildSlice
import Derived.KernelRfl
import Derived.Laws.BitsLemmas
import Derived.Laws.BytesArg
import Derived.Laws.EntriesVeiled
import Derived.Laws.IdiomCopy
import Derived.Laws.MakeOwn
import Derived.Laws.OwnMore
import Derived.Laws.Rows
import Derived.Laws.Runes
import Derived.Laws.Slices
import Derived.Lib.AppendStr
import Derived.Lib.ConvBytes
import Derived.Lib.SmallJoins
import Derived.Maps.AppendAt
import Derived.Maps.OwnSet
import Derived.OneCell
import Derived.OrdersHeld
import Derived.OwnWalk
import Derived.RowKit
import Derived.RowKit3
import Derived.Scope
import Derived.Shelf.LaysC
import Derived.Shelf.LaysM
import Derived.Shelf.Slices.Turned
import Derived.Shelf.Small.Strs
import Derived.Shelf.Small.Utf8
import Derived.Shelf.Strconv.Atoi
import Derived.Shelf.Strconv.AtoiAll
import Derived.Shelf.Strconv.AtoiErr
import Derived.Shelf.Strconv.AtoiErrFast
import Derived.Shelf.Strconv.AtoiFail
import Derived.Shelf.Strconv.AtoiInnerAll
import Derived.Shelf.Strconv.AtoiLong
import Derived.Shelf.Strconv.Clone
import Derived.Shelf.Strconv.ErrVar
import Derived.Shelf.Strconv.ErrVarAll
import Derived.Shelf.Strconv.Itoa0
import Derived.Shelf.Strconv.Itoa1
import Derived.Shelf.Strconv.Itoa2
import Derived.Shelf.Strconv.Itoa3
import Derived.Shelf.Strconv.Lower
import Derived.Shelf.Strconv.ParseInt10
import Derived.Shelf.Strconv.ParseIntEmpty
import Derived.Shelf.Strconv.ParseUint10
import Derived.Shelf.Strconv.ParseUint10Any
import Derived.Shelf.Strconv.ParseUint10Empty
import Derived.Shelf.Strconv.RangeError
import Derived.Shelf.Strconv.SyntaxError
import Derived.Shelf.Strconv.ToError
import Derived.Shelf.Strconv.ToErrorRange
import Derived.Shelf.Strings.AsciiSet
import Derived.Shelf.Strings.Builder1
import Derived.Shelf.Strings.Builder2
import Derived.Shelf.Strings.BuilderF
import Derived.Shelf.Strings.BuilderK
import Derived.Shelf.Strings.IndexAny
import Derived.Shelf.Strings.IndexAnyAll
import Derived.Shelf.Strings.OnBuilder
import Derived.Shelf.Strings.Prefix
import Derived.Shelf.Strings.Runes
import Derived.Shelf.Strings.Search1
import Derived.StringKeys
import Derived.Tactics
import Derived.Test.YtkgmempifggajaaGreatDoorProg
import Derived.WalkKit
import Derived.WalkLawsBesides
import Derived.WalkSpells
import Derived.WideLaws
import Derived.Test.YtkgmempifggajaaGreatDoorGF13
import Derived.Lib.ItoaLen
/- Parse returns the formula for its canonical text. -/
namespace Go.Proofs.YtkgmempifggajaaGreatDoor.P
set_option linter.unusedVariables false
set_option linter.unusedSimpArgs false
def NoWord (w : ByteArray) (r : List Tok) : Prop := ∀ t q, r = t :: q → ¬ (t.f0 = 1 ∧ (t.f3.toList == w.toList) = true)
theorem noWord_say {w : ByteArray} {t : Tok} {q : List Tok} {k : Int} {l : List UInt8} {n : Int} (h : say t = (k, l, n)) (hne : k ≠ 1 ∨ l ≠ w.data.toList) : NoWord w (t :: q) := by
 intro u r hu
 injection hu with hu _
 subst hu
 rintro ⟨h1, h2⟩
 simp only [say, Prod.mk.injEq] at h
 rcases hne with hne | hne
 ·exact hne (by rw [← h.1, h1])
 ·rw [toList_data, toList_data] at h2
  exact hne (by rw [← h.2.1]; simpa using h2)
theorem map_cons {α β : Type} {f : α → β} {l : List α} {b : β} {bs : List β} (h : l.map f = b :: bs) : ∃ a r, l = a :: r ∧ f a = b ∧ r.map f = bs := by
 cases l with
 | nil => cases h
 | cons a r =>
  injection h with h1 h2
  exact ⟨a, r, rfl, h1, h2⟩
theorem map_app {α β : Type} {f : α → β} {l : List α} {b c : List β} (h : l.map f = b ++ c) : ∃ x y, l = x ++ y ∧ x.map f = b ∧ y.map f = c := List.map_eq_append_iff.1 h
def Reads (part : PS → Fm × PS) (L : Nat) (G : List Tok → Prop) (p : Pat) (x : Fm) : Prop :=
 ∀ (ts rest : List Tok) (a : Int), ts.map say = p → (ts ++ rest).length ≤ L → G rest → part ⟨ts ++ rest, 0, a⟩ = (x, ⟨rest, 0, a⟩)
theorem loop_reads {part : PS → Fm × PS} {L : Nat} {G : List Tok → Prop} (word : ByteArray) (hG : ∀ t r, say t = (1, word.data.toList, 0) → G (t :: r)) :
  ∀ (ks : List Fm) (ps : List Pat), ks.length = ps.length → (∀ i (h1 : i < ks.length) (h2 : i < ps.length), Reads part L G ps[i] ks[i]) →
   ∀ (ts rest : List Tok) (a : Int) (F : Nat) (acc : List Fm), ts.map say = tailP (1, word.data.toList, 0) ps → (ts ++ rest).length ≤ L → (ts ++ rest).length ≤ F → G rest → NoWord word rest →
    listLoop part word F acc ⟨ts ++ rest, 0, a⟩ = (acc ++ ks, ⟨rest, 0, a⟩) := by
 intro ks
 induction ks with
 | nil =>
  intro ps hl _ ts rest a F acc hts h1 h2 hg hn
  cases ps with
  | nil =>
   simp only [tailP, List.map_nil, List.flatten_nil, List.map_eq_nil_iff] at hts
   subst hts
   rw [List.nil_append, listLoop_stop part word F acc _ (fun t r ht => hn t r ht)]
   simp
  | cons _ _ => simp at hl
 | cons k ks ih =>
  intro ps hl hk ts rest a F acc hts h1 h2 hg hn
  cases ps with
  | nil => simp at hl
  | cons p ps =>
   have e : tailP (1, word.data.toList, 0) (p :: ps) = (1, word.data.toList, 0) :: (p ++ tailP (1, word.data.toList, 0) ps) := by simp [tailP]
   rw [e] at hts
   obtain ⟨t, r, rfl, ht, hr⟩ := map_cons hts
   obtain ⟨t1, t2, rfl, h4, h5⟩ := map_app hr
   have hsay : t.f0 = 1 ∧ t.f3.data.toList = word.data.toList := by simp only [say, Prod.mk.injEq] at ht; exact ⟨ht.1, ht.2.1⟩
   simp only [List.cons_append, List.length_cons, List.append_assoc] at h1 h2 ⊢
   obtain ⟨F, rfl⟩ : ∃ q, F = q + 1 := ⟨F - 1, by omega⟩
   rw [listLoop_go part word F acc t (t1 ++ (t2 ++ rest)) 0 a hsay.1 (by rw [toList_data, toList_data, hsay.2]; exact beq_self_eq_true _)]
   have hg2 : G (t2 ++ rest) := by
    cases ps with
    | nil =>
     simp only [tailP, List.map_nil, List.flatten_nil, List.map_eq_nil_iff] at h5
     subst h5
     exact hg
    | cons p2 ps =>
     have e2 : tailP (1, word.data.toList, 0) (p2 :: ps) = (1, word.data.toList, 0) :: (p2 ++ tailP (1, word.data.toList, 0) ps) := by simp [tailP]
     rw [e2] at h5
     obtain ⟨u, q, rfl, hu, _⟩ := map_cons h5
     exact hG u _ hu
   have hk0 := hk 0 (by simp) (by simp)
   simp only [List.getElem_cons_zero] at hk0
   have e3 := hk0 t1 (t2 ++ rest) a h4 (by omega) hg2
   rw [e3]
   simp only
   have h6 : (t2 ++ rest).length ≤ (t1 ++ (t2 ++ rest)).length := by simp
   rw [ih ps (by simpa using hl) (fun i h1 h2 => by
    have := hk (i + 1) (by simp; omega) (by simp; omega)
    simpa using this) t2 rest a F (acc ++ [k]) h5 (by omega) (by omega) hg hn]
   simp
theorem list_reads {part : PS → Fm × PS} {L : Nat} {G : List Tok → Prop} (word : ByteArray) (hG : ∀ t r, say t = (1, word.data.toList, 0) → G (t :: r)) (op : Int)
  (ks : List Fm) (ps : List Pat) (hl : ks.length = ps.length) (h2 : 2 ≤ ks.length) (hk : ∀ i (h1 : i < ks.length) (h2 : i < ps.length), Reads part L G ps[i] ks[i]) :
  Reads (listP part op word) L (fun r => G r ∧ NoWord word r) (joinP (1, word.data.toList, 0) ps) ⟨op, ⟨#[]⟩, 0, 0, ks⟩ := by
 intro ts rest a hts hL hg
 cases ks with
 | nil => simp at h2
 | cons k ks =>
  cases ps with
  | nil => simp at hl
  | cons p ps =>
   simp only [joinP] at hts
   obtain ⟨t1, t2, rfl, h4, h5⟩ := map_app hts
   have hg2 : G (t2 ++ rest) := by
    cases ps with
    | nil => simp at h2 hl; subst hl; simp at h2
    | cons p2 ps =>
     have e2 : tailP (1, word.data.toList, 0) (p2 :: ps) = (1, word.data.toList, 0) :: (p2 ++ tailP (1, word.data.toList, 0) ps) := by simp [tailP]
     rw [e2] at h5
     obtain ⟨u, q, rfl, hu, _⟩ := map_cons h5
     exact hG u _ hu
   have hk0 := hk 0 (by simp) (by simp)
   simp only [List.getElem_cons_zero] at hk0
   simp only [List.append_assoc] at hL ⊢
   have e3 := hk0 t1 (t2 ++ rest) a h4 (by simpa using hL) hg2
   have e4 := loop_reads word hG ks ps (by simpa using hl) (fun i h1 h2 => by
    have := hk (i + 1) (by simp; omega) (by simp; omega)
    simpa using this) t2 rest a (t2 ++ rest).length [k] h5 (by simp at hL ⊢; omega) (Nat.le_refl _) hg.1 hg.2
   unfold listP
   rw [e3]
   simp only
   rw [e4]
   have h1 : ¬ (([k] ++ ks).length = 1) := by simp at h2 ⊢; intro h; subst h; simp at h2
   simp only
   rw [if_neg h1]
   rfl
theorem single_reads {part : PS → Fm × PS} {L : Nat} {G : List Tok → Prop} {p : Pat} {x : Fm} (op : Int) (word : ByteArray) (h : Reads part L G p x) : Reads (listP part op word) L (fun r => G r ∧ NoWord word r) p x := by
 intro ts rest a hts hL hg
 have e := h ts rest a hts hL hg.1
 have e2 : listLoop part word rest.length [x] ⟨rest, 0, a⟩ = ([x], ⟨rest, 0, a⟩) := listLoop_stop _ _ _ _ _ (fun t r ht => hg.2 t r ht)
 unfold listP
 rw [e]
 simp only
 rw [e2]
 rfl
theorem reads_mono {part : PS → Fm × PS} {L : Nat} {G G' : List Tok → Prop} {p : Pat} {x : Fm} (h : Reads part L G p x) (hg : ∀ r, G' r → G r) : Reads part L G' p x := fun ts rest a h1 h2 h3 => h ts rest a h1 h2 (hg _ h3)
theorem empty_bytes {s : ByteArray} (h : s.size = 0) : s = ⟨#[]⟩ := by
 cases s with
 | mk a => congr; exact Array.size_eq_zero_iff.1 h
theorem formed_bare {x : Fm} (h : formedB x = true) (h3 : x.f0 ≠ 3) : x = ⟨x.f0, ⟨#[]⟩, 0, 0, x.f4⟩ := by
 unfold formedB at h
 rw [if_neg h3] at h
 simp only [Bool.and_eq_true, beq_iff_eq] at h
 obtain ⟨⟨⟨h1, h2⟩, h4⟩, _⟩ := h
 cases x
 simp only at h1 h2 h4 ⊢
 rw [empty_bytes h1, h2, h4]
theorem sym_ix (n : Int) (h0 : 1 ≤ n) (h1 : n ≤ 6) (s : ByteArray) (hs : s.data.toList = sym n) : symIx s = n := by
 unfold symIx
 rw [toList_data, hs]
 rcases (show n = 1 ∨ n = 2 ∨ n = 3 ∨ n = 4 ∨ n = 5 ∨ n = 6 by omega) with rfl | rfl | rfl | rfl | rfl | rfl <;> decide
theorem key_not {s : ByteArray} (h : isKey s = false) : s.toList ≠ lNot ∧ s.toList ≠ lTrue ∧ s.toList ≠ lFalse := by
 unfold isKey at h
 rw [List.any_eq_false] at h
 refine ⟨fun e => ?_, fun e => ?_, fun e => ?_⟩
 ·exact h ⟨#[110, 111, 116]⟩ (by simp [keyWords]) (by rw [e, toList_data]; decide)
 ·exact h ⟨#[116, 114, 117, 101]⟩ (by simp [keyWords]) (by rw [e, toList_data]; decide)
 ·exact h ⟨#[102, 97, 108, 115, 101]⟩ (by simp [keyWords]) (by rw [e, toList_data]; decide)
def AnyRest (_ : List Tok) : Prop := True
theorem close_reads (n : Int) (x : Fm) (t : Tok) (r : List Tok) (a : Int) (ht : say t = (4, [41], 0)) : closeP n (x, ⟨t :: r, 0, a⟩) = (x, ⟨r, 0, a⟩) := by
 simp only [say, Prod.mk.injEq] at ht
 rw [closeP_cons, if_neg (by rw [toList_data]; rintro (h | h); exact h ht.1; exact h ht.2.1)]
theorem paren_reads {n : Int} {f L : Nat} {p : Pat} {x : Fm} (h : Reads (eitherP (oneP n f)) L (fun r => NoWord wAnd r ∧ NoWord wOr r) p x) : Reads (oneP n (f + 1)) (L + 1) AnyRest ((4, [40], 0) :: (p ++ [(4, [41], 0)])) x := by
 intro ts rest a hts hL hg
 obtain ⟨t, r, rfl, ht, hr⟩ := map_cons hts
 obtain ⟨t1, t2, rfl, h4, h5⟩ := map_app hr
 obtain ⟨c, q, rfl, hc, hq⟩ := map_cons h5
 obtain rfl : q = [] := by simpa using hq
 have ht' : t.f0 = 4 ∧ t.f3.toList = [40] := by simp only [say, Prod.mk.injEq] at ht; exact ⟨ht.1, by rw [toList_data]; exact ht.2.1⟩
 simp only [List.cons_append, List.append_assoc, List.nil_append, List.length_cons] at hL ⊢
 rw [oneP_cons, if_neg (by rw [ht'.1]; decide), if_pos ht', h t1 (c :: rest) a h4 (by omega) ⟨noWord_say hc (.inl (by decide)), noWord_say hc (.inl (by decide))⟩]
 exact close_reads n x c rest a hc
theorem test_reads {x : Fm} (hx : formedB x = true) (h3 : x.f0 = 3) (hn : 0 ≤ x.f3 ∧ x.f3 ≤ 1000000) (n : Int) (f L : Nat) : Reads (oneP n (f + 1)) L AnyRest [(1, x.f1.data.toList, 0), (4, sym x.f2, 0), (2, Lib.itoa x.f3, x.f3)] x := by
 obtain ⟨t1, t2, t3, t4, t5⟩ := formed_test_of x hx h3
 intro ts rest a hts hL hg
 obtain ⟨u, r, rfl, hu, hr⟩ := map_cons hts
 obtain ⟨v, r, rfl, hv, hr⟩ := map_cons hr
 obtain ⟨z, r, rfl, hz, hr⟩ := map_cons hr
 obtain rfl : r = [] := by simpa using hr
 simp only [say, Prod.mk.injEq] at hu hv hz
 obtain ⟨u1, u2, u3⟩ := hu
 obtain ⟨v1, v2, v3⟩ := hv
 obtain ⟨z1, z2, z3⟩ := hz
 have hname : u.f3 = x.f1 := toList_inj (by rw [toList_data, toList_data]; exact u2)
 obtain ⟨k1, k2, k3⟩ := key_not t5
 have hne : x.f1.toList ≠ [] := by
  rw [toList_data]
  intro h0
  rw [h0] at t4
  simp [isName] at t4
 simp only [List.cons_append, List.nil_append]
 rw [oneP_cons, if_pos u1, hname, if_neg k1, if_neg k2, if_neg k3, if_neg (by rintro (h | h); exact hne h; rw [t5] at h; cases h)]
 have hs := sym_ix x.f2 t2 t3 v.f3 v2
 have eA : testA n ⟨v :: z :: rest, 0, a⟩ = ⟨z :: rest, 0, a⟩ := by
  rw [testA_cons, if_neg (by rw [hs]; rintro (h | h); exact h v1; omega)]
 rw [testP_parts, eA, takeP_cons, takeP_cons, testB_cons, if_neg (by rw [z1]; decide)]
 simp only
 rw [if_neg (by rw [z3]; omega), hs, z3]
 have hf4 : x.f4 = [] := List.length_eq_zero_iff.1 t1
 cases x
 simp only at h3 hf4 ⊢
 rw [h3, hf4]
theorem form_reads (N : Nat) : ∀ x : Fm, size x ≤ N → firstE badNode x = 0 → ∀ (n : Int) (L f : Nat), L < f →
  (x.f0 ≠ 5 → x.f0 ≠ 6 → Reads (oneP n f) L AnyRest (pats x) x) ∧
  (x.f0 ≠ 6 → Reads (listP (oneP n f) 5 wAnd) L (NoWord wAnd) (pats x) x) ∧
  Reads (eitherP (oneP n f)) L (fun r => NoWord wAnd r ∧ NoWord wOr r) (pats x) x := by
 induction N with
 | zero => intro x h; have := size_pos x; omega
 | succ N ih =>
  intro x hN hb n L f hLf
  obtain ⟨f, rfl⟩ : ∃ q, f = q + 1 := ⟨f - 1, by omega⟩
  have hs := size_eq x
  obtain ⟨b1, b2⟩ := bad_of x hb
  obtain ⟨b3, b4⟩ := bad_node_of x b1
  have kid : ∀ i (hi : i < x.f4.length), size x.f4[i] ≤ N ∧ firstE badNode x.f4[i] = 0 := fun i hi => by
   have := size_mem x.f4 i hi
   exact ⟨by omega, firstEs_mem badNode x.f4 b2 i hi⟩
  -- a kid as a part of 'and', 'not'
  have wone : ∀ i (hi : i < x.f4.length) (op : Int), op ≠ 6 → ∀ (f' L' : Nat), L' < f' → Reads (oneP n f') L' AnyRest (wrapP op x.f4[i] (pats x.f4[i])) x.f4[i] := by
   intro i hi op hop f' L' hlt
   obtain ⟨k1, k2⟩ := kid i hi
   unfold wrapP
   by_cases hw : x.f4[i].f0 = 6 ∨ (x.f4[i].f0 = 5 ∧ op ≠ 6)
   ·rw [if_pos hw]
    obtain ⟨f', rfl⟩ : ∃ q, f' = q + 1 := ⟨f' - 1, by omega⟩
    cases L' with
    | zero =>
     intro ts rest a hts hL hg
     obtain ⟨t, r, rfl, _, _⟩ := map_cons hts
     simp at hL
    | succ L' => exact paren_reads ((ih x.f4[i] k1 k2 n L' f' (by omega)).2.2)
   ·rw [if_neg hw]
    exact (ih x.f4[i] k1 k2 n L' f' hlt).1 (fun h => hw (.inr ⟨h, hop⟩)) (fun h => hw (.inl h))
  -- a kid as a part of 'or'
  have wall : ∀ i (hi : i < x.f4.length), Reads (listP (oneP n (f + 1)) 5 wAnd) L (NoWord wAnd) (wrapP 6 x.f4[i] (pats x.f4[i])) x.f4[i] := by
   intro i hi
   obtain ⟨k1, k2⟩ := kid i hi
   by_cases hw : x.f4[i].f0 = 6
   ·have h0 := wone i hi 5 (by decide) (f + 1) L hLf
    have e : wrapP 5 x.f4[i] (pats x.f4[i]) = wrapP 6 x.f4[i] (pats x.f4[i]) := by unfold wrapP; rw [if_pos (.inl hw), if_pos (.inl hw)]
    rw [e] at h0
    exact reads_mono (single_reads 5 wAnd h0) (fun r hr => ⟨trivial, hr⟩)
   ·have e : wrapP 6 x.f4[i] (pats x.f4[i]) = pats x.f4[i] := by unfold wrapP; rw [if_neg (by rintro (h | ⟨_, h⟩); exact hw h; exact h rfl)]
    rw [e]
    exact (ih x.f4[i] k1 k2 n L (f + 1) hLf).2.1 hw
  have A1 : x.f0 ≠ 5 → x.f0 ≠ 6 → Reads (oneP n (f + 1)) L AnyRest (pats x) x := by
   intro h5 h6
   by_cases h3 : x.f0 = 3
   ·have e : pats x = [(1, x.f1.data.toList, 0), (4, sym x.f2, 0), (2, Lib.itoa x.f3, x.f3)] := by rw [pats_eq, if_neg (by rw [h3]; decide), if_neg (by rw [h3]; decide), if_pos h3]
    rw [e]
    obtain ⟨n1, n2, _⟩ := b4 h3
    exact test_reads b3 h3 ⟨n1, n2⟩ n f L
   ·have hbare := formed_bare b3 h3
    rcases formed_op x b3 h3 with h | h | ⟨h, h4⟩ | ⟨h, _⟩ | ⟨h, _⟩
    ·have h0 : x.f4 = [] := by
      unfold formedB at b3
      rw [if_neg h3, if_pos (.inl h)] at b3
      simp only [Bool.and_eq_true, beq_iff_eq] at b3
      exact List.length_eq_zero_iff.1 b3.2
     rw [pats_eq, if_pos h]
     intro ts rest a hts hL hg
     obtain ⟨t, r, rfl, ht, hr⟩ := map_cons hts
     obtain rfl : r = [] := by simpa using hr
     simp only [say, Prod.mk.injEq] at ht
     simp only [List.cons_append, List.nil_append]
     rw [oneP_cons, if_pos ht.1, if_neg (by rw [toList_data, ht.2.1]; decide), if_pos (by rw [toList_data, ht.2.1]; rfl)]
     rw [hbare, h, h0]; rfl
    ·have h0 : x.f4 = [] := by
      unfold formedB at b3
      rw [if_neg h3, if_pos (.inr h)] at b3
      simp only [Bool.and_eq_true, beq_iff_eq] at b3
      exact List.length_eq_zero_iff.1 b3.2
     rw [pats_eq, if_neg (by rw [h]; decide), if_pos h]
     intro ts rest a hts hL hg
     obtain ⟨t, r, rfl, ht, hr⟩ := map_cons hts
     obtain rfl : r = [] := by simpa using hr
     simp only [say, Prod.mk.injEq] at ht
     simp only [List.cons_append, List.nil_append]
     rw [oneP_cons, if_pos ht.1, if_neg (by rw [toList_data, ht.2.1]; decide), if_neg (by rw [toList_data, ht.2.1]; decide), if_pos (by rw [toList_data, ht.2.1]; rfl)]
     rw [hbare, h, h0]; rfl
    ·obtain ⟨k, hk⟩ := List.length_eq_one_iff.1 h4
     have w0 := wone 0 (by omega) 4 (by decide)
     have e1 : (patsL x.f0 x.f4).headD [] = wrapP 4 (x.f4[0]'(by omega)) (pats (x.f4[0]'(by omega))) := by
      rw [h, List.headD_eq_head?_getD, List.head?_eq_getElem?, List.getElem?_eq_getElem (by rw [patsL_len]; omega), patsL_at 4 x.f4 0 (by omega)]
      rfl
     rw [pats_eq, if_neg (by rw [h]; decide), if_neg (by rw [h]; decide), if_neg h3, if_pos h, e1]
     intro ts rest a hts hL hg
     obtain ⟨t, r, rfl, ht, hr⟩ := map_cons hts
     simp only [say, Prod.mk.injEq] at ht
     simp only [List.cons_append, List.length_cons] at hL ⊢
     rw [oneP_cons, if_pos ht.1, if_pos (by rw [toList_data, ht.2.1]; rfl), w0 f (L - 1) (by omega) r rest a hr (by omega) trivial]
     simp only
     have hk2 : x.f4 = [x.f4[0]'(by omega)] := by
      have : x.f4[0]'(by omega) = k := by simp [hk]
      rw [this]; exact hk
     have ex : eFm 4 [x.f4[0]'(by omega)] = x := by
      unfold eFm
      rw [← hk2, ← h]
      exact hbare.symm
     rw [ex]
    ·exact absurd h h5
    ·exact absurd h h6
  have A2 : x.f0 ≠ 6 → Reads (listP (oneP n (f + 1)) 5 wAnd) L (NoWord wAnd) (pats x) x := by
   intro h6
   by_cases h5 : x.f0 = 5
   ·have h3 : x.f0 ≠ 3 := by rw [h5]; decide
    have hbare := formed_bare b3 h3
    have h2 : 2 ≤ x.f4.length := by
     rcases formed_op x b3 h3 with h | h | ⟨h, _⟩ | ⟨h, h2⟩ | ⟨h, _⟩
     ·rw [h5] at h; exact absurd h (by decide)
     ·rw [h5] at h; exact absurd h (by decide)
     ·rw [h5] at h; exact absurd h (by decide)
     ·exact h2
     ·rw [h5] at h; exact absurd h (by decide)
    have e : pats x = joinP (1, pAnd, 0) (patsL 5 x.f4) := by rw [pats_eq, if_neg (by rw [h5]; decide), if_neg (by rw [h5]; decide), if_neg h3, if_neg (by rw [h5]; decide), if_pos h5, h5]
    have hl := list_reads (part := oneP n (f + 1)) (L := L) (G := AnyRest) wAnd (fun _ _ _ => trivial) 5 x.f4 (patsL 5 x.f4) (patsL_len 5 x.f4).symm h2 (fun i h1 h2 => by
     rw [patsL_at 5 x.f4 i h1 h2]
     exact wone i h1 5 (by decide) (f + 1) L hLf)
    rw [e]
    have ex : x = ⟨5, ⟨#[]⟩, 0, 0, x.f4⟩ := by rw [← h5]; exact hbare
    rw [ex]
    exact reads_mono hl (fun r hr => ⟨trivial, hr⟩)
   ·exact reads_mono (single_reads 5 wAnd (A1 h5 h6)) (fun r hr => ⟨trivial, hr⟩)
  refine ⟨A1, A2, ?_⟩
  by_cases h6 : x.f0 = 6
  ·have h3 : x.f0 ≠ 3 := by rw [h6]; decide
   have hbare := formed_bare b3 h3
   have h2 : 2 ≤ x.f4.length := by
    rcases formed_op x b3 h3 with h | h | ⟨h, _⟩ | ⟨h, _⟩ | ⟨h, h2⟩
    ·rw [h6] at h; exact absurd h (by decide)
    ·rw [h6] at h; exact absurd h (by decide)
    ·rw [h6] at h; exact absurd h (by decide)
    ·rw [h6] at h; exact absurd h (by decide)
    ·exact h2
   have e : pats x = joinP (1, pOr, 0) (patsL 6 x.f4) := by rw [pats_eq, if_neg (by rw [h6]; decide), if_neg (by rw [h6]; decide), if_neg h3, if_neg (by rw [h6]; decide), if_neg (by rw [h6]; decide), h6]
   have hl := list_reads (part := listP (oneP n (f + 1)) 5 wAnd) (L := L) (G := NoWord wAnd) wOr (fun t r ht => noWord_say ht (.inr (by decide))) 6 x.f4 (patsL 6 x.f4) (patsL_len 6 x.f4).symm h2 (fun i h1 h2 => by
    rw [patsL_at 6 x.f4 i h1 h2]
    exact wall i h1)
   rw [e]
   have ex : x = ⟨6, ⟨#[]⟩, 0, 0, x.f4⟩ := by rw [← h6]; exact hbare
   rw [ex]
   exact hl
  ·exact single_reads 6 wOr (A2 h6)
theorem joinTail_len (sep : List UInt8) (ls : List (List UInt8)) : (Lib.joinTail sep ls).length = (ls.map (fun l => sep.length + l.length)).sum := by
 induction ls with
 | nil => rfl
 | cons a l ih =>
  have : Lib.joinTail sep (a :: l) = sep ++ a ++ Lib.joinTail sep l := by simp [Lib.joinTail]
  rw [this, List.length_append, List.length_append, ih]
  simp
theorem tailP_len (w : Int × List UInt8 × Int) (ps : List Pat) : (tailP w ps).length = (ps.map (fun l => 1 + l.length)).sum := by
 induction ps with
 | nil => rfl
 | cons a l ih =>
  have : tailP w (a :: l) = w :: (a ++ tailP w l) := by simp [tailP]
  rw [this, List.length_cons, List.length_append, ih]
  simp; omega
theorem lens_of (N : Nat) : ∀ x : Fm, size x ≤ N → firstE badNode x = 0 → (textL x).length + 10 ≤ 60 * size x ∧ (pats x).length + 3 ≤ 6 * size x := by
 induction N with
 | zero => intro x h; have := size_pos x; omega
 | succ N ih =>
  intro x hN hb
  have hs := size_eq x
  obtain ⟨b1, b2⟩ := bad_of x hb
  obtain ⟨b3, b4⟩ := bad_node_of x b1
  have part : ∀ (op : Int) (l : List Fm), sizes l ≤ N → (∀ k ∈ l, firstE badNode k = 0) → ((textsL op l).map (fun s => 5 + s.length)).sum ≤ 60 * sizes l ∧ ((patsL op l).map (fun s => 1 + s.length)).sum ≤ 6 * sizes l := by
   intro op l
   induction l with
   | nil => intro _ _; simp [textsL, patsL, sizes]
   | cons a l ihl =>
    intro hz hk
    simp only [sizes] at hz
    have ha := ih a (by omega) (hk a (by simp))
    have hl := ihl (by omega) (fun k hk' => hk k (by simp [hk']))
    have hp := size_pos a
    have hw := wrap_len op a (textL a)
    have hq : (wrapP op a (pats a)).length ≤ (pats a).length + 2 := by unfold wrapP; split <;> simp <;> omega
    simp only [textsL, patsL, List.map_cons, List.sum_cons, sizes]
    omega
  have hmem : ∀ k ∈ x.f4, firstE badNode k = 0 := fun k hk => by
   obtain ⟨i, hi, rfl⟩ := List.mem_iff_getElem.1 hk
   exact firstEs_mem badNode x.f4 b2 i hi
  have hp := part x.f0 x.f4 (by omega) hmem
  rw [textL_eq, pats_eq]
  by_cases h3 : x.f0 = 3
  ·obtain ⟨t1, t2, t3, t4, t5⟩ := formed_test_of x b3 h3
   obtain ⟨n1, n2, n3⟩ := b4 h3
   have hn : x.f1.data.toList.length ≤ 24 := by
    cases hq : x.f1.data.toList with
    | nil => simp
    | cons c r => rw [hq] at t4; simp only [isName, Bool.and_eq_true, decide_eq_true_eq] at t4; simp; omega
   have hi := Lib.itoa_length_le x.f3 (by omega) (by omega)
   have hy : (sym x.f2).length ≤ 2 := by
    rcases (show x.f2 = 1 ∨ x.f2 = 2 ∨ x.f2 = 3 ∨ x.f2 = 4 ∨ x.f2 = 5 ∨ x.f2 = 6 by omega) with h | h | h | h | h | h <;> rw [h] <;> decide
   rw [h3]
   simp only [show ¬ ((3 : Int) = 1) by decide, show ¬ ((3 : Int) = 2) by decide, if_true, if_false]
   simp only [List.length_append, List.length_cons, List.length_nil]
   omega
  ·rcases formed_op x b3 h3 with h | h | ⟨h, h4⟩ | ⟨h, h4⟩ | ⟨h, h4⟩
   ·rw [h]; simp only [if_true]; simp [tTrue]; omega
   ·rw [h]; simp only [show ¬ ((2 : Int) = 1) by decide, if_true, if_false]; simp [tFalse]; omega
   ·rw [h] at hp ⊢
    simp only [show ¬ ((4 : Int) = 1) by decide, show ¬ ((4 : Int) = 2) by decide, show ¬ ((4 : Int) = 3) by decide, if_true, if_false]
    obtain ⟨k, hk⟩ := List.length_eq_one_iff.1 h4
    rw [hk] at hp ⊢
    rw [hk] at hs
    simp only [textsL, patsL, List.headD_cons, List.map_cons, List.map_nil, List.sum_cons, List.sum_nil, sizes] at hp hs ⊢
    simp only [List.length_append, List.length_cons, tNot, List.length_nil]
    have hk1 := size_pos k
    have ha := ih k (by omega) (hmem k (by rw [hk]; simp))
    have hw := wrap_len 4 k (textL k)
    have hq : (wrapP 4 k (pats k)).length ≤ (pats k).length + 2 := by unfold wrapP; split <;> simp <;> omega
    omega
   all_goals
    rw [h] at hp ⊢
    simp only [show ¬ ((5 : Int) = 1) by decide, show ¬ ((5 : Int) = 2) by decide, show ¬ ((5 : Int) = 3) by decide, show ¬ ((5 : Int) = 4) by decide, show ¬ ((6 : Int) = 1) by decide, show ¬ ((6 : Int) = 2) by decide, show ¬ ((6 : Int) = 3) by decide, show ¬ ((6 : Int) = 4) by decide, show ¬ ((6 : Int) = 5) by decide, if_true, if_false]
    cases hx : x.f4 with
    | nil => rw [hx] at h4; simp at h4
    | cons k ks =>
     rw [hx] at hp hs
     simp only [textsL, patsL, List.map_cons, List.sum_cons, sizes] at hp hs ⊢
     rw [Lib.join_cons]
     simp only [joinP, List.length_append, joinTail_len, tailP_len]
     have hk1 := size_pos k
     have e1 : tAnd.length = 5 := rfl
     have e2 : tOr.length ≤ 5 := by decide
     have e3 : ((textsL 6 ks).map (fun l => tOr.length + l.length)).sum ≤ ((textsL 6 ks).map (fun l => 5 + l.length)).sum := by
      generalize textsL 6 ks = q
      induction q with
      | nil => simp
      | cons a q ihq => simp only [List.map_cons, List.sum_cons]; omega
     try rw [e1]
     omega
end Go.Proofs.YtkgmempifggajaaGreatDoor.P
/- What Parse returns is well-formed: it has a canonical text, for which Parse returns it. -/
namespace Go.Proofs.YtkgmempifggajaaGreatDoor.P
set_option linter.unusedVariables false
set_option linter.unusedSimpArgs false
def GoodTok (t : Tok) : Prop := (t.f0 = 1 → isName t.f3.data.toList = true) ∧ (t.f0 = 2 → 0 ≤ t.f2)
theorem lexs_good : ∀ (f : Nat) (l : List UInt8) (a c : Nat) (r : List Tok), lexs f l a c = .ok r → ∀ t ∈ r, GoodTok t := by
 intro f
 induction f with
 | zero => intro l a c r h; simp only [lexs] at h; cases h; intro t ht; cases ht
 | succ f ih =>
  intro l a c r h
  rw [lexs_succ] at h
  split at h
  ·cases h; intro t ht; cases ht
  ·rename_i hm
   split at h
   ·cases h
   ·rename_i tk htk
    split at h
    ·cases h
    ·split at h
     ·cases h
     ·rename_i r' hr'
      cases h
      intro t ht
      rcases List.mem_cons.1 ht with rfl | ht
      ·refine ⟨fun h1 => ?_, fun _ => ?_⟩
       ·have hk : tk.kind = 1 := by
         have : ((tk.kind : Nat) : Int) = 1 := h1
         omega
        cases hs : skip false l with
        | nil => rw [hs] at hm; exact absurd rfl hm
        | cons c0 r0 =>
         rw [hs] at htk
         obtain ⟨g1, g2, g3⟩ := token_name htk hk
         show isName tk.text = true
         rw [g2] at g3 ⊢
         simp only [isName, Bool.and_eq_true, decide_eq_true_eq]
         exact ⟨⟨g1, List.all_takeWhile⟩, by simp at g3; omega⟩
       ·show (0 : Int) ≤ ((tk.n : Nat) : Int); omega
      ·exact ih _ _ _ _ hr' t ht
theorem lex_good (l : List UInt8) : ∀ t ∈ (lex l).1, GoodTok t := by
 unfold lex
 split
 ·intro t ht; cases ht
 ·split
  ·intro t ht; cases ht
  ·rename_i r hr; exact lexs_good _ _ _ _ _ hr
theorem firstEs_all {g : Fm → Int} {l : List Fm} (h : ∀ k ∈ l, firstE g k = 0) : firstEs g l = 0 := by
 induction l with
 | nil => rfl
 | cons a l ih =>
  simp only [firstEs]
  rw [if_pos (h a (by simp))]
  exact ih (fun k hk => h k (by simp [hk]))
end Go.Proofs.YtkgmempifggajaaGreatDoor.P
/- formula.Text, whatever the formula. -/
namespace Go.Proofs.YtkgmempifggajaaGreatDoor.P
open Go.RowKit Go.Proofs.YtkgmempifggajaaGreatDoorW.PrintWords Go.Proofs.YtkgmempifggajaaGreatDoorW.PrintLast Go.Proofs.YtkgmempifggajaaGreatDoorW.PrintMore
set_option linter.unusedVariables false
set_option linter.unusedSimpArgs false
theorem num_bad (N : Nat) : ∀ x : Fm, size x ≤ N → firstE badNode x = 0 → firstE (numNode 1000000) x = 0 := by
 induction N with
 | zero => intro x h; have := size_pos x; omega
 | succ N ih =>
  intro x hN hb
  have hs := size_eq x
  obtain ⟨b1, b2⟩ := bad_of x hb
  obtain ⟨b3, b4⟩ := bad_node_of x b1
  rw [firstE_eq]
  have hn : numNode 1000000 x = 0 := by
   unfold numNode
   by_cases h3 : x.f0 = 3
   ·rw [if_pos (b4 h3).2.1]
   ·have e := congrArg S24.f3 (formed_bare b3 h3)
    simp only at e
    rw [if_pos (by omega)]
  rw [if_pos hn]
  refine firstEs_all (fun k hk => ?_)
  obtain ⟨i, hi, rfl⟩ := List.mem_iff_getElem.1 hk
  have := size_mem x.f4 i hi
  exact ih _ (by omega) (firstEs_mem badNode x.f4 b2 i hi)
theorem text_all (K : Int) (x : Fm) (A : Option Addr) (c : Nat) (w : World) (hC : Kd.C kFm w A x.f4.length x.f4) (hc : x.f4.length ≤ c) (hs : size x ≤ 1000000) (hlen : firstE badNode x = 0 → (textL x).length ≤ 8000000) (hT : Tab K w) (hnum : firstE badNode x = 0 → firstE (numNode K) x = 0) :
  Calls Tryz.prog 24 #[.agg #[.int .i64 x.f0, .string x.f1, .int .i64 x.f2, .int .i64 x.f3, .slice A x.f4.length c]] w fun e w' => e = .returned (.tuple #[.string (ba (textF x).1), .int .i64 (textF x).2]) ∧ Below w.heap.size w w' := by
 have HC := Aside0.mk hC
 have HS := Aside0.mk hs
 have HT := Aside0.mk hT
 have HNM := Aside0.mk hnum
 have HL := Aside0.mk hlen
 clear hC hs hT hlen hnum
 go_enter Tryz.func24, Tryz.ntmps24
 go_wp2_with fail
 refine (large_calls x A c _ (Kd.C_below HC.out (below_alloc (Below.refl _ _) _)) hc (by have := HS.out; omega)).mono ?_
 rintro e w1 ⟨rfl, hb⟩
 have hz : w.heap.size < w1.heap.size := by have := hb.size; simp at this; omega
 have HB := Aside0.mk (below_then (below_alloc (Below.refl w.heap.size w) _) (by simp) hb)
 have HBK := Aside0.mk (show w1.heap[w.heap.size]? = some (.cells #[.int .i64 x.f0, .string x.f1, .int .i64 x.f2, .int .i64 x.f3, .slice A x.f4.length c] 24 (0, 0)) by rw [hb.block _ (by simp)]; (repeat (first | (refine blk_new _ _ ?_; first | rfl | (simp; done)) | refine blk_alloc_old ?_ _ | refine blk_drew_old ?_ | refine blk_drewN_old ?_ _ | assumption)))
 clear hb
 have hc0 := blk_cell HBK.out 0
 have hc1 := blk_cell HBK.out 1
 have hc2 := blk_cell HBK.out 2
 have hc3 := blk_cell HBK.out 3
 have hc4 := blk_cell HBK.out 4
 cases hL : isLarge x
 ·go_wp2_with fail
  refine (first_bad (size x) x A c w1 (Nat.le_refl _) ⟨trivial⟩ (Kd.C_below HC.out HB.out) hc).mono ?_
  rintro e w2 ⟨rfl, hb⟩
  have HB2 := Aside0.mk (HB.out.trans (hb.mono HB.out.size))
  have HBK2 := Aside0.mk ((hb.block _ hz).trans HBK.out)
  clear hb HBK hc0 hc1 hc2 hc3 hc4
  have hc0 := blk_cell HBK2.out 0
  have hc1 := blk_cell HBK2.out 1
  have hc2 := blk_cell HBK2.out 2
  have hc3 := blk_cell HBK2.out 3
  have hc4 := blk_cell HBK2.out 4
  by_cases h0 : firstE badNode x = 0
  ·have HF := Aside0.mk (show textF x = (textL x, 0) by unfold textF; rw [if_neg (by rw [hL]; decide), if_pos h0])
   have H0 := Aside0.mk h0
   have b0 : (firstE badNode x != 0) = false := by simpa using h0
   clear h0
   go_wp2_with fail
   refine (text_calls K (size x) x A c w2 (Nat.le_refl _) H0.out (HNM.out H0.out) (HL.out H0.out) (HT.out.below HB2.out (Nat.le_refl _)) (Kd.C_below HC.out HB2.out) hc HS.out).mono ?_
   rintro e w3 ⟨rfl, hb⟩
   have HB3 := Aside0.mk (HB2.out.trans (hb.mono HB2.out.size))
   clear hb
   go_wp2
   go_ret2
   exact ⟨by rw [HF.out]; rfl, HB3.out⟩
  ·have HF := Aside0.mk (show textF x = ([], 1) by unfold textF; rw [if_neg (by rw [hL]; decide), if_neg h0])
   have b0 : (firstE badNode x != 0) = true := by simpa using h0
   clear h0
   go_wp2
   go_ret2
   exact ⟨by rw [HF.out]; rfl, HB2.out⟩
 ·have HF := Aside0.mk (show textF x = ([], 1) by unfold textF; rw [if_pos hL])
  go_wp2
  go_ret2
  exact ⟨by rw [HF.out]; rfl, HB.out⟩
theorem text_any (x : Fm) (A : Option Addr) (c : Nat) (w : World) (hC : Kd.C kFm w A x.f4.length x.f4) (hc : x.f4.length ≤ c) (hs : size x ≤ 100000) (hT : Tab 1000000 w) :
  Calls Tryz.prog 24 #[.agg #[.int .i64 x.f0, .string x.f1, .int .i64 x.f2, .int .i64 x.f3, .slice A x.f4.length c]] w fun e w' => e = .returned (.tuple #[.string (ba (textF x).1), .int .i64 (textF x).2]) ∧ Below w.heap.size w w' :=
 text_all 1000000 x A c w hC hc (by omega) (fun hb => by have := (lens_of (size x) x (Nat.le_refl _) hb).1; omega) hT (num_bad (size x) x (Nat.le_refl _))
end Go.Proofs.YtkgmempifggajaaGreatDoor.P
