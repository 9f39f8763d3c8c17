/- What the statement's proof builds on: LexC. -/
import Derived.Test.YtkgmempifggajaaGreatDoorGF5
import Derived.Test.YtkgmempifggajaaGreatDoorGF7
/- lexer's (*scanner).gap: the end of the gaps. -/
namespace Go.Proofs.YtkgmempifggajaaGreatDoor.P
open Go.RowKit Go.Proofs.YtkgmempifggajaaGreatDoorW.PrintWords Go.Proofs.YtkgmempifggajaaGreatDoorW.PrintLast Go.Proofs.YtkgmempifggajaaGreatDoorW.PrintMore
set_option linter.unusedVariables false
set_option linter.unusedSimpArgs false
theorem u8_all (p : UInt8 → Bool) (h : ((List.range 256).all fun n => p (UInt8.ofNat n)) = true) (a : UInt8) : p a = true := by
 have := List.all_eq_true.1 h a.toNat (List.mem_range.2 a.toNat_lt)
 simpa using this
theorem cls_blank (a : UInt8) : ([(1 : Int)].any fun x => (cls a : Int) == x) = isBlank a := by
 have := u8_all (fun a => ([(1 : Int)].any fun x => (cls a : Int) == x) == isBlank a) (by decide +kernel) a
 simpa using this
theorem cls_hash (a : UInt8) : cls a = 2 ↔ a = 35 := by
 have := u8_all (fun a => decide (cls a = 2) == decide (a = 35)) (by decide +kernel) a
 simpa using this
theorem cls_digit (a : UInt8) : ([(4 : Int)].any fun x => (cls a : Int) == x) = isDigit a := by
 have := u8_all (fun a => ([(4 : Int)].any fun x => (cls a : Int) == x) == isDigit a) (by decide +kernel) a
 simpa using this
theorem cls_word (a : UInt8) : ([(3 : Int), 4, 5].any fun x => (cls a : Int) == x) = isWord a := by
 have := u8_all (fun a => ([(3 : Int), 4, 5].any fun x => (cls a : Int) == x) == isWord a) (by decide +kernel) a
 simpa using this
theorem skip_blanks (l : List UInt8) : skip false (l.dropWhile isBlank) = skip false l := by
 induction l with
 | nil => rfl
 | cons a l ih =>
  by_cases h : isBlank a
  ·simp [List.dropWhile_cons, h, ih, skip]
  ·simp [List.dropWhile_cons, h]
theorem skip_line (l : List UInt8) : skip true l = if Lib.indexByte l 10 = -1 then [] else skip false (l.drop (Lib.indexByte l 10).toNat) := by
 induction l with
 | nil => rfl
 | cons a l ih =>
  have hge := Lib.indexByte_ge l 10
  by_cases h : a = 10
  ·subst h
   simp [skip, Lib.indexByte, isBlank]
  ·have hb : (a == 10) = false := by simpa using h
   simp only [skip, Lib.indexByte, hb, Bool.false_eq_true, if_false, ih]
   by_cases h2 : Lib.indexByte l 10 = -1
   ·simp [h2]
   ·have : (Lib.indexByte l 10 + 1).toNat = (Lib.indexByte l 10).toNat + 1 := by omega
    have h3 : Lib.indexByte l 10 + 1 ≠ -1 := by omega
    simp [h2, h3, this]
theorem skip_suffix (b : Bool) (l : List UInt8) : (skip b l).length ≤ l.length := by
 induction l generalizing b with
 | nil => simp [skip]
 | cons a l ih =>
  cases b
  ·simp only [skip]
   split
   ·have := ih false; simp; omega
   ·split
    ·have := ih true; simp; omega
    ·simp
  ·simp only [skip]
   split
   ·have := ih false; simp; omega
   ·have := ih true; simp; omega
def gapOf (s : ByteArray) (i : Nat) : Nat := s.size - (skip false (s.data.toList.drop i)).length
theorem drop_endOf (p : UInt8 → Bool) (s : ByteArray) (i : Nat) : s.data.toList.drop (endOf p s i) = (s.data.toList.drop i).dropWhile p := by
 unfold endOf
 rw [← List.drop_drop]
 generalize s.data.toList.drop i = l
 induction l with
 | nil => rfl
 | cons a l ih => by_cases h : p a <;> simp [List.takeWhile_cons, List.dropWhile_cons, h, ih]
theorem gapOf_end (s : ByteArray) (i : Nat) : gapOf s (endOf isBlank s i) = gapOf s i := by
 unfold gapOf; rw [drop_endOf, skip_blanks]
theorem drop_at (s : ByteArray) (k : Nat) (h : k < s.size) : s.data.toList.drop k = s[k] :: s.data.toList.drop (k + 1) := by
 rw [List.drop_eq_getElem_cons (by simpa using h)]
 rfl
theorem endOf_not (p : UInt8 → Bool) (s : ByteArray) (i : Nat) (h : endOf p s i < s.size) : p s[endOf p s i] = false := by
 have h1 := drop_at s _ h
 rw [drop_endOf] at h1
 have h2 := List.head?_dropWhile_not p (s.data.toList.drop i)
 rw [h1] at h2
 simpa using h2
theorem gapOf_stop (s : ByteArray) (k : Nat) (hk : k ≤ s.size) (h : ∀ hl : k < s.size, isBlank s[k] = false ∧ cls s[k] ≠ 2) : gapOf s k = k := by
 unfold gapOf
 by_cases hl : k < s.size
 ·obtain ⟨h1, h2⟩ := h hl
  have h3 : s[k] ≠ 35 := fun e => h2 ((cls_hash _).2 e)
  have h4 : (s[k] == 35) = false := by simpa using h3
  rw [drop_at s k hl]
  simp only [skip, h1, h4, Bool.false_eq_true, if_false, List.length_cons, List.length_drop]
  have hz : s.data.toList.length = s.size := by simp
  omega
 ·have : k = s.size := by omega
  have h2 : s.data.toList.drop k = [] := List.drop_eq_nil_of_le (by simp; omega)
  rw [h2]
  simp only [skip, List.length_nil]
  omega
theorem gapOf_hash (s : ByteArray) (k : Nat) (hl : k < s.size) (h : cls s[k] = 2) :
  (Lib.indexByte (s.data.toList.drop k) 10 = -1 → gapOf s k = s.size) ∧ (Lib.indexByte (s.data.toList.drop k) 10 ≠ -1 → gapOf s k = gapOf s (k + (Lib.indexByte (s.data.toList.drop k) 10).toNat)) := by
 have e := (cls_hash _).1 h
 have hs : skip false (s.data.toList.drop k) = skip true (s.data.toList.drop k) := by
  rw [drop_at s k hl, e]
  simp [skip, isBlank]
 unfold gapOf
 rw [hs, skip_line]
 constructor
 ·intro h1; simp [h1]
 ·intro h1; simp [h1]
theorem while_blank (A : Option Addr) (c : Nat) (s : ByteArray) (b : Nat) (i : Nat) (w : World) (h : IsScan w b s) (hi : i ≤ s.size) (hC : Kd.C (Kd.int .i64) w A 1 [1]) :
  Calls Tryz.prog 96 #[.pointer (some ⟨b, 0, none⟩), .int .i64 i, .slice A 1 c] w fun e w' => e = .returned (.int .i64 (endOf isBlank s i)) ∧ Below w.heap.size w w' := by
 refine (while_calls [1] A c s b i w h hi hC).mono ?_
 rintro e w' ⟨rfl, hd⟩
 exact ⟨by rw [show (fun a => [(1 : Int)].any fun x => (cls a : Int) == x) = isBlank from funext cls_blank], hd.below⟩
theorem lit_C {α : Type} {enc : α → Value} {h1 : ∀ x, (enc x).oneCell' = true} (W : World) (e : TypeId) (xs : List α) (hm : xs.length ≤ 9223372036854775807) : Kd.C (Kd.scalar enc h1) (W.alloc (.cells (xs.map enc).toArray e)) (some ⟨W.heap.size, 0, none⟩) xs.length xs := by
 cases hx : xs with
 | nil => exact ⟨rfl, by simp, fun h => absurd h (by simp)⟩
 | cons a l =>
  rw [← hx]
  refine Kd.C_of_reads (d := a) ⟨rfl, hm, fun _ => ⟨_, rfl, fun j hj => ?_⟩⟩
  rw [add_plain]
  refine (blk_cell (blk_new W _ rfl) j).trans ?_
  simp [List.getD_eq_getElem?_getD, List.getElem?_eq_getElem hj]
theorem extract_drop (s : ByteArray) (k : Nat) : (s.extract k s.size).data.toList = s.data.toList.drop k := by
 rw [ByteArray.data_extract, Array.toList_extract, List.extract_eq_take_drop]
 apply List.take_of_length_le
 simp
theorem indexByte_lt (l : List UInt8) (c : UInt8) : Lib.indexByte l c ≤ l.length := by
 induction l with
 | nil => simp [Lib.indexByte]
 | cons a l ih =>
  unfold Lib.indexByte
  split
  ·simp; omega
  ·split
   ·simp; omega
   ·simp; omega
theorem index_from (s : ByteArray) (k : Nat) (w : World) :
  Calls Tryz.prog 98 #[.string (s.extract k s.size), .int .u8 10] w fun e w' => e = .returned (.int .i64 (Lib.indexByte (s.data.toList.drop k) 10)) ∧ w = w' := by
 refine (Tryz.strings_IndexByte _ 10 w).mono ?_
 rintro e w' ⟨rfl, rfl⟩
 exact ⟨by rw [extract_drop]; rfl, rfl⟩
set_option maxRecDepth 100000 in
theorem gap_calls (s : ByteArray) (b : Nat) (i : Nat) (w : World) (h : IsScan w b s) (hi : i ≤ s.size) :
  Calls Tryz.prog 78 #[.pointer (some ⟨b, 0, none⟩), .int .i64 i] w fun e w' => e = .returned (.int .i64 (gapOf s i)) ∧ Below w.heap.size w w' := by
 have hs := h.size
 have HI := Aside0.mk h
 clear h
 go_enter Tryz.func78, Tryz.ntmps78
 go_wp2_with fail
 refine (while_blank _ _ s b i _ (HI.out.below (below_alloc (Below.refl _ _) _)) hi (lit_C w 3 [1] (by simp))).mono ?_
 rintro e w' ⟨rfl, hb⟩
 have hz : w.heap.size < w'.heap.size := by have := hb.size; simp at this; omega
 have HB := Aside0.mk (below_then (below_alloc (Below.refl w.heap.size w) _) (by simp) hb)
 clear hb
 have hle := endOf_le isBlank s i hi
 obtain ⟨k, hk⟩ : ∃ k, endOf isBlank s i = k := ⟨_, rfl⟩
 rw [hk] at hle ⊢
 have HG := Aside0.mk (show gapOf s k = gapOf s i by rw [← hk, gapOf_end])
 have HN := Aside0.mk (show ∀ hl : k < s.size, isBlank s[k] = false by subst hk; intro hl; exact endOf_not _ _ _ hl)
 clear hk
 go_wp2
 go_loopw [1] (fun v wr => ∃ k : Nat, k ≤ s.size ∧ v = .int .i64 k ∧ Aside0 (gapOf s k = gapOf s i) ∧ Aside0 (∀ hl : k < s.size, isBlank s[k] = false) ∧ Aside0 (Below w.heap.size w wr)) (fun v _ => s.size - (intOf v).toNat)
 case atStart => exact ⟨k, hle, rfl, HG, HN, HB⟩
 case round =>
  obtain ⟨k, hk, rfl, HG, HN, HB⟩ := hrel
  clear hle
  have hi2 := HI.out.below HB.out
  have ht := hi2.text
  have HI2 := Aside0.mk hi2
  have hlt2 := hi2.lt
  clear hi2
  by_cases hlt : k < s.size
  ·by_cases hh : cls s[k] = 2
   ·obtain ⟨g1, g2⟩ := gapOf_hash s k hlt hh
    have hge := Lib.indexByte_ge (s.data.toList.drop k) 10
    have hle := indexByte_lt (s.data.toList.drop k) 10
    have hn0 : Lib.indexByte (s.data.toList.drop k) 10 ≠ 0 := by
     rw [drop_at s k hlt, (cls_hash _).1 hh]
     have := Lib.indexByte_ge (s.data.toList.drop (k + 1)) 10
     simp only [Lib.indexByte, show ((35 : UInt8) == 10) = false from rfl, Bool.false_eq_true, if_false]
     by_cases h2 : Lib.indexByte (s.data.toList.drop (k + 1)) 10 = -1
     ·simp [h2]
     ·simp [h2]; omega
    simp only [List.length_drop, Array.length_toList, ByteArray.size_data] at hle
    obtain ⟨n, hn⟩ : ∃ n, Lib.indexByte (s.data.toList.drop k) 10 = n := ⟨_, rfl⟩
    have HN2 := Aside0.mk hn
    rw [hn] at g1 g2 hge hle hn0
    have G1 := Aside0.mk g1
    have G2 := Aside0.mk g2
    have hf : ((cls s[k] : Int) == 2) = true := by simpa using (by omega : (cls s[k] : Int) = 2)
    clear hn g1 g2 hh
    go_wp2_with fail
    refine (at_in s b k _ HI2.out hlt).mono ?_
    rintro e w2 ⟨rfl, hd⟩
    have HD := Aside0.mk hd
    have ht2 := (HI2.out.below hd.below).text
    clear hd
    go_wp2_with fail
    refine (index_from s k _).mono ?_
    rintro e w3 ⟨rfl, rfl⟩
    rw [HN2.out]
    by_cases hneg : n = -1
    ·have G3 := Aside0.mk (G1.out hneg)
     subst hneg
     go_wp2
     go_ret
     exact ⟨by rw [← HG.out, G3.out]; rfl, HB.out.trans (HD.out.below.mono HB.out.size)⟩
    ·have G3 := Aside0.mk (G2.out hneg)
     have hn1 : 0 ≤ n := by omega
     obtain ⟨m, rfl⟩ := Int.eq_ofNat_of_zero_le hn1
     have HI3 := Aside0.mk (HI2.out.below HD.out.below)
     go_wp2_with fail
     rw [show ((k : Int) + (m : Int)) = ((k + m : Nat) : Int) from by simp]
     refine (while_blank _ _ s b (k + m) _ (HI3.out.below (below_alloc (Below.refl _ _) _)) (by omega) (lit_C _ 3 [1] (by simp))).mono ?_
     rintro e w4 ⟨rfl, hb4⟩
     have HB4 := Aside0.mk (below_then (below_alloc (Below.refl w2.heap.size w2) _) (by simp) hb4)
     clear hb4
     have he1 := endOf_ge isBlank s (k + m)
     have he2 := endOf_le isBlank s (k + m) (by omega)
     obtain ⟨q, hq⟩ : ∃ q, endOf isBlank s (k + m) = q := ⟨_, rfl⟩
     have HQ := Aside0.mk hq
     rw [hq] at he1 he2 ⊢
     clear hq
     go_wp2
     go_roundw
     case rel => exact ⟨q, he2, rfl, ⟨by rw [← HG.out, G3.out, ← HQ.out, gapOf_end]; rfl⟩, ⟨fun hl => by have := HQ.out; subst this; exact endOf_not _ _ _ hl⟩, ⟨(HB.out.trans (HD.out.below.mono HB.out.size)).trans (HB4.out.mono (HB.out.trans (HD.out.below.mono HB.out.size)).size)⟩⟩
     case measure => simp [intOf]; omega
   ·have hf : ((cls s[k] : Int) == 2) = false := by simpa using (fun e : (cls s[k] : Int) = 2 => hh (by omega))
    go_wp2_with fail
    refine (at_in s b k _ HI2.out hlt).mono ?_
    rintro e w2 ⟨rfl, hd⟩
    have HD := Aside0.mk hd
    clear hd
    go_wp2
    go_ret
    exact ⟨by rw [← HG.out, gapOf_stop s k hk (fun hl => ⟨HN.out hl, hh⟩)]; rfl, HB.out.trans (HD.out.below.mono HB.out.size)⟩
  ·obtain rfl : k = s.size := by omega
   go_wp2_with fail
   refine (at_out s b s.size _ HI2.out (by omega) (Int.le_refl _)).mono ?_
   rintro e w2 ⟨rfl, hd⟩
   have HD := Aside0.mk hd
   clear hd
   go_wp2
   go_ret
   exact ⟨by rw [← HG.out, gapOf_stop s s.size hk (fun hl => absurd hl (by omega))]; rfl, HB.out.trans (HD.out.below.mono HB.out.size)⟩
end Go.Proofs.YtkgmempifggajaaGreatDoor.P
