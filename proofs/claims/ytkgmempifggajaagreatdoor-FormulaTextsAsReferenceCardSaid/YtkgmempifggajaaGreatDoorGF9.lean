/- What the statement's proof builds on: LexD, LexE, LexF, LexG, LexS. -/
import Derived.Test.YtkgmempifggajaaGreatDoorGF8
import Derived.Great.BuildSlice
/- lexer.classes: the classes of all bytes. -/
namespace Go.Proofs.YtkgmempifggajaaGreatDoor.P
open Go.RowKit Go.Proofs.YtkgmempifggajaaGreatDoorW.PrintWords Go.Proofs.YtkgmempifggajaaGreatDoorW.PrintLast Go.Proofs.YtkgmempifggajaaGreatDoorW.PrintMore
set_option linter.unusedVariables false
set_option linter.unusedSimpArgs false
def setAll (l : List UInt8) (v : Int) (a : Array Value) : Array Value := l.foldl (fun a c => a.setIfInBounds c.toNat (.int .i64 v)) a
theorem setAll_size (l : List UInt8) (v : Int) (a : Array Value) : (setAll l v a).size = a.size := by
 induction l generalizing a with
 | nil => rfl
 | cons c l ih => exact (ih _).trans (by simp)
theorem setAll_snoc (l : List UInt8) (c : UInt8) (v : Int) (a : Array Value) : setAll (l ++ [c]) v a = (setAll l v a).setIfInBounds c.toNat (.int .i64 v) := by
 simp [setAll]
def SetPost (s : ByteArray) (v : Int) (cs : Array Value) (bo : Nat) (w : World) (e : Ending) (w' : World) : Prop :=
 e = .returned (.tuple #[]) ∧ w'.heap[bo]? = some (.cells (setAll s.data.toList v cs) 92 (0, 0)) ∧ Same (fun k => k = bo) w w'
set_option maxRecDepth 100000 in
theorem set_calls (s : ByteArray) (v : Int) (cs : Array Value) (bo : Nat) (w : World) (hb : w.heap[bo]? = some (.cells cs 92 (0, 0))) (hc : cs.size = 256) (hs : s.size ≤ 1000000) :
  Calls Tryz.prog 95 #[.string s, .int .i64 v, .pointer (some ⟨bo, 0, none⟩)] w (SetPost s v cs bo w) := by
 have HB := Aside0.mk hb
 have HC := Aside0.mk hc
 clear hb hc
 go_enter Tryz.func95, Tryz.ntmps95
 go_wp2
 go_loopw [5] (fun i wr => ∃ k : Nat, k ≤ s.size ∧ i = .int .i64 k ∧ Aside0 (wr.heap[bo]? = some (.cells (setAll (s.data.toList.take k) v cs) 92 (0, 0))) ∧ Aside0 (Same (fun k => k = bo) w wr)) (fun i _ => s.size - (intOf i).toNat)
 case atStart => exact ⟨0, Nat.zero_le _, rfl, ⟨HB.out⟩, ⟨Same.refl _ _⟩⟩
 case round =>
  obtain ⟨k, hk, rfl, HB', HS'⟩ := hrel
  by_cases hlt : k < s.size
  ·have h1 : (s[k].toNat : Int) < 256 := by have := s[k].toNat_lt; omega
   have h2 : s[k].toNat < 256 := by have := s[k].toNat_lt; omega
   have hcell := blk_cell HB'.out s[k].toNat
   have hfr := blk_frozen HB'.out s[k].toNat
   rw [Array.getElem?_eq_getElem (by rw [setAll_size, HC.out]; exact h2)] at hcell
   go_wp2
   go_roundw
   case rel => 
    exact ⟨k + 1, by omega, by go_num, ⟨blk_put HB'.out _ _ (by
     rw [take_snoc_ s.data.toList k (by simpa using hlt), setAll_snoc]; rfl)⟩, ⟨HS'.out.setCell rfl _⟩⟩
   case measure => simp [intOf]; omega
  ·obtain rfl : k = s.size := by omega
   go_wp2
   go_end0
   exact ⟨rfl, by rw [HB'.out, List.take_of_length_le (by simp)], HS'.out⟩
noncomputable def clsCells : Array Value := ((List.range 256).map fun n => Value.int .i64 (cls (UInt8.ofNat n))).toArray
noncomputable def ccells1 : Array Value := setAll (⟨#[97, 98, 99, 100, 101, 102, 103, 104, 105, 106, 107, 108, 109, 110, 111, 112, 113, 114, 115, 116, 117, 118, 119, 120, 121, 122, 65, 66, 67, 68, 69, 70, 71, 72, 73, 74, 75, 76, 77, 78, 79, 80, 81, 82, 83, 84, 85, 86, 87, 88, 89, 90]⟩ : ByteArray).data.toList 3 Tryz.zeroCells92
theorem ccells1_eq : setAll (⟨#[97, 98, 99, 100, 101, 102, 103, 104, 105, 106, 107, 108, 109, 110, 111, 112, 113, 114, 115, 116, 117, 118, 119, 120, 121, 122, 65, 66, 67, 68, 69, 70, 71, 72, 73, 74, 75, 76, 77, 78, 79, 80, 81, 82, 83, 84, 85, 86, 87, 88, 89, 90]⟩ : ByteArray).data.toList 3 Tryz.zeroCells92 = ccells1 := rfl
theorem ccells1_size : ccells1.size = 256 := (setAll_size _ _ _).trans (by kernel_rfl)
noncomputable def ccells2 : Array Value := setAll (⟨#[48, 49, 50, 51, 52, 53, 54, 55, 56, 57]⟩ : ByteArray).data.toList 4 ccells1
theorem ccells2_eq : setAll (⟨#[48, 49, 50, 51, 52, 53, 54, 55, 56, 57]⟩ : ByteArray).data.toList 4 ccells1 = ccells2 := rfl
theorem ccells2_size : ccells2.size = 256 := (setAll_size _ _ _).trans ccells1_size
noncomputable def ccells3 : Array Value := setAll (⟨#[95]⟩ : ByteArray).data.toList 5 ccells2
theorem ccells3_eq : setAll (⟨#[95]⟩ : ByteArray).data.toList 5 ccells2 = ccells3 := rfl
theorem ccells3_size : ccells3.size = 256 := (setAll_size _ _ _).trans ccells2_size
noncomputable def ccells4 : Array Value := setAll (⟨#[32, 9, 10]⟩ : ByteArray).data.toList 1 ccells3
theorem ccells4_eq : setAll (⟨#[32, 9, 10]⟩ : ByteArray).data.toList 1 ccells3 = ccells4 := rfl
theorem ccells4_size : ccells4.size = 256 := (setAll_size _ _ _).trans ccells3_size
noncomputable def ccells5 : Array Value := setAll (⟨#[35]⟩ : ByteArray).data.toList 2 ccells4
theorem ccells5_eq : setAll (⟨#[35]⟩ : ByteArray).data.toList 2 ccells4 = ccells5 := rfl
theorem ccells5_size : ccells5.size = 256 := (setAll_size _ _ _).trans ccells4_size
noncomputable def ccells6 : Array Value := setAll (⟨#[34]⟩ : ByteArray).data.toList 6 ccells5
theorem ccells6_eq : setAll (⟨#[34]⟩ : ByteArray).data.toList 6 ccells5 = ccells6 := rfl
theorem ccells6_size : ccells6.size = 256 := (setAll_size _ _ _).trans ccells5_size
noncomputable def ccells7 : Array Value := setAll (⟨#[33]⟩ : ByteArray).data.toList 7 ccells6
theorem ccells7_eq : setAll (⟨#[33]⟩ : ByteArray).data.toList 7 ccells6 = ccells7 := rfl
theorem ccells7_size : ccells7.size = 256 := (setAll_size _ _ _).trans ccells6_size
noncomputable def ccells8 : Array Value := setAll (⟨#[60, 62]⟩ : ByteArray).data.toList 8 ccells7
theorem ccells8_eq : setAll (⟨#[60, 62]⟩ : ByteArray).data.toList 8 ccells7 = ccells8 := rfl
theorem ccells8_size : ccells8.size = 256 := (setAll_size _ _ _).trans ccells7_size
noncomputable def ccells9 : Array Value := setAll (⟨#[59, 44, 46, 58, 40, 41, 91, 93, 123, 125, 61, 43, 45]⟩ : ByteArray).data.toList 9 ccells8
theorem ccells9_eq : setAll (⟨#[59, 44, 46, 58, 40, 41, 91, 93, 123, 125, 61, 43, 45]⟩ : ByteArray).data.toList 9 ccells8 = ccells9 := rfl
theorem ccells9_size : ccells9.size = 256 := (setAll_size _ _ _).trans ccells8_size
theorem ccells_all : ccells9 = clsCells := by kernel_rfl
theorem Same.setRow {S : Nat → Prop} {w w1 : World} (h : Same S w w1) {g : Nat} (hp : w.heap.size ≤ g) (cs : Array Value) : Same S w (w1.setRow g cs) :=
 ⟨h.os, h.tape, h.output, by simpa using h.size, fun i hi hn => (setRow_other w1 g i cs (by omega)).trans (h.block i hi hn)⟩
set_option maxRecDepth 100000 in
set_option maxHeartbeats 2000000 in
theorem classes_calls (w : World) :
  Calls Tryz.prog 77 #[] w fun e w' => e = .returned (.agg clsCells) ∧ Below w.heap.size w w' := by
 go_enter Tryz.func77, Tryz.ntmps77
 go_wp2_with fail
 refine (set_calls ⟨#[97, 98, 99, 100, 101, 102, 103, 104, 105, 106, 107, 108, 109, 110, 111, 112, 113, 114, 115, 116, 117, 118, 119, 120, 121, 122, 65, 66, 67, 68, 69, 70, 71, 72, 73, 74, 75, 76, 77, 78, 79, 80, 81, 82, 83, 84, 85, 86, 87, 88, 89, 90]⟩ 3 Tryz.zeroCells92 (w.heap.size + 1) _ ?_ (by kernel_rfl) (by decide)).mono ?_
 ·(repeat (first | (refine blk_new _ _ ?_; first | rfl | (simp; done)) | refine blk_alloc_old ?_ _ | refine blk_drew_old ?_ | refine blk_drewN_old ?_ _ | assumption))
 rintro e w1 ⟨rfl, h, hS⟩
 rw [ccells1_eq] at h
 have H1 := Aside0.mk h
 have S1 := Aside0.mk ((((Same.refl (fun k => k = w.heap.size + 1) w).alloc _).alloc _).trans hS)
 have Z1 := Aside0.mk (hS.at_ (b := w.heap.size) (o := .cells Tryz.zeroCells92 92 (0, 0)) (by (repeat (first | (refine blk_new _ _ ?_; first | rfl | (simp; done)) | refine blk_alloc_old ?_ _ | refine blk_drew_old ?_ | refine blk_drewN_old ?_ _ | assumption))) (by omega))
 clear h hS
 go_wp2_with fail
 refine (set_calls ⟨#[48, 49, 50, 51, 52, 53, 54, 55, 56, 57]⟩ 4 ccells1 (w.heap.size + 1) w1 H1.out ccells1_size (by decide)).mono ?_
 rintro e w2 ⟨rfl, h, hS⟩
 rw [ccells2_eq] at h
 have H2 := Aside0.mk h
 have S2 := Aside0.mk (S1.out.trans hS)
 have Z2 := Aside0.mk (hS.at_ Z1.out (by omega))
 clear h hS H1 S1 Z1
 go_wp2_with fail
 refine (set_calls ⟨#[95]⟩ 5 ccells2 (w.heap.size + 1) w2 H2.out ccells2_size (by decide)).mono ?_
 rintro e w3 ⟨rfl, h, hS⟩
 rw [ccells3_eq] at h
 have H3 := Aside0.mk h
 have S3 := Aside0.mk (S2.out.trans hS)
 have Z3 := Aside0.mk (hS.at_ Z2.out (by omega))
 clear h hS H2 S2 Z2
 go_wp2_with fail
 refine (set_calls ⟨#[32, 9, 10]⟩ 1 ccells3 (w.heap.size + 1) w3 H3.out ccells3_size (by decide)).mono ?_
 rintro e w4 ⟨rfl, h, hS⟩
 rw [ccells4_eq] at h
 have H4 := Aside0.mk h
 have S4 := Aside0.mk (S3.out.trans hS)
 have Z4 := Aside0.mk (hS.at_ Z3.out (by omega))
 clear h hS H3 S3 Z3
 go_wp2_with fail
 refine (set_calls ⟨#[35]⟩ 2 ccells4 (w.heap.size + 1) w4 H4.out ccells4_size (by decide)).mono ?_
 rintro e w5 ⟨rfl, h, hS⟩
 rw [ccells5_eq] at h
 have H5 := Aside0.mk h
 have S5 := Aside0.mk (S4.out.trans hS)
 have Z5 := Aside0.mk (hS.at_ Z4.out (by omega))
 clear h hS H4 S4 Z4
 go_wp2_with fail
 refine (set_calls ⟨#[34]⟩ 6 ccells5 (w.heap.size + 1) w5 H5.out ccells5_size (by decide)).mono ?_
 rintro e w6 ⟨rfl, h, hS⟩
 rw [ccells6_eq] at h
 have H6 := Aside0.mk h
 have S6 := Aside0.mk (S5.out.trans hS)
 have Z6 := Aside0.mk (hS.at_ Z5.out (by omega))
 clear h hS H5 S5 Z5
 go_wp2_with fail
 refine (set_calls ⟨#[33]⟩ 7 ccells6 (w.heap.size + 1) w6 H6.out ccells6_size (by decide)).mono ?_
 rintro e w7 ⟨rfl, h, hS⟩
 rw [ccells7_eq] at h
 have H7 := Aside0.mk h
 have S7 := Aside0.mk (S6.out.trans hS)
 have Z7 := Aside0.mk (hS.at_ Z6.out (by omega))
 clear h hS H6 S6 Z6
 go_wp2_with fail
 refine (set_calls ⟨#[60, 62]⟩ 8 ccells7 (w.heap.size + 1) w7 H7.out ccells7_size (by decide)).mono ?_
 rintro e w8 ⟨rfl, h, hS⟩
 rw [ccells8_eq] at h
 have H8 := Aside0.mk h
 have S8 := Aside0.mk (S7.out.trans hS)
 have Z8 := Aside0.mk (hS.at_ Z7.out (by omega))
 clear h hS H7 S7 Z7
 go_wp2_with fail
 refine (set_calls ⟨#[59, 44, 46, 58, 40, 41, 91, 93, 123, 125, 61, 43, 45]⟩ 9 ccells8 (w.heap.size + 1) w8 H8.out ccells8_size (by decide)).mono ?_
 rintro e w9 ⟨rfl, h, hS⟩
 rw [ccells9_eq] at h
 have H9 := Aside0.mk h
 have S9 := Aside0.mk (S8.out.trans hS)
 have Z9 := Aside0.mk (hS.at_ Z8.out (by omega))
 clear h hS H8 S8 Z8
 have hi : (Tryz.prog.info? 92).map (·.size) = some ccells9.size := by rw [ccells9_size]; kernel_rfl
 have h1 : ccells9.all (·.oneCell') = true := by rw [ccells_all]; decide +kernel
 have h0 : Tryz.zeroCells92.size = ccells9.size := by rw [ccells9_size]; kernel_rfl
 have HI := Aside0.mk hi
 have HA := Aside0.mk h1
 have H0 := Aside0.mk h0
 clear hi h1 h0
 go_wp2_with (refine wpList_load_row rfl 92 _ rfl (w.heap.size + 1) rfl 92 ccells9 (0, 0) _ H9.out Tryz.underlying92 rfl HI.out ?_; refine wpList_store_rowTo rfl 92 _ _ rfl rfl w.heap.size ccells9 rfl rfl 92 _ Z9.out HI.out H0.out HA.out ?_)
 refine bodyPost_ret (results_cell_row rfl _ _ w.heap.size 92 ccells9 (0, 0) _ rfl (setRow_heap _ _ _ _ _ _ Z9.out) Tryz.underlying92 rfl HI.out) rfl ?_
 exact ⟨by rw [ccells_all], (S9.out.setRow (Nat.le_refl _) _).below (fun k hk => by omega)⟩
end Go.Proofs.YtkgmempifggajaaGreatDoor.P
/- lexer's (*scanner).next: one token. -/
namespace Go.Proofs.YtkgmempifggajaaGreatDoor.P
open Go.RowKit Go.Proofs.YtkgmempifggajaaGreatDoorW.PrintWords Go.Proofs.YtkgmempifggajaaGreatDoorW.PrintLast Go.Proofs.YtkgmempifggajaaGreatDoorW.PrintMore
set_option linter.unusedVariables false
set_option linter.unusedSimpArgs false
theorem bytes_ext {a b : ByteArray} (h : a.data.toList = b.data.toList) : a = b := by
 cases a; cases b; congr; exact Array.toList_inj.1 h
theorem extract_take (s : ByteArray) (a b : Nat) : s.extract a b = ⟨((s.data.toList.drop a).take (b - a)).toArray⟩ :=
 bytes_ext (by rw [Lib.extract_data])
theorem takeWhile_take (p : UInt8 → Bool) (l : List UInt8) : l.take (l.takeWhile p).length = l.takeWhile p :=
 (List.prefix_iff_eq_take.1 (List.takeWhile_prefix p)).symm
theorem extract_endOf (p : UInt8 → Bool) (s : ByteArray) (i : Nat) : s.extract i (endOf p s i) = ⟨((s.data.toList.drop i).takeWhile p).toArray⟩ := by
 rw [extract_take]
 unfold endOf
 rw [Nat.add_sub_cancel_left, takeWhile_take]
def nextVal (l : List UInt8) (i : Nat) : Value :=
 match token l with
 | .ok t => .tuple #[.agg #[.int .i64 t.kind, .int .i64 i, .int .i64 t.n, .string ⟨t.text.toArray⟩], .int .i64 (i + t.width : Nat), .int .i64 0]
 | .error e => .tuple #[.agg #[.int .i64 0, .int .i64 0, .int .i64 0, .string ⟨#[]⟩], .int .i64 0, .int .i64 e]
def NextPost (s : ByteArray) (i : Nat) (w : World) (e : Ending) (w' : World) : Prop := e = .returned (nextVal (s.data.toList.drop i) i) ∧ Below w.heap.size w w'
theorem while_word (A : Option Addr) (c : Nat) (s : ByteArray) (b : Nat) (i : Nat) (w : World) (h : IsScan w b s) (hi : i ≤ s.size) (hC : Kd.C (Kd.int .i64) w A 3 [3, 4, 5]) :
  Calls Tryz.prog 96 #[.pointer (some ⟨b, 0, none⟩), .int .i64 i, .slice A 3 c] w fun e w' => e = .returned (.int .i64 (endOf isWord s i)) ∧ Below w.heap.size w w' := by
 refine (while_calls [3, 4, 5] A c s b i w h hi hC).mono ?_
 rintro e w' ⟨rfl, hd⟩
 exact ⟨by rw [show (fun a => [(3 : Int), 4, 5].any fun x => (cls a : Int) == x) = isWord from funext cls_word], hd.below⟩
theorem while_digit (A : Option Addr) (c : Nat) (s : ByteArray) (b : Nat) (i : Nat) (w : World) (h : IsScan w b s) (hi : i ≤ s.size) (hC : Kd.C (Kd.int .i64) w A 1 [4]) :
  Calls Tryz.prog 96 #[.pointer (some ⟨b, 0, none⟩), .int .i64 i, .slice A 1 c] w fun e w' => e = .returned (.int .i64 (endOf isDigit s i)) ∧ Below w.heap.size w w' := by
 refine (while_calls [4] A c s b i w h hi hC).mono ?_
 rintro e w' ⟨rfl, hd⟩
 exact ⟨by rw [show (fun a => [(4 : Int)].any fun x => (cls a : Int) == x) = isDigit from funext cls_digit], hd.below⟩
structure NS (w0 w : World) (s : ByteArray) (b : Nat) : Prop where
 res : w.heap[w0.heap.size]? = some (.cells #[.int .i64 0, .int .i64 0, .int .i64 0, .string ⟨#[]⟩] 75 (0, 0))
 scan : IsScan w b s
 old : Below w0.heap.size w0 w
theorem NS.lt {w0 w : World} {s : ByteArray} {b : Nat} (h : NS w0 w s b) : w0.heap.size < w.heap.size := lt_of_block h.res
theorem NS.step {w0 w w1 : World} {s : ByteArray} {b : Nat} (h : NS w0 w s b) (hb : Below w.heap.size w w1) : NS w0 w1 s b :=
 ⟨(hb.block _ h.lt).trans h.res, h.scan.below hb, h.old.trans (hb.mono h.old.size)⟩
theorem NS.alloc {w0 w : World} {s : ByteArray} {b : Nat} (h : NS w0 w s b) (o : Obj) : NS w0 (w.alloc o) s b := h.step (below_alloc (Below.refl _ _) o)
theorem NS.start {w : World} {s : ByteArray} {b : Nat} (h : IsScan w b s) : NS w (w.alloc (.cells #[.int .i64 0, .int .i64 0, .int .i64 0, .string ⟨#[]⟩] 75)) s b :=
 ⟨by (repeat (first | (refine blk_new _ _ ?_; first | rfl | (simp; done)) | refine blk_alloc_old ?_ _ | refine blk_drew_old ?_ | refine blk_drewN_old ?_ _ | assumption)), h.below (below_alloc (Below.refl _ _) _), below_alloc (Below.refl _ _) _⟩
theorem put4 {w : World} {g : Nat} {t : TypeId} {a b c d : Value} (h : w.heap[g]? = some (.cells #[a, b, c, d] t (0, 0))) (x y z u : Value) :
  ((((w.setCell ⟨g, 0, none⟩ x).setCell ⟨g, 1, none⟩ y).setCell ⟨g, 2, none⟩ z).setCell ⟨g, 3, none⟩ u).heap[g]? = some (.cells #[x, y, z, u] t (0, 0)) :=
 blk_put (blk_put (blk_put (blk_put h 0 x rfl) 1 y rfl) 2 z rfl) 3 u rfl
theorem put4_below {w0 w : World} {g : Nat} (h : Below w0.heap.size w0 w) (hg : w0.heap.size ≤ g) (x y z u : Value) :
  Below w0.heap.size w0 ((((w.setCell ⟨g, 0, none⟩ x).setCell ⟨g, 1, none⟩ y).setCell ⟨g, 2, none⟩ z).setCell ⟨g, 3, none⟩ u) :=
 (((h.setCell hg x).setCell hg y).setCell hg z).setCell hg u
theorem cls3 {c : UInt8} (h : cls c = 3) : isLetter c = true := by
 have := u8_all (fun c => cls c != 3 || isLetter c) (by decide +kernel) c
 simpa [h] using this
theorem cls4 {c : UInt8} (h : cls c = 4) : isLetter c = false ∧ isDigit c = true := by
 have := u8_all (fun c => cls c != 4 || (!isLetter c && isDigit c)) (by decide +kernel) c
 simpa [h] using this
theorem cls6 {c : UInt8} (h : cls c = 6) : c = 34 := by
 have := u8_all (fun c => cls c != 6 || c == 34) (by decide +kernel) c
 simpa [h] using this
theorem cls7 {c : UInt8} (h : cls c = 7) : c = 33 := by
 have := u8_all (fun c => cls c != 7 || c == 33) (by decide +kernel) c
 simpa [h] using this
theorem cls8 {c : UInt8} (h : cls c = 8) : c = 60 ∨ c = 62 := by
 have := u8_all (fun c => cls c != 8 || (c == 60 || c == 62)) (by decide +kernel) c
 simpa [h] using this
theorem cls9 {c : UInt8} (h : cls c = 9) : isSym c = true ∧ isLetter c = false ∧ isDigit c = false ∧ c ≠ 34 ∧ c ≠ 33 ∧ c ≠ 60 ∧ c ≠ 62 := by
 have := u8_all (fun c => cls c != 9 || (isSym c && !isLetter c && !isDigit c && c != 34 && c != 33 && c != 60 && c != 62)) (by decide +kernel) c
 simpa [h, and_assoc] using this
theorem clsX {c : UInt8} (h : cls c ≠ 3 ∧ cls c ≠ 4 ∧ cls c ≠ 6 ∧ cls c ≠ 7 ∧ cls c ≠ 8 ∧ cls c ≠ 9) : isSym c = false ∧ isLetter c = false ∧ isDigit c = false ∧ c ≠ 34 ∧ c ≠ 33 ∧ c ≠ 60 ∧ c ≠ 62 := by
 have := u8_all (fun c => cls c == 3 || cls c == 4 || cls c == 6 || cls c == 7 || cls c == 8 || cls c == 9 || (!isSym c && !isLetter c && !isDigit c && c != 34 && c != 33 && c != 60 && c != 62)) (by decide +kernel) c
 obtain ⟨h1, h2, h3, h4, h5, h6⟩ := h
 simpa [h1, h2, h3, h4, h5, h6, and_assoc] using this
theorem word_of_letter {c : UInt8} (h : isLetter c = true) : isWord c = true := by simp [isWord, h]
theorem endOf_len (p : UInt8 → Bool) (s : ByteArray) (i : Nat) : ((s.data.toList.drop i).takeWhile p).length = endOf p s i - i := by unfold endOf; omega
theorem tok_name (s : ByteArray) (i : Nat) (hi : i < s.size) (hc : cls s[i] = 3) :
  token (s.data.toList.drop i) = if 24 < endOf isWord s i - i then .error 2 else .ok ⟨1, (s.data.toList.drop i).takeWhile isWord, 0, endOf isWord s i - i⟩ := by
 have h1 := cls3 hc
 have e : s[i] :: (s.data.toList.drop (i + 1)).takeWhile isWord = (s.data.toList.drop i).takeWhile isWord := by rw [drop_at s i hi, List.takeWhile_cons, if_pos (word_of_letter h1)]
 conv => lhs; rw [drop_at s i hi]
 simp only [token, h1, if_true, e, endOf_len, gt_iff_lt]
set_option maxRecDepth 100000 in
theorem next_name (s : ByteArray) (b : Nat) (i : Nat) (w : World) (h : IsScan w b s) (hi : i < s.size) (hc : cls s[i] = 3) :
  Calls Tryz.prog 79 #[.pointer (some ⟨b, 0, none⟩), .int .i64 i] w (NextPost s i w) := by
 have hs := h.size
 have HN0 := Aside0.mk (NS.start h)
 clear h
 have HT := Aside0.mk (tok_name s i hi hc)
 have HCC := Aside0.mk hc
 clear hc
 go_enter Tryz.func79, Tryz.ntmps79
 go_wp2_with fail
 refine (at_in s b i _ HN0.out.scan hi).mono ?_
 rintro e w1 ⟨rfl, hd⟩
 rw [HCC.out]
 have HN1 := Aside0.mk (HN0.out.step hd.below)
 clear hd HN0
 go_wp2_with fail
 refine (while_word _ _ s b i _ (HN1.out.alloc _).scan (by omega) (lit_C w1 3 [3, 4, 5] (by simp))).mono ?_
 rintro e w2 ⟨rfl, hb⟩
 have HN2 := Aside0.mk ((HN1.out.alloc _).step hb)
 clear hb HN1
 have he := endOf_ge isWord s i
 have he' := endOf_le isWord s i (by omega)
 have hx := extract_endOf isWord s i
 have hT := HT.out
 obtain ⟨q, hq⟩ : ∃ q, endOf isWord s i = q := ⟨_, rfl⟩
 rw [hq] at he he' hx hT ⊢
 have HT2 := Aside0.mk hT
 have HX := Aside0.mk hx
 clear hq hT hx HT
 have hc0 := blk_cell HN2.out.res 0
 have hf0 := blk_frozen HN2.out.res 0
 have hc1 := blk_cell HN2.out.res 1
 have hf1 := blk_frozen HN2.out.res 1
 have hc2 := blk_cell HN2.out.res 2
 have hf2 := blk_frozen HN2.out.res 2
 have hc3 := blk_cell HN2.out.res 3
 have hf3 := blk_frozen HN2.out.res 3
 have ht2 := HN2.out.scan.text
 have hlt2 := HN2.out.lt
 by_cases hl : (24 : Int) < q - i
 ·have HE := Aside0.mk (show nextVal (s.data.toList.drop i) i = _ by unfold nextVal; rw [HT2.out, if_pos (by omega)])
  go_wp2
  refine bodyPost_ret (results_ctt rfl _ _ w.heap.size 75 #[.int .i64 0, .int .i64 0, .int .i64 0, .string ⟨#[]⟩] (0, 0) _ rfl (put4 HN2.out.res _ _ _ _) Tryz.underlying75 rfl (by kernel_rfl)) rfl ?_
  refine ⟨?_, put4_below HN2.out.old (Nat.le_refl _) _ _ _ _⟩
  rw [HE.out]; rfl
 ·have HE := Aside0.mk (show nextVal (s.data.toList.drop i) i = _ by unfold nextVal; rw [HT2.out, if_neg (by omega)])
  go_wp2
  refine bodyPost_ret (results_ctt rfl _ _ w.heap.size 75 #[.int .i64 1, .int .i64 i, .int .i64 0, .string (s.extract i q)] (0, 0) _ rfl (put4 HN2.out.res _ _ _ _) Tryz.underlying75 rfl (by kernel_rfl)) rfl ?_
  refine ⟨?_, put4_below HN2.out.old (Nat.le_refl _) _ _ _ _⟩
  rw [HE.out, HX.out, show i + (q - i) = q by omega]; rfl
end Go.Proofs.YtkgmempifggajaaGreatDoor.P
/- lexer's (*scanner).next: numbers, strings, symbols. (Printed by wip/tools/gen_lexf.py.) -/
namespace Go.Proofs.YtkgmempifggajaaGreatDoor.P
open Go.RowKit Go.Proofs.YtkgmempifggajaaGreatDoorW.PrintWords Go.Proofs.YtkgmempifggajaaGreatDoorW.PrintLast Go.Proofs.YtkgmempifggajaaGreatDoorW.PrintMore
set_option linter.unusedVariables false
set_option linter.unusedSimpArgs false
theorem cls3_iff (c : UInt8) : cls c = 3 ↔ isLetter c = true := by
 have := u8_all (fun c => decide (cls c = 3) == isLetter c) (by decide +kernel) c
 simp only [beq_iff_eq] at this
 rw [← this]; simp
theorem cls5_iff (c : UInt8) : cls c = 5 ↔ c = 95 := by
 have := u8_all (fun c => decide (cls c = 5) == decide (c = 95)) (by decide +kernel) c
 simpa using this
theorem tok_digit (s : ByteArray) (i : Nat) (hi : i < s.size) (hc : cls s[i] = 4) :
  token (s.data.toList.drop i) = if 13 < endOf isDigit s i - i then .error 4 else if clsAt s (endOf isDigit s i) = 3 ∨ clsAt s (endOf isDigit s i) = 5 then .error 4 else .ok ⟨2, (s.data.toList.drop i).takeWhile isDigit, numOf ((s.data.toList.drop i).takeWhile isDigit), endOf isDigit s i - i⟩ := by
 obtain ⟨h1, h2⟩ := cls4 hc
 have e : s[i] :: (s.data.toList.drop (i + 1)).takeWhile isDigit = (s.data.toList.drop i).takeWhile isDigit := by rw [drop_at s i hi, List.takeWhile_cons, if_pos h2]
 have e2 : (s.data.toList.drop (i + 1)).dropWhile isDigit = s.data.toList.drop (endOf isDigit s i) := by rw [drop_endOf, drop_at s i hi, List.dropWhile_cons, if_pos h2]
 conv => lhs; rw [drop_at s i hi]
 simp only [token, h1, h2, Bool.false_eq_true, if_true, if_false, e, e2, endOf_len, gt_iff_lt]
 by_cases h13 : 13 < endOf isDigit s i - i
 ·simp only [h13, if_true]
 ·simp only [h13, if_false]
  by_cases hq : endOf isDigit s i < s.size
  ·have hca : clsAt s (endOf isDigit s i) = cls s[endOf isDigit s i] := by simp [clsAt, hq]
   rw [drop_at s _ hq, hca]
   simp only [Bool.or_eq_true, beq_iff_eq]
   have h3 := cls3_iff s[endOf isDigit s i]
   have h5 := cls5_iff s[endOf isDigit s i]
   have e3 : ((cls s[endOf isDigit s i] : Int) = 3 ∨ (cls s[endOf isDigit s i] : Int) = 5) ↔ (isLetter s[endOf isDigit s i] = true ∨ s[endOf isDigit s i] = 95) := by
    rw [← h3, ← h5]; omega
   simp only [e3]
  ·have hca : clsAt s (endOf isDigit s i) = 0 := by simp [clsAt, hq]
   have hd : s.data.toList.drop (endOf isDigit s i) = [] := List.drop_eq_nil_of_le (by simp; omega)
   rw [hd, hca]
   simp
theorem dec_num (l : List UInt8) (h : ∀ c ∈ l, isDigit c = true) (acc : Nat) : Lib.decFrom acc l = some (l.foldl (fun n c => 10 * n + (c.toNat - 48)) acc) := by
 induction l generalizing acc with
 | nil => rfl
 | cons c l ih =>
  have hc := h c (by simp)
  have hv : Lib.digitVal c = some (c.toNat - 48) := by
   have := u8_all (fun c => !isDigit c || Lib.digitVal c == some (c.toNat - 48)) (by decide +kernel) c
   simpa [hc] using this
  simp only [Lib.decFrom, hv, List.foldl_cons]
  rw [ih (fun c hc => h c (by simp [hc])), Nat.mul_comm]
theorem atoi_num (l : List UInt8) (h : ∀ c ∈ l, isDigit c = true) (hne : l ≠ []) : Lib.atoi l = some (numOf l : Int) := by
 cases l with
 | nil => exact absurd rfl hne
 | cons c l =>
  have hc := h c (by simp)
  have h1 : (c == 45) = false ∧ (c == 43) = false := by
   have := u8_all (fun c => !isDigit c || ((c == 45) == false && (c == 43) == false)) (by decide +kernel) c
   simpa [hc] using this
  simp only [Lib.atoi, h1.1, h1.2, Bool.false_eq_true, if_false, Lib.decNat, List.isEmpty_cons]
  rw [dec_num _ h]
  rfl
theorem mem_takeWhile_ {α : Type} {p : α → Bool} {l : List α} {a : α} (h : a ∈ l.takeWhile p) : p a = true := by
 induction l with
 | nil => simp at h
 | cons b l ih =>
  by_cases hb : p b
  ·simp only [List.takeWhile_cons, hb, if_true, List.mem_cons] at h
   rcases h with h | h
   ·rw [h]; exact hb
   ·exact ih h
  ·simp [List.takeWhile_cons, hb] at h
theorem size_mk (l : List UInt8) : (⟨l.toArray⟩ : ByteArray).size = l.length := by simp [ByteArray.size]
theorem atoi_at (s : ByteArray) (i : Nat) (w : World) (h : endOf isDigit s i - i ≤ 13) (hne : endOf isDigit s i ≠ i) :
  Calls Tryz.prog 99 #[.string (s.extract i (endOf isDigit s i))] w fun e w' => e = .returned (.tuple #[.int .i64 (numOf ((s.data.toList.drop i).takeWhile isDigit)), .nilIface]) ∧ Below w.heap.size w w' := by
 refine (Tryz.strconv_Atoi _ (numOf ((s.data.toList.drop i).takeWhile isDigit)) ?_ ?_ w).mono ?_
 ·rw [extract_endOf, size_mk, endOf_len]; omega
 ·rw [extract_endOf]
  refine atoi_num _ (fun c hc => mem_takeWhile_ hc) (fun e => hne ?_)
  have := endOf_len isDigit s i
  have e' : (s.data.toList.drop i).takeWhile isDigit = [] := by simpa using e
  rw [e'] at this
  have hge := endOf_ge isDigit s i
  simp only [List.length_nil] at this
  omega
 ·rintro e w' ⟨rfl, t, rfl⟩
  exact ⟨rfl, bytes_below (Below.refl _ _) (Nat.le_refl _) _ _⟩
set_option maxRecDepth 100000 in
theorem next_number (s : ByteArray) (b : Nat) (i : Nat) (w : World) (h : IsScan w b s) (hi : i < s.size) (hc : cls s[i] = 4) :
  Calls Tryz.prog 79 #[.pointer (some ⟨b, 0, none⟩), .int .i64 i] w (NextPost s i w) := by
 have hs := h.size
 have HN0 := Aside0.mk (NS.start h)
 clear h
 have HT := Aside0.mk (tok_digit s i hi hc)
 have HCC := Aside0.mk hc
 have hdd := (cls4 hc).2
 have hne : endOf isDigit s i ≠ i := by
  intro e
  have := endOf_len isDigit s i
  rw [drop_at s i hi, List.takeWhile_cons, if_pos hdd, e] at this
  simp at this
 clear hc hdd
 go_enter Tryz.func79, Tryz.ntmps79
 go_wp2_with fail
 refine (at_in s b i _ HN0.out.scan hi).mono ?_
 rintro e w1 ⟨rfl, hd⟩
 rw [HCC.out]
 have HN1 := Aside0.mk (HN0.out.step hd.below)
 clear hd HN0
 go_wp2_with fail
 refine (while_digit _ _ s b i _ (HN1.out.alloc _).scan (by omega) (lit_C w1 3 [4] (by simp))).mono ?_
 rintro e w2 ⟨rfl, hb⟩
 have HN2 := Aside0.mk ((HN1.out.alloc _).step hb)
 clear hb HN1
 have he := endOf_ge isDigit s i
 have he' := endOf_le isDigit s i (by omega)
 have hx := extract_endOf isDigit s i
 have hT := HT.out
 have hA := atoi_at s i
 obtain ⟨q, hq⟩ : ∃ q, endOf isDigit s i = q := ⟨_, rfl⟩
 rw [hq] at he he' hx hT hA hne ⊢
 have HT2 := Aside0.mk hT
 have HX := Aside0.mk hx
 have HA := Aside0.mk hA
 clear hq hT hx HT hA
 go_wp2_with fail
 refine (at_calls s b q _ HN2.out.scan (by omega)).mono ?_
 rintro e w3 ⟨rfl, hd⟩
 have HN3 := Aside0.mk (HN2.out.step hd.below)
 clear hd HN2
 obtain ⟨a, ha⟩ : ∃ a, clsAt s q = a := ⟨_, rfl⟩
 have HT3 := Aside0.mk (show _ = _ from HT2.out)
 rw [ha] at HT3 ⊢
 clear ha HT2
 have hc0 := blk_cell HN3.out.res 0
 have hf0 := blk_frozen HN3.out.res 0
 have hc1 := blk_cell HN3.out.res 1
 have hf1 := blk_frozen HN3.out.res 1
 have hc2 := blk_cell HN3.out.res 2
 have hf2 := blk_frozen HN3.out.res 2
 have hc3 := blk_cell HN3.out.res 3
 have hf3 := blk_frozen HN3.out.res 3
 have ht3 := HN3.out.scan.text
 have hlt3 := HN3.out.lt
 by_cases hl : (13 : Int) < q - i
 ·have HE := Aside0.mk (show nextVal (s.data.toList.drop i) i = _ by unfold nextVal; rw [HT3.out, if_pos (by omega)])
  go_wp2
  refine bodyPost_ret (results_ctt rfl _ _ w.heap.size 75 #[.int .i64 0, .int .i64 0, .int .i64 0, .string ⟨#[]⟩] (0, 0) _ rfl (put4 HN3.out.res _ _ _ _) Tryz.underlying75 rfl (by kernel_rfl)) rfl ?_
  refine ⟨?_, put4_below HN3.out.old (Nat.le_refl _) _ _ _ _⟩
  rw [HE.out]; rfl
 ·by_cases h3 : a = 3
  ·have HE := Aside0.mk (show nextVal (s.data.toList.drop i) i = _ by unfold nextVal; rw [HT3.out, if_neg (by omega), if_pos (.inl h3)])
   clear HT3
   subst h3
   go_wp2
   refine bodyPost_ret (results_ctt rfl _ _ w.heap.size 75 #[.int .i64 0, .int .i64 0, .int .i64 0, .string ⟨#[]⟩] (0, 0) _ rfl (put4 HN3.out.res _ _ _ _) Tryz.underlying75 rfl (by kernel_rfl)) rfl ?_
   refine ⟨?_, put4_below HN3.out.old (Nat.le_refl _) _ _ _ _⟩
   rw [HE.out]; rfl
  ·by_cases h5 : a = 5
   ·have HE := Aside0.mk (show nextVal (s.data.toList.drop i) i = _ by unfold nextVal; rw [HT3.out, if_neg (by omega), if_pos (.inr h5)])
    clear HT3
    subst h5
    go_wp2
    refine bodyPost_ret (results_ctt rfl _ _ w.heap.size 75 #[.int .i64 0, .int .i64 0, .int .i64 0, .string ⟨#[]⟩] (0, 0) _ rfl (put4 HN3.out.res _ _ _ _) Tryz.underlying75 rfl (by kernel_rfl)) rfl ?_
    refine ⟨?_, put4_below HN3.out.old (Nat.le_refl _) _ _ _ _⟩
    rw [HE.out]; rfl
   ·have HE := Aside0.mk (show nextVal (s.data.toList.drop i) i = _ by unfold nextVal; rw [HT3.out, if_neg (by omega), if_neg (by omega)])
    have b3 : (a == 3) = false := by simpa using h3
    have b5 : (a == 5) = false := by simpa using h5
    clear h3 h5 HT3
    go_wp2_with fail
    refine (HA.out _ (by omega) hne).mono ?_
    rintro e w4 ⟨rfl, hb⟩
    have HN4 := Aside0.mk (HN3.out.step hb)
    clear hb HN3 hc0 hc1 hc2 hc3 hf0 hf1 hf2 hf3 ht3 hlt3
    have hc0 := blk_cell HN4.out.res 0
    have hf0 := blk_frozen HN4.out.res 0
    have hc1 := blk_cell HN4.out.res 1
    have hf1 := blk_frozen HN4.out.res 1
    have hc2 := blk_cell HN4.out.res 2
    have hf2 := blk_frozen HN4.out.res 2
    have hc3 := blk_cell HN4.out.res 3
    have hf3 := blk_frozen HN4.out.res 3
    have ht4 := HN4.out.scan.text
    have hlt4 := HN4.out.lt
    go_wp2
    refine bodyPost_ret (results_ctt rfl _ _ w.heap.size 75 #[.int .i64 2, .int .i64 i, .int .i64 (numOf ((s.data.toList.drop i).takeWhile isDigit)), .string (s.extract i q)] (0, 0) _ rfl (put4 HN4.out.res _ _ _ _) Tryz.underlying75 rfl (by kernel_rfl)) rfl ?_
    refine ⟨?_, put4_below HN4.out.old (Nat.le_refl _) _ _ _ _⟩
    rw [HE.out, HX.out, show i + (q - i) = q by omega]; rfl
end Go.Proofs.YtkgmempifggajaaGreatDoor.P
/- lexer's (*scanner).next: strings and symbols. (Printed by wip/tools/gen_lexf.py.) -/
namespace Go.Proofs.YtkgmempifggajaaGreatDoor.P
open Go.RowKit Go.Proofs.YtkgmempifggajaaGreatDoorW.PrintWords Go.Proofs.YtkgmempifggajaaGreatDoorW.PrintLast Go.Proofs.YtkgmempifggajaaGreatDoorW.PrintMore
set_option linter.unusedVariables false
set_option linter.unusedSimpArgs false
theorem head_prefix (l : List UInt8) : Lib.hasPrefix l [61] = (l.head? == some 61) := by
 cases l with
 | nil => rfl
 | cons a l => simp [Lib.hasPrefix, List.isPrefixOf]; exact BEq.comm
theorem tok_mark (s : ByteArray) (i : Nat) (hi : i < s.size) (hc : cls s[i] = 7) :
  token (s.data.toList.drop i) = if Lib.hasPrefix (s.data.toList.drop (i + 1)) [61] = true then .ok ⟨4, [s[i], 61], 0, 2⟩ else .error 3 := by
 have h := cls7 hc
 rw [drop_at s i hi, h, head_prefix]
 simp [token, isLetter, isDigit, isSym]
theorem tok_angle (s : ByteArray) (i : Nat) (hi : i < s.size) (hc : cls s[i] = 8) :
  token (s.data.toList.drop i) = if Lib.hasPrefix (s.data.toList.drop (i + 1)) [61] = true then .ok ⟨4, [s[i], 61], 0, 2⟩ else .ok ⟨4, [s[i]], 0, 1⟩ := by
 rw [drop_at s i hi, head_prefix]
 rcases cls8 hc with h | h
 ·rw [h]; simp [token, isLetter, isDigit, isSym]
 ·rw [h]; simp [token, isLetter, isDigit, isSym]
theorem tok_sym (s : ByteArray) (i : Nat) (hi : i < s.size) (hc : cls s[i] = 9) :
  token (s.data.toList.drop i) = .ok ⟨4, [s[i]], 0, 1⟩ := by
 obtain ⟨h1, h2, h3, h4, h5, h6, h7⟩ := cls9 hc
 rw [drop_at s i hi]
 simp [token, h1, h2, h3, h4, h5, h6, h7]
theorem tok_other (s : ByteArray) (i : Nat) (hi : i < s.size) (hc : cls s[i] ≠ 3 ∧ cls s[i] ≠ 4 ∧ cls s[i] ≠ 6 ∧ cls s[i] ≠ 7 ∧ cls s[i] ≠ 8 ∧ cls s[i] ≠ 9) :
  token (s.data.toList.drop i) = .error 3 := by
 obtain ⟨h1, h2, h3, h4, h5, h6, h7⟩ := clsX hc
 rw [drop_at s i hi]
 simp [token, h1, h2, h3, h4, h5, h6, h7]
theorem extract_one (s : ByteArray) (i : Nat) (hi : i < s.size) : s.extract i (i + 1) = ⟨[s[i]].toArray⟩ := by
 rw [extract_take, drop_at s i hi, show i + 1 - i = 1 by omega]; rfl
theorem extract_two (s : ByteArray) (i : Nat) (hi : i < s.size) (h : Lib.hasPrefix (s.data.toList.drop (i + 1)) [61] = true) : s.extract i (i + 2) = ⟨[s[i], 61].toArray⟩ ∧ i + 2 ≤ s.size := by
 rw [head_prefix] at h
 by_cases h1 : i + 1 < s.size
 ·rw [drop_at s (i + 1) h1] at h
  have h2 : s[i + 1] = 61 := by simpa using h
  refine ⟨?_, by omega⟩
  rw [extract_take, drop_at s i hi, drop_at s (i + 1) h1, h2, show i + 2 - i = 2 by omega]
  rfl
 ·have h2 : s.data.toList.drop (i + 1) = [] := List.drop_eq_nil_of_le (by simp; omega)
  rw [h2] at h
  simp at h
theorem has_eq (s : ByteArray) (k : Nat) (w : World) :
  Calls Tryz.prog 101 #[.string (s.extract k s.size), .string ⟨#[61]⟩] w fun e w' => e = .returned (.bool (Lib.hasPrefix (s.data.toList.drop k) [61])) ∧ w = w' := by
 refine (Tryz.strings_HasPrefix _ _ w).mono ?_
 rintro e w' ⟨rfl, rfl⟩
 exact ⟨by rw [extract_drop], rfl⟩
set_option maxRecDepth 100000 in
theorem next_other (s : ByteArray) (b : Nat) (i : Nat) (w : World) (h : IsScan w b s) (hi : i < s.size) (hc : cls s[i] ≠ 3 ∧ cls s[i] ≠ 4 ∧ cls s[i] ≠ 6 ∧ cls s[i] ≠ 7 ∧ cls s[i] ≠ 8 ∧ cls s[i] ≠ 9) :
  Calls Tryz.prog 79 #[.pointer (some ⟨b, 0, none⟩), .int .i64 i] w (NextPost s i w) := by
 have hs := h.size
 have HN0 := Aside0.mk (NS.start h)
 clear h
 have HE := Aside0.mk (show nextVal (s.data.toList.drop i) i = _ by unfold nextVal; rw [tok_other s i hi hc])
 have HCC := Aside0.mk hc
 clear hc
 go_enter Tryz.func79, Tryz.ntmps79
 go_wp2_with fail
 refine (at_in s b i _ HN0.out.scan hi).mono ?_
 rintro e w1 ⟨rfl, hd⟩
 have HN1 := Aside0.mk (HN0.out.step hd.below)
 clear hd HN0
 obtain ⟨a, ha⟩ : ∃ a, cls s[i] = a := ⟨_, rfl⟩
 have hc := HCC.out
 rw [ha] at hc ⊢
 have b3 : ((a : Int) == 3) = false := by simp; omega
 have b4 : ((a : Int) == 4) = false := by simp; omega
 have b6 : ((a : Int) == 6) = false := by simp; omega
 have b7 : ((a : Int) == 7) = false := by simp; omega
 have b8 : ((a : Int) == 8) = false := by simp; omega
 have b9 : ((a : Int) == 9) = false := by simp; omega
 clear ha hc HCC
 have hc0 := blk_cell HN1.out.res 0
 have hf0 := blk_frozen HN1.out.res 0
 have hc1 := blk_cell HN1.out.res 1
 have hf1 := blk_frozen HN1.out.res 1
 have hc2 := blk_cell HN1.out.res 2
 have hf2 := blk_frozen HN1.out.res 2
 have hc3 := blk_cell HN1.out.res 3
 have hf3 := blk_frozen HN1.out.res 3
 have ht1 := HN1.out.scan.text
 have hlt1 := HN1.out.lt
 go_wp2
 refine bodyPost_ret (results_ctt rfl _ _ w.heap.size 75 #[.int .i64 0, .int .i64 0, .int .i64 0, .string ⟨#[]⟩] (0, 0) _ rfl (put4 HN1.out.res _ _ _ _) Tryz.underlying75 rfl (by kernel_rfl)) rfl ?_
 refine ⟨?_, put4_below HN1.out.old (Nat.le_refl _) _ _ _ _⟩
 rw [HE.out]; rfl
set_option maxRecDepth 100000 in
theorem next_mark (s : ByteArray) (b : Nat) (i : Nat) (w : World) (h : IsScan w b s) (hi : i < s.size) (hc : cls s[i] = 7) :
  Calls Tryz.prog 79 #[.pointer (some ⟨b, 0, none⟩), .int .i64 i] w (NextPost s i w) := by
 have hs := h.size
 have HN0 := Aside0.mk (NS.start h)
 clear h
 have HT := Aside0.mk (tok_mark s i hi hc)
 have HCC := Aside0.mk hc
 clear hc
 go_enter Tryz.func79, Tryz.ntmps79
 go_wp2_with fail
 refine (at_in s b i _ HN0.out.scan hi).mono ?_
 rintro e w1 ⟨rfl, hd⟩
 rw [HCC.out]
 have HN1 := Aside0.mk (HN0.out.step hd.below)
 clear hd HN0
 have hc0 := blk_cell HN1.out.res 0
 have hf0 := blk_frozen HN1.out.res 0
 have hc1 := blk_cell HN1.out.res 1
 have hf1 := blk_frozen HN1.out.res 1
 have hc2 := blk_cell HN1.out.res 2
 have hf2 := blk_frozen HN1.out.res 2
 have hc3 := blk_cell HN1.out.res 3
 have hf3 := blk_frozen HN1.out.res 3
 have ht1 := HN1.out.scan.text
 have hlt1 := HN1.out.lt
 go_wp2_with fail
 refine (has_eq s (i + 1) _).mono ?_
 rintro e w2 ⟨rfl, rfl⟩
 cases hp : Lib.hasPrefix (s.data.toList.drop (i + 1)) [61]
 ·have HE := Aside0.mk (show nextVal (s.data.toList.drop i) i = _ by unfold nextVal; rw [HT.out, if_neg (by rw [hp]; decide)])
  clear hp HT
  go_wp2
  refine bodyPost_ret (results_ctt rfl _ _ w.heap.size 75 #[.int .i64 0, .int .i64 0, .int .i64 0, .string ⟨#[]⟩] (0, 0) _ rfl (put4 HN1.out.res _ _ _ _) Tryz.underlying75 rfl (by kernel_rfl)) rfl ?_
  refine ⟨?_, put4_below HN1.out.old (Nat.le_refl _) _ _ _ _⟩
  rw [HE.out]; rfl
 ·obtain ⟨hx, h2⟩ := extract_two s i hi hp
  have HE := Aside0.mk (show nextVal (s.data.toList.drop i) i = _ by unfold nextVal; rw [HT.out, if_pos hp])
  have HX := Aside0.mk hx
  clear hp hx HT
  go_wp2
  refine bodyPost_ret (results_ctt rfl _ _ w.heap.size 75 #[.int .i64 4, .int .i64 i, .int .i64 0, .string (s.extract i (i + 2))] (0, 0) _ rfl (put4 HN1.out.res _ _ _ _) Tryz.underlying75 rfl (by kernel_rfl)) rfl ?_
  refine ⟨?_, put4_below HN1.out.old (Nat.le_refl _) _ _ _ _⟩
  rw [HE.out, HX.out]; rfl
set_option maxRecDepth 100000 in
theorem next_angle (s : ByteArray) (b : Nat) (i : Nat) (w : World) (h : IsScan w b s) (hi : i < s.size) (hc : cls s[i] = 8) :
  Calls Tryz.prog 79 #[.pointer (some ⟨b, 0, none⟩), .int .i64 i] w (NextPost s i w) := by
 have hs := h.size
 have HN0 := Aside0.mk (NS.start h)
 clear h
 have HT := Aside0.mk (tok_angle s i hi hc)
 have HCC := Aside0.mk hc
 clear hc
 go_enter Tryz.func79, Tryz.ntmps79
 go_wp2_with fail
 refine (at_in s b i _ HN0.out.scan hi).mono ?_
 rintro e w1 ⟨rfl, hd⟩
 rw [HCC.out]
 have HN1 := Aside0.mk (HN0.out.step hd.below)
 clear hd HN0
 have hc0 := blk_cell HN1.out.res 0
 have hf0 := blk_frozen HN1.out.res 0
 have hc1 := blk_cell HN1.out.res 1
 have hf1 := blk_frozen HN1.out.res 1
 have hc2 := blk_cell HN1.out.res 2
 have hf2 := blk_frozen HN1.out.res 2
 have hc3 := blk_cell HN1.out.res 3
 have hf3 := blk_frozen HN1.out.res 3
 have ht1 := HN1.out.scan.text
 have hlt1 := HN1.out.lt
 go_wp2_with fail
 refine (has_eq s (i + 1) _).mono ?_
 rintro e w2 ⟨rfl, rfl⟩
 cases hp : Lib.hasPrefix (s.data.toList.drop (i + 1)) [61]
 ·have HE := Aside0.mk (show nextVal (s.data.toList.drop i) i = _ by unfold nextVal; rw [HT.out, if_neg (by rw [hp]; decide)])
  have HX := Aside0.mk (extract_one s i hi)
  clear hp HT
  go_wp2
  refine bodyPost_ret (results_ctt rfl _ _ w.heap.size 75 #[.int .i64 4, .int .i64 i, .int .i64 0, .string (s.extract i (i + 1))] (0, 0) _ rfl (put4 HN1.out.res _ _ _ _) Tryz.underlying75 rfl (by kernel_rfl)) rfl ?_
  refine ⟨?_, put4_below HN1.out.old (Nat.le_refl _) _ _ _ _⟩
  rw [HE.out, HX.out]; rfl
 ·obtain ⟨hx, h2⟩ := extract_two s i hi hp
  have HE := Aside0.mk (show nextVal (s.data.toList.drop i) i = _ by unfold nextVal; rw [HT.out, if_pos hp])
  have HX := Aside0.mk hx
  clear hp hx HT
  go_wp2
  refine bodyPost_ret (results_ctt rfl _ _ w.heap.size 75 #[.int .i64 4, .int .i64 i, .int .i64 0, .string (s.extract i (i + 2))] (0, 0) _ rfl (put4 HN1.out.res _ _ _ _) Tryz.underlying75 rfl (by kernel_rfl)) rfl ?_
  refine ⟨?_, put4_below HN1.out.old (Nat.le_refl _) _ _ _ _⟩
  rw [HE.out, HX.out]; rfl
set_option maxRecDepth 100000 in
theorem next_symbol (s : ByteArray) (b : Nat) (i : Nat) (w : World) (h : IsScan w b s) (hi : i < s.size) (hc : cls s[i] = 9) :
  Calls Tryz.prog 79 #[.pointer (some ⟨b, 0, none⟩), .int .i64 i] w (NextPost s i w) := by
 have hs := h.size
 have HN0 := Aside0.mk (NS.start h)
 clear h
 have HE := Aside0.mk (show nextVal (s.data.toList.drop i) i = _ by unfold nextVal; rw [tok_sym s i hi hc])
 have HX := Aside0.mk (extract_one s i hi)
 have HCC := Aside0.mk hc
 clear hc
 go_enter Tryz.func79, Tryz.ntmps79
 go_wp2_with fail
 refine (at_in s b i _ HN0.out.scan hi).mono ?_
 rintro e w1 ⟨rfl, hd⟩
 rw [HCC.out]
 have HN1 := Aside0.mk (HN0.out.step hd.below)
 clear hd HN0
 have hc0 := blk_cell HN1.out.res 0
 have hf0 := blk_frozen HN1.out.res 0
 have hc1 := blk_cell HN1.out.res 1
 have hf1 := blk_frozen HN1.out.res 1
 have hc2 := blk_cell HN1.out.res 2
 have hf2 := blk_frozen HN1.out.res 2
 have hc3 := blk_cell HN1.out.res 3
 have hf3 := blk_frozen HN1.out.res 3
 have ht1 := HN1.out.scan.text
 have hlt1 := HN1.out.lt
 go_wp2
 refine bodyPost_ret (results_ctt rfl _ _ w.heap.size 75 #[.int .i64 4, .int .i64 i, .int .i64 0, .string (s.extract i (i + 1))] (0, 0) _ rfl (put4 HN1.out.res _ _ _ _) Tryz.underlying75 rfl (by kernel_rfl)) rfl ?_
 refine ⟨?_, put4_below HN1.out.old (Nat.le_refl _) _ _ _ _⟩
 rw [HE.out, HX.out]; rfl
end Go.Proofs.YtkgmempifggajaaGreatDoor.P
/- The scanner's cells. -/
namespace Go.Proofs.YtkgmempifggajaaGreatDoor.P
open Go.RowKit Go.Proofs.YtkgmempifggajaaGreatDoorW.PrintWords Go.Proofs.YtkgmempifggajaaGreatDoorW.PrintLast Go.Proofs.YtkgmempifggajaaGreatDoorW.PrintMore
set_option linter.unusedVariables false
set_option linter.unusedSimpArgs false
noncomputable def scanCells (s : ByteArray) : Array Value := #[.string s] ++ clsCells
theorem build_scan (s : ByteArray) (w : World) : (Instr.build 95 #[(0, .string s), (1, .agg clsCells)]).run Tryz.prog w = .ok (.agg (scanCells s)) w := by kernel_rfl
theorem scan_size (s : ByteArray) : scanCells s = #[.string s] ++ clsCells := rfl
theorem scan_sz (s : ByteArray) : (scanCells s).size = 257 := by kernel_rfl
theorem scan_one (s : ByteArray) : (scanCells s).all (·.oneCell') = true := by kernel_rfl
theorem scan_info : (Tryz.prog.info? 95).map (·.size) = some 257 := by kernel_rfl
theorem scan_zero : Tryz.zeroCells95.size = 257 := by kernel_rfl
theorem scan_is (s : ByteArray) (w : World) (b : Nat) (h : w.heap[b]? = some (.cells (scanCells s) 95 (0, 0))) (hs : s.size ≤ 20000) : IsScan w b s := by
 refine ⟨(blk_cell h 0).trans (by kernel_rfl), fun c => ?_, hs⟩
 rw [blk_cell h]
 have hl : clsCells.size = 256 := by kernel_rfl
 rw [scan_size, Array.getElem?_append_right (by simp)]
 simp only [List.size_toArray, List.length_cons, List.length_nil, Nat.zero_add, Nat.add_sub_cancel_left]
 unfold clsCells
 simp [List.getElem?_toArray, c.toNat_lt]
end Go.Proofs.YtkgmempifggajaaGreatDoor.P
