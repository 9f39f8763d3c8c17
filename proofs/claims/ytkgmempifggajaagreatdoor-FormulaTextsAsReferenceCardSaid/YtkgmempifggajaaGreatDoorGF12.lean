/- What the statement's proof builds on: TextA, TextB, TextC, TextD, SameF, NameA, SameLaw, RoundA. -/
import Derived.Test.YtkgmempifggajaaGreatDoorGF11
import Derived.Lib.SmallJoins
import Derived.Deep.RegionHeld3
/- formula's symbols; strconv.Itoa. -/
namespace Go.Proofs.YtkgmempifggajaaGreatDoor.P
open Go.RowKit Go.Proofs.YtkgmempifggajaaGreatDoorW.PrintWords Go.Proofs.YtkgmempifggajaaGreatDoorW.PrintLast Go.Proofs.YtkgmempifggajaaGreatDoorW.PrintMore
set_option linter.unusedVariables false
set_option linter.unusedSimpArgs false
def symL : List (List UInt8) := [[], [61], [33, 61], [60], [60, 61], [62], [62, 61]]
theorem symbols_calls (w : World) :
  Calls Tryz.prog 72 #[] w fun e w' => e = .returned (.agg #[.string ⟨#[]⟩, .string ⟨#[61]⟩, .string ⟨#[33, 61]⟩, .string ⟨#[60]⟩, .string ⟨#[60, 61]⟩, .string ⟨#[62]⟩, .string ⟨#[62, 61]⟩]) ∧ Below w.heap.size w w' := by
 go_enter Tryz.func72, Tryz.ntmps72
 go_wp2
 refine bodyPost_ret (results_cell_row rfl _ _ w.heap.size 87 _ (0,0) _ rfl (by (repeat (first | (refine blk_new _ _ ?_; first | rfl | (simp; done)) | refine blk_alloc_old ?_ _ | refine blk_drew_old ?_ | refine blk_drewN_old ?_ _ | assumption))) Tryz.underlying87 rfl (by kernel_rfl)) rfl ?_
 exact ⟨rfl, below_alloc (Below.refl _ _) _⟩
structure Tab (B : Int) (w : World) : Prop where
 tab : 100 ≤ B → Lib.TabIs Tryz.prog w "internal/strconv.uint64pow10" .u64 Lib.pow10Tab
theorem Tab.small (w : World) : Tab 99 w := ⟨fun h => absurd h (by decide)⟩
theorem tab_named : ∃ g, Tryz.prog.globalNamed "internal/strconv.uint64pow10" = some g := by
 exact Option.isSome_iff_exists.1 (by kernel_rfl)
theorem Tab.below {K : Int} {w w1 : World} {B : Nat} (h : Tab K w) (hb : Below B w w1) (hB : w.heap.size ≤ B) : Tab K w1 := by
 obtain ⟨g, hg⟩ := tab_named
 exact ⟨fun hk => Go.Joins.tab_stays hg (h.tab hk) hb hB⟩
theorem below_grow (w : World) (os : Array Obj) : Below w.heap.size w (Go.Sort.grow w os) :=
 ⟨rfl, rfl, rfl, by simp, fun j hj => Go.Sort.heap_grow_old w os hj⟩
theorem itoa_nat (i : Nat) : Lib.itoa (i : Int) = Lib.decDigits i := by
 unfold Lib.itoa
 rw [if_neg (by omega)]
 simp
theorem itoa_calls (n : Int) (K : Int) (w : World) (h0 : 0 ≤ n) (h1 : n ≤ 1000000) (hK : n ≤ K) (hT : Tab K w) :
  Calls Tryz.prog 73 #[.int .i64 n] w fun e w' => e = .returned (.string ⟨(Lib.itoa n).toArray⟩) ∧ Below w.heap.size w w' := by
 by_cases h : n < 100
 ·obtain ⟨i, rfl⟩ := Int.eq_ofNat_of_zero_le h0
  refine (Tryz.strconv_Itoa_small i (by omega) w).mono ?_
  rintro e w' ⟨rfl, rfl⟩
  exact ⟨by rw [itoa_nat], Below.refl _ _⟩
 ·refine (Tryz.strconv_Itoa n (by omega) (by omega) w (hT.tab (by omega))).mono ?_
  rintro e w' ⟨rfl, k, os, rfl⟩
  exact ⟨rfl, ⟨rfl, rfl, rfl, by simp, fun j hj => (below_grow (w.drewN k) os).block j hj⟩⟩
end Go.Proofs.YtkgmempifggajaaGreatDoor.P
/- formula.text: what it computes; at a test. -/
namespace Go.Proofs.YtkgmempifggajaaGreatDoor.P
open Go.RowKit Go.Proofs.YtkgmempifggajaaGreatDoorW.PrintWords Go.Proofs.YtkgmempifggajaaGreatDoorW.PrintLast Go.Proofs.YtkgmempifggajaaGreatDoorW.PrintMore
set_option linter.unusedVariables false
set_option linter.unusedSimpArgs false
def sym (n : Int) : List UInt8 := symL.getD n.toNat []
def wrap (op : Int) (k : Fm) (s : List UInt8) : List UInt8 := if k.f0 = 6 ∨ (k.f0 = 5 ∧ op ≠ 6) then 40 :: s ++ [41] else s
def tTrue : List UInt8 := [116, 114, 117, 101]
def tFalse : List UInt8 := [102, 97, 108, 115, 101]
def tNot : List UInt8 := [110, 111, 116, 32]
def tAnd : List UInt8 := [32, 97, 110, 100, 32]
def tOr : List UInt8 := [32, 111, 114, 32]
mutual
def textL : Fm → List UInt8
 | ⟨op, name, cmp, n, kids⟩ =>
  if op = 1 then tTrue else if op = 2 then tFalse else if op = 3 then name.data.toList ++ 32 :: sym cmp ++ 32 :: Lib.itoa n
  else if op = 4 then tNot ++ (textsL op kids).headD [] else if op = 5 then Lib.join (textsL op kids) tAnd else Lib.join (textsL op kids) tOr
def textsL (op : Int) : List Fm → List (List UInt8)
 | [] => []
 | k :: ks => wrap op k (textL k) :: textsL op ks
end
theorem textL_eq (x : Fm) : textL x = if x.f0 = 1 then tTrue else if x.f0 = 2 then tFalse else if x.f0 = 3 then x.f1.data.toList ++ 32 :: sym x.f2 ++ 32 :: Lib.itoa x.f3
  else if x.f0 = 4 then tNot ++ (textsL x.f0 x.f4).headD [] else if x.f0 = 5 then Lib.join (textsL x.f0 x.f4) tAnd else Lib.join (textsL x.f0 x.f4) tOr := by cases x; simp [textL]
theorem textsL_len (op : Int) (l : List Fm) : (textsL op l).length = l.length := by induction l with
 | nil => rfl
 | cons a l ih => simp [textsL, ih]
theorem textsL_append (op : Int) (l m : List Fm) : textsL op (l ++ m) = textsL op l ++ textsL op m := by induction l with
 | nil => rfl
 | cons a l ih => simp [textsL, ih]
theorem textsL_snoc (op : Int) (l : List Fm) (k : Nat) (h : k < l.length) : textsL op (l.take (k + 1)) = textsL op (l.take k) ++ [wrap op l[k] (textL l[k])] := by
 rw [take_snoc_ l k h, textsL_append]; rfl
theorem textsL_get (op : Int) (l : List Fm) (k : Nat) (h : k < l.length) : (textsL op l)[k]? = some (wrap op l[k] (textL l[k])) := by
 induction l generalizing k with
 | nil => simp at h
 | cons a l ih =>
  cases k with
  | zero => simp [textsL]
  | succ k => simp only [List.length_cons] at h; simp [textsL, ih k (by omega)]
theorem bytes_of {a : ByteArray} {l : List UInt8} (h : a.data.toList = l) : a = ⟨l.toArray⟩ := by cases a; simp at h; subst h; simp
theorem lt_of_cell {w : World} {a : Addr} {v : Value} (h : w.cell? a = some v) : a.block < w.heap.size := by
 rcases Nat.lt_or_ge a.block w.heap.size with h' | h'
 ·exact h'
 ·simp [World.cell?, Array.getElem?_eq_none h'] at h
theorem cell_step {w1 w2 : World} (hb : Below w1.heap.size w1 w2) {a : Addr} {v : Value} (h : w1.cell? a = some v) : w2.cell? a = some v := (hb.cell (lt_of_cell h)).trans h
theorem keepT {K : Int} {w w1 w2 : World} {b : Nat} {v1 v2 v3 : Value} (hb : Below w1.heap.size w1 w2) (h1 : w1.cell? ⟨b, 1, none⟩ = some v1) (h2 : w1.cell? ⟨b, 2, none⟩ = some v2) (h3 : w1.cell? ⟨b, 3, none⟩ = some v3) (hT : Tab K w1) (hB : Below w.heap.size w w1) :
  w2.cell? ⟨b, 1, none⟩ = some v1 ∧ w2.cell? ⟨b, 2, none⟩ = some v2 ∧ w2.cell? ⟨b, 3, none⟩ = some v3 ∧ Tab K w2 ∧ Below w.heap.size w w2 :=
 ⟨cell_step hb h1, cell_step hb h2, cell_step hb h3, hT.below hb (Nat.le_refl _), hB.trans (hb.mono hB.size)⟩
theorem sym_at1 (W : World) : (Instr.index 87 (.agg #[.string ⟨#[]⟩, .string ⟨#[61]⟩, .string ⟨#[33, 61]⟩, .string ⟨#[60]⟩, .string ⟨#[60, 61]⟩, .string ⟨#[62]⟩, .string ⟨#[62, 61]⟩]) (.int .i64 1)).run Tryz.prog W = .ok (.string { data := #[61] }) W := by
 simp [Instr.index, run_underlying Tryz.underlying87, asIntOf, go_sem]
theorem sym_at2 (W : World) : (Instr.index 87 (.agg #[.string ⟨#[]⟩, .string ⟨#[61]⟩, .string ⟨#[33, 61]⟩, .string ⟨#[60]⟩, .string ⟨#[60, 61]⟩, .string ⟨#[62]⟩, .string ⟨#[62, 61]⟩]) (.int .i64 2)).run Tryz.prog W = .ok (.string { data := #[33, 61] }) W := by
 simp [Instr.index, run_underlying Tryz.underlying87, asIntOf, go_sem]
theorem sym_at3 (W : World) : (Instr.index 87 (.agg #[.string ⟨#[]⟩, .string ⟨#[61]⟩, .string ⟨#[33, 61]⟩, .string ⟨#[60]⟩, .string ⟨#[60, 61]⟩, .string ⟨#[62]⟩, .string ⟨#[62, 61]⟩]) (.int .i64 3)).run Tryz.prog W = .ok (.string { data := #[60] }) W := by
 simp [Instr.index, run_underlying Tryz.underlying87, asIntOf, go_sem]
theorem sym_at4 (W : World) : (Instr.index 87 (.agg #[.string ⟨#[]⟩, .string ⟨#[61]⟩, .string ⟨#[33, 61]⟩, .string ⟨#[60]⟩, .string ⟨#[60, 61]⟩, .string ⟨#[62]⟩, .string ⟨#[62, 61]⟩]) (.int .i64 4)).run Tryz.prog W = .ok (.string { data := #[60, 61] }) W := by
 simp [Instr.index, run_underlying Tryz.underlying87, asIntOf, go_sem]
theorem sym_at5 (W : World) : (Instr.index 87 (.agg #[.string ⟨#[]⟩, .string ⟨#[61]⟩, .string ⟨#[33, 61]⟩, .string ⟨#[60]⟩, .string ⟨#[60, 61]⟩, .string ⟨#[62]⟩, .string ⟨#[62, 61]⟩]) (.int .i64 5)).run Tryz.prog W = .ok (.string { data := #[62] }) W := by
 simp [Instr.index, run_underlying Tryz.underlying87, asIntOf, go_sem]
theorem sym_at6 (W : World) : (Instr.index 87 (.agg #[.string ⟨#[]⟩, .string ⟨#[61]⟩, .string ⟨#[33, 61]⟩, .string ⟨#[60]⟩, .string ⟨#[60, 61]⟩, .string ⟨#[62]⟩, .string ⟨#[62, 61]⟩]) (.int .i64 6)).run Tryz.prog W = .ok (.string { data := #[62, 61] }) W := by
 simp [Instr.index, run_underlying Tryz.underlying87, asIntOf, go_sem]
theorem keepH {K : Int} {w w1 w2 : World} {b : Nat} {v1 v2 v3 : Value} (hb : Below w1.heap.size w1 w2) (h : w1.cell? ⟨b, 1, none⟩ = some v1 ∧ w1.cell? ⟨b, 2, none⟩ = some v2 ∧ w1.cell? ⟨b, 3, none⟩ = some v3 ∧ Tab K w1 ∧ Below w.heap.size w w1) :
  w2.cell? ⟨b, 1, none⟩ = some v1 ∧ w2.cell? ⟨b, 2, none⟩ = some v2 ∧ w2.cell? ⟨b, 3, none⟩ = some v3 ∧ Tab K w2 ∧ Below w.heap.size w w2 := keepT hb h.1 h.2.1 h.2.2.1 h.2.2.2.1 h.2.2.2.2
theorem tab_of {K : Int} {w : World} {p q r s : Prop} (h : p ∧ q ∧ r ∧ Tab K w ∧ s) : Tab K w := h.2.2.2.1
set_option maxHeartbeats 4000000 in
set_option maxRecDepth 100000 in
theorem text_test (x : Fm) (A : Option Addr) (c : Nat) (w : World) (K : Int) (hT : Tab K w) (hK : x.f3 ≤ K) (h3 : x.f0 = 3) (hc1 : 1 ≤ x.f2) (hc2 : x.f2 ≤ 6) (hn0 : 0 ≤ x.f3) (hn1 : x.f3 ≤ 1000000) (hN : (textL x).length ≤ 8000000) :
  Calls Tryz.prog 52 #[.agg #[.int .i64 x.f0, .string x.f1, .int .i64 x.f2, .int .i64 x.f3, .slice A x.f4.length c]] w fun e w' => e = .returned (.string ⟨(textL x).toArray⟩) ∧ Below w.heap.size w w' := by
 have hX : textL x = x.f1.data.toList ++ 32 :: sym x.f2 ++ 32 :: Lib.itoa x.f3 := by
  rw [textL_eq, if_neg (by omega), if_neg (by omega), if_pos h3]
 obtain ⟨op, name, cmp, n, kids⟩ := x
 simp only at h3 hc1 hc2 hn0 hn1 hK hX ⊢
 subst h3
 obtain ⟨len, hlen⟩ : ∃ len, kids.length = len := ⟨_, rfl⟩
 obtain ⟨t, ht⟩ : ∃ t, textL ⟨3, name, cmp, n, kids⟩ = t := ⟨_, rfl⟩
 rw [ht] at hX hN ⊢
 rw [hlen]
 clear hlen ht
 obtain ⟨it, hit⟩ : ∃ it, Lib.itoa n = it := ⟨_, rfl⟩
 rw [hit] at hX
 have HIT := Aside0.mk hit
 have H0 := Aside0.mk hn0
 have H1 := Aside0.mk hn1
 have HK := Aside0.mk hK
 have hsz : name.data.toList.length = name.size := Array.length_toList
 have hS : name.size + (sym cmp).length + it.length ≤ 8000000 := by
  rw [hX] at hN; simp only [List.length_append, List.length_cons] at hN; omega
 have HX := Aside0.mk hX
 obtain ⟨sy, hsy⟩ : ∃ sy, sym cmp = sy := ⟨_, rfl⟩
 rw [hsy] at hS
 have hsyl : sy.length ≤ 2 := by
  rw [← hsy]; rcases (show cmp = 1 ∨ cmp = 2 ∨ cmp = 3 ∨ cmp = 4 ∨ cmp = 5 ∨ cmp = 6 by omega) with rfl | rfl | rfl | rfl | rfl | rfl <;> decide
 have a1 : ∀ W : World, (Op.stringOp .add name { data := #[32] }).run Tryz.prog W = .ok (.string (name ++ { data := #[32] })) W := fun W => run_string_add_sum _ _ _ (by simp only [ByteArray.size_mk']; show name.size + 1 ≤ _; omega)
 have HL := Aside0.mk hS
 clear hX hN hS hsz hn0 hn1 hit hK
 rcases (show cmp = 1 ∨ cmp = 2 ∨ cmp = 3 ∨ cmp = 4 ∨ cmp = 5 ∨ cmp = 6 by omega) with rfl | rfl | rfl | rfl | rfl | rfl
 ·have hq : sy = (#[61] : Array UInt8).toList := hsy.symm
  subst hq
  have a2 : ∀ W : World, (Op.stringOp .add (name ++ { data := #[32] }) { data := #[61] }).run Tryz.prog W = .ok (.string (name ++ { data := #[32] } ++ { data := #[61] })) W := fun W => run_string_add_sum _ _ _ (by have := HL.out; simp only [ByteArray.size_append', ByteArray.size_mk'] at this ⊢; show name.size + 1 + #[61].size ≤ _; simp; omega)
  have a3 : ∀ W : World, (Op.stringOp .add (name ++ { data := #[32] } ++ { data := #[61] }) { data := #[32] }).run Tryz.prog W = .ok (.string (name ++ { data := #[32] } ++ { data := #[61] } ++ { data := #[32] })) W := fun W => run_string_add_sum _ _ _ (by have := HL.out; simp only [ByteArray.size_append', ByteArray.size_mk'] at this ⊢; show name.size + 1 + #[61].size + 1 ≤ _; simp; omega)
  have a4 : ∀ W : World, (Op.stringOp .add (name ++ { data := #[32] } ++ { data := #[61] } ++ { data := #[32] }) { data := it.toArray }).run Tryz.prog W = .ok (.string (name ++ { data := #[32] } ++ { data := #[61] } ++ { data := #[32] } ++ { data := it.toArray })) W := fun W => run_string_add_sum _ _ _ (by have := HL.out; simp only [ByteArray.size_append', ByteArray.size_mk'] at this ⊢; show name.size + 1 + #[61].size + 1 + it.toArray.size ≤ _; simp; omega)
  clear hc1 hc2 hsyl hsy
  have ai := sym_at1
  go_enter Tryz.func52, Tryz.ntmps52
  go_wp2_with fail
  have hT1 : Tab K (w.alloc (.cells #[.int .i64 3, .string name, .int .i64 1, .int .i64 n, .slice A len c] 24 (0, 0))).drew := ⟨(hT.below (below_alloc (Below.refl w.heap.size w) (.cells #[.int .i64 3, .string name, .int .i64 1, .int .i64 n, .slice A len c] 24 (0, 0))) (Nat.le_refl _)).tab⟩
  have hB1 : Below w.heap.size w (w.alloc (.cells #[.int .i64 3, .string name, .int .i64 1, .int .i64 n, .slice A len c] 24 (0, 0))).drew := ((Same.of_below (S := fun _ => False) (below_alloc (Below.refl w.heap.size w) (.cells #[.int .i64 3, .string name, .int .i64 1, .int .i64 n, .slice A len c] 24 (0, 0)))).drew).below0
  go_region_held3 (fun w' => w'.cell? ⟨w.heap.size, 1, none⟩ = some (.string name) ∧ w'.cell? ⟨w.heap.size, 2, none⟩ = some (.int .i64 1) ∧ w'.cell? ⟨w.heap.size, 3, none⟩ = some (.int .i64 n) ∧ Tab K w' ∧ Below w.heap.size w w')
   (first | (exact keepH (by assumption) (by assumption)) | (refine keepT (by assumption) ?_ ?_ ?_ ?_ ?_ <;> first | assumption | (simp; done)) | (refine ⟨?_, ?_, ?_, hT1, hB1⟩ <;> simp [*]) | go_keep)
   (first
    | (go_at_call 72; refine (symbols_calls _).mono ?_; rintro e w' ⟨rfl, hb⟩)
    | (go_at_call 73; refine (itoa_calls n K _ (by have := H0.out; omega) (by have := H1.out; omega) HK.out (tab_of (by assumption))).mono ?_; rintro e w' ⟨rfl, hb⟩; rw [HIT.out]))
  all_goals
   rename_i hH
   have HBf := hH.2.2.2.2
   have HE := Aside0.mk (show name ++ { data := #[32] } ++ { data := #[61] } ++ { data := #[32] } ++ { data := it.toArray } = (⟨t.toArray⟩ : ByteArray) from by
    refine bytes_of ?_
    rw [HX.out]
    simp [ByteArray.data_append, sym, symL])
   clear hH a1 a2 a3 a4 ai hT1 hB1
   try go_wp2
   go_ret
   exact ⟨by rw [HE.out]; rfl, HBf⟩
 ·have hq : sy = (#[33, 61] : Array UInt8).toList := hsy.symm
  subst hq
  have a2 : ∀ W : World, (Op.stringOp .add (name ++ { data := #[32] }) { data := #[33, 61] }).run Tryz.prog W = .ok (.string (name ++ { data := #[32] } ++ { data := #[33, 61] })) W := fun W => run_string_add_sum _ _ _ (by have := HL.out; simp only [ByteArray.size_append', ByteArray.size_mk'] at this ⊢; show name.size + 1 + #[33, 61].size ≤ _; simp; omega)
  have a3 : ∀ W : World, (Op.stringOp .add (name ++ { data := #[32] } ++ { data := #[33, 61] }) { data := #[32] }).run Tryz.prog W = .ok (.string (name ++ { data := #[32] } ++ { data := #[33, 61] } ++ { data := #[32] })) W := fun W => run_string_add_sum _ _ _ (by have := HL.out; simp only [ByteArray.size_append', ByteArray.size_mk'] at this ⊢; show name.size + 1 + #[33, 61].size + 1 ≤ _; simp; omega)
  have a4 : ∀ W : World, (Op.stringOp .add (name ++ { data := #[32] } ++ { data := #[33, 61] } ++ { data := #[32] }) { data := it.toArray }).run Tryz.prog W = .ok (.string (name ++ { data := #[32] } ++ { data := #[33, 61] } ++ { data := #[32] } ++ { data := it.toArray })) W := fun W => run_string_add_sum _ _ _ (by have := HL.out; simp only [ByteArray.size_append', ByteArray.size_mk'] at this ⊢; show name.size + 1 + #[33, 61].size + 1 + it.toArray.size ≤ _; simp; omega)
  clear hc1 hc2 hsyl hsy
  have ai := sym_at2
  go_enter Tryz.func52, Tryz.ntmps52
  go_wp2_with fail
  have hT1 : Tab K (w.alloc (.cells #[.int .i64 3, .string name, .int .i64 2, .int .i64 n, .slice A len c] 24 (0, 0))).drew := ⟨(hT.below (below_alloc (Below.refl w.heap.size w) (.cells #[.int .i64 3, .string name, .int .i64 2, .int .i64 n, .slice A len c] 24 (0, 0))) (Nat.le_refl _)).tab⟩
  have hB1 : Below w.heap.size w (w.alloc (.cells #[.int .i64 3, .string name, .int .i64 2, .int .i64 n, .slice A len c] 24 (0, 0))).drew := ((Same.of_below (S := fun _ => False) (below_alloc (Below.refl w.heap.size w) (.cells #[.int .i64 3, .string name, .int .i64 2, .int .i64 n, .slice A len c] 24 (0, 0)))).drew).below0
  go_region_held3 (fun w' => w'.cell? ⟨w.heap.size, 1, none⟩ = some (.string name) ∧ w'.cell? ⟨w.heap.size, 2, none⟩ = some (.int .i64 2) ∧ w'.cell? ⟨w.heap.size, 3, none⟩ = some (.int .i64 n) ∧ Tab K w' ∧ Below w.heap.size w w')
   (first | (exact keepH (by assumption) (by assumption)) | (refine keepT (by assumption) ?_ ?_ ?_ ?_ ?_ <;> first | assumption | (simp; done)) | (refine ⟨?_, ?_, ?_, hT1, hB1⟩ <;> simp [*]) | go_keep)
   (first
    | (go_at_call 72; refine (symbols_calls _).mono ?_; rintro e w' ⟨rfl, hb⟩)
    | (go_at_call 73; refine (itoa_calls n K _ (by have := H0.out; omega) (by have := H1.out; omega) HK.out (tab_of (by assumption))).mono ?_; rintro e w' ⟨rfl, hb⟩; rw [HIT.out]))
  all_goals
   rename_i hH
   have HBf := hH.2.2.2.2
   have HE := Aside0.mk (show name ++ { data := #[32] } ++ { data := #[33, 61] } ++ { data := #[32] } ++ { data := it.toArray } = (⟨t.toArray⟩ : ByteArray) from by
    refine bytes_of ?_
    rw [HX.out]
    simp [ByteArray.data_append, sym, symL])
   clear hH a1 a2 a3 a4 ai hT1 hB1
   try go_wp2
   go_ret
   exact ⟨by rw [HE.out]; rfl, HBf⟩
 ·have hq : sy = (#[60] : Array UInt8).toList := hsy.symm
  subst hq
  have a2 : ∀ W : World, (Op.stringOp .add (name ++ { data := #[32] }) { data := #[60] }).run Tryz.prog W = .ok (.string (name ++ { data := #[32] } ++ { data := #[60] })) W := fun W => run_string_add_sum _ _ _ (by have := HL.out; simp only [ByteArray.size_append', ByteArray.size_mk'] at this ⊢; show name.size + 1 + #[60].size ≤ _; simp; omega)
  have a3 : ∀ W : World, (Op.stringOp .add (name ++ { data := #[32] } ++ { data := #[60] }) { data := #[32] }).run Tryz.prog W = .ok (.string (name ++ { data := #[32] } ++ { data := #[60] } ++ { data := #[32] })) W := fun W => run_string_add_sum _ _ _ (by have := HL.out; simp only [ByteArray.size_append', ByteArray.size_mk'] at this ⊢; show name.size + 1 + #[60].size + 1 ≤ _; simp; omega)
  have a4 : ∀ W : World, (Op.stringOp .add (name ++ { data := #[32] } ++ { data := #[60] } ++ { data := #[32] }) { data := it.toArray }).run Tryz.prog W = .ok (.string (name ++ { data := #[32] } ++ { data := #[60] } ++ { data := #[32] } ++ { data := it.toArray })) W := fun W => run_string_add_sum _ _ _ (by have := HL.out; simp only [ByteArray.size_append', ByteArray.size_mk'] at this ⊢; show name.size + 1 + #[60].size + 1 + it.toArray.size ≤ _; simp; omega)
  clear hc1 hc2 hsyl hsy
  have ai := sym_at3
  go_enter Tryz.func52, Tryz.ntmps52
  go_wp2_with fail
  have hT1 : Tab K (w.alloc (.cells #[.int .i64 3, .string name, .int .i64 3, .int .i64 n, .slice A len c] 24 (0, 0))).drew := ⟨(hT.below (below_alloc (Below.refl w.heap.size w) (.cells #[.int .i64 3, .string name, .int .i64 3, .int .i64 n, .slice A len c] 24 (0, 0))) (Nat.le_refl _)).tab⟩
  have hB1 : Below w.heap.size w (w.alloc (.cells #[.int .i64 3, .string name, .int .i64 3, .int .i64 n, .slice A len c] 24 (0, 0))).drew := ((Same.of_below (S := fun _ => False) (below_alloc (Below.refl w.heap.size w) (.cells #[.int .i64 3, .string name, .int .i64 3, .int .i64 n, .slice A len c] 24 (0, 0)))).drew).below0
  go_region_held3 (fun w' => w'.cell? ⟨w.heap.size, 1, none⟩ = some (.string name) ∧ w'.cell? ⟨w.heap.size, 2, none⟩ = some (.int .i64 3) ∧ w'.cell? ⟨w.heap.size, 3, none⟩ = some (.int .i64 n) ∧ Tab K w' ∧ Below w.heap.size w w')
   (first | (exact keepH (by assumption) (by assumption)) | (refine keepT (by assumption) ?_ ?_ ?_ ?_ ?_ <;> first | assumption | (simp; done)) | (refine ⟨?_, ?_, ?_, hT1, hB1⟩ <;> simp [*]) | go_keep)
   (first
    | (go_at_call 72; refine (symbols_calls _).mono ?_; rintro e w' ⟨rfl, hb⟩)
    | (go_at_call 73; refine (itoa_calls n K _ (by have := H0.out; omega) (by have := H1.out; omega) HK.out (tab_of (by assumption))).mono ?_; rintro e w' ⟨rfl, hb⟩; rw [HIT.out]))
  all_goals
   rename_i hH
   have HBf := hH.2.2.2.2
   have HE := Aside0.mk (show name ++ { data := #[32] } ++ { data := #[60] } ++ { data := #[32] } ++ { data := it.toArray } = (⟨t.toArray⟩ : ByteArray) from by
    refine bytes_of ?_
    rw [HX.out]
    simp [ByteArray.data_append, sym, symL])
   clear hH a1 a2 a3 a4 ai hT1 hB1
   try go_wp2
   go_ret
   exact ⟨by rw [HE.out]; rfl, HBf⟩
 ·have hq : sy = (#[60, 61] : Array UInt8).toList := hsy.symm
  subst hq
  have a2 : ∀ W : World, (Op.stringOp .add (name ++ { data := #[32] }) { data := #[60, 61] }).run Tryz.prog W = .ok (.string (name ++ { data := #[32] } ++ { data := #[60, 61] })) W := fun W => run_string_add_sum _ _ _ (by have := HL.out; simp only [ByteArray.size_append', ByteArray.size_mk'] at this ⊢; show name.size + 1 + #[60, 61].size ≤ _; simp; omega)
  have a3 : ∀ W : World, (Op.stringOp .add (name ++ { data := #[32] } ++ { data := #[60, 61] }) { data := #[32] }).run Tryz.prog W = .ok (.string (name ++ { data := #[32] } ++ { data := #[60, 61] } ++ { data := #[32] })) W := fun W => run_string_add_sum _ _ _ (by have := HL.out; simp only [ByteArray.size_append', ByteArray.size_mk'] at this ⊢; show name.size + 1 + #[60, 61].size + 1 ≤ _; simp; omega)
  have a4 : ∀ W : World, (Op.stringOp .add (name ++ { data := #[32] } ++ { data := #[60, 61] } ++ { data := #[32] }) { data := it.toArray }).run Tryz.prog W = .ok (.string (name ++ { data := #[32] } ++ { data := #[60, 61] } ++ { data := #[32] } ++ { data := it.toArray })) W := fun W => run_string_add_sum _ _ _ (by have := HL.out; simp only [ByteArray.size_append', ByteArray.size_mk'] at this ⊢; show name.size + 1 + #[60, 61].size + 1 + it.toArray.size ≤ _; simp; omega)
  clear hc1 hc2 hsyl hsy
  have ai := sym_at4
  go_enter Tryz.func52, Tryz.ntmps52
  go_wp2_with fail
  have hT1 : Tab K (w.alloc (.cells #[.int .i64 3, .string name, .int .i64 4, .int .i64 n, .slice A len c] 24 (0, 0))).drew := ⟨(hT.below (below_alloc (Below.refl w.heap.size w) (.cells #[.int .i64 3, .string name, .int .i64 4, .int .i64 n, .slice A len c] 24 (0, 0))) (Nat.le_refl _)).tab⟩
  have hB1 : Below w.heap.size w (w.alloc (.cells #[.int .i64 3, .string name, .int .i64 4, .int .i64 n, .slice A len c] 24 (0, 0))).drew := ((Same.of_below (S := fun _ => False) (below_alloc (Below.refl w.heap.size w) (.cells #[.int .i64 3, .string name, .int .i64 4, .int .i64 n, .slice A len c] 24 (0, 0)))).drew).below0
  go_region_held3 (fun w' => w'.cell? ⟨w.heap.size, 1, none⟩ = some (.string name) ∧ w'.cell? ⟨w.heap.size, 2, none⟩ = some (.int .i64 4) ∧ w'.cell? ⟨w.heap.size, 3, none⟩ = some (.int .i64 n) ∧ Tab K w' ∧ Below w.heap.size w w')
   (first | (exact keepH (by assumption) (by assumption)) | (refine keepT (by assumption) ?_ ?_ ?_ ?_ ?_ <;> first | assumption | (simp; done)) | (refine ⟨?_, ?_, ?_, hT1, hB1⟩ <;> simp [*]) | go_keep)
   (first
    | (go_at_call 72; refine (symbols_calls _).mono ?_; rintro e w' ⟨rfl, hb⟩)
    | (go_at_call 73; refine (itoa_calls n K _ (by have := H0.out; omega) (by have := H1.out; omega) HK.out (tab_of (by assumption))).mono ?_; rintro e w' ⟨rfl, hb⟩; rw [HIT.out]))
  all_goals
   rename_i hH
   have HBf := hH.2.2.2.2
   have HE := Aside0.mk (show name ++ { data := #[32] } ++ { data := #[60, 61] } ++ { data := #[32] } ++ { data := it.toArray } = (⟨t.toArray⟩ : ByteArray) from by
    refine bytes_of ?_
    rw [HX.out]
    simp [ByteArray.data_append, sym, symL])
   clear hH a1 a2 a3 a4 ai hT1 hB1
   try go_wp2
   go_ret
   exact ⟨by rw [HE.out]; rfl, HBf⟩
 ·have hq : sy = (#[62] : Array UInt8).toList := hsy.symm
  subst hq
  have a2 : ∀ W : World, (Op.stringOp .add (name ++ { data := #[32] }) { data := #[62] }).run Tryz.prog W = .ok (.string (name ++ { data := #[32] } ++ { data := #[62] })) W := fun W => run_string_add_sum _ _ _ (by have := HL.out; simp only [ByteArray.size_append', ByteArray.size_mk'] at this ⊢; show name.size + 1 + #[62].size ≤ _; simp; omega)
  have a3 : ∀ W : World, (Op.stringOp .add (name ++ { data := #[32] } ++ { data := #[62] }) { data := #[32] }).run Tryz.prog W = .ok (.string (name ++ { data := #[32] } ++ { data := #[62] } ++ { data := #[32] })) W := fun W => run_string_add_sum _ _ _ (by have := HL.out; simp only [ByteArray.size_append', ByteArray.size_mk'] at this ⊢; show name.size + 1 + #[62].size + 1 ≤ _; simp; omega)
  have a4 : ∀ W : World, (Op.stringOp .add (name ++ { data := #[32] } ++ { data := #[62] } ++ { data := #[32] }) { data := it.toArray }).run Tryz.prog W = .ok (.string (name ++ { data := #[32] } ++ { data := #[62] } ++ { data := #[32] } ++ { data := it.toArray })) W := fun W => run_string_add_sum _ _ _ (by have := HL.out; simp only [ByteArray.size_append', ByteArray.size_mk'] at this ⊢; show name.size + 1 + #[62].size + 1 + it.toArray.size ≤ _; simp; omega)
  clear hc1 hc2 hsyl hsy
  have ai := sym_at5
  go_enter Tryz.func52, Tryz.ntmps52
  go_wp2_with fail
  have hT1 : Tab K (w.alloc (.cells #[.int .i64 3, .string name, .int .i64 5, .int .i64 n, .slice A len c] 24 (0, 0))).drew := ⟨(hT.below (below_alloc (Below.refl w.heap.size w) (.cells #[.int .i64 3, .string name, .int .i64 5, .int .i64 n, .slice A len c] 24 (0, 0))) (Nat.le_refl _)).tab⟩
  have hB1 : Below w.heap.size w (w.alloc (.cells #[.int .i64 3, .string name, .int .i64 5, .int .i64 n, .slice A len c] 24 (0, 0))).drew := ((Same.of_below (S := fun _ => False) (below_alloc (Below.refl w.heap.size w) (.cells #[.int .i64 3, .string name, .int .i64 5, .int .i64 n, .slice A len c] 24 (0, 0)))).drew).below0
  go_region_held3 (fun w' => w'.cell? ⟨w.heap.size, 1, none⟩ = some (.string name) ∧ w'.cell? ⟨w.heap.size, 2, none⟩ = some (.int .i64 5) ∧ w'.cell? ⟨w.heap.size, 3, none⟩ = some (.int .i64 n) ∧ Tab K w' ∧ Below w.heap.size w w')
   (first | (exact keepH (by assumption) (by assumption)) | (refine keepT (by assumption) ?_ ?_ ?_ ?_ ?_ <;> first | assumption | (simp; done)) | (refine ⟨?_, ?_, ?_, hT1, hB1⟩ <;> simp [*]) | go_keep)
   (first
    | (go_at_call 72; refine (symbols_calls _).mono ?_; rintro e w' ⟨rfl, hb⟩)
    | (go_at_call 73; refine (itoa_calls n K _ (by have := H0.out; omega) (by have := H1.out; omega) HK.out (tab_of (by assumption))).mono ?_; rintro e w' ⟨rfl, hb⟩; rw [HIT.out]))
  all_goals
   rename_i hH
   have HBf := hH.2.2.2.2
   have HE := Aside0.mk (show name ++ { data := #[32] } ++ { data := #[62] } ++ { data := #[32] } ++ { data := it.toArray } = (⟨t.toArray⟩ : ByteArray) from by
    refine bytes_of ?_
    rw [HX.out]
    simp [ByteArray.data_append, sym, symL])
   clear hH a1 a2 a3 a4 ai hT1 hB1
   try go_wp2
   go_ret
   exact ⟨by rw [HE.out]; rfl, HBf⟩
 ·have hq : sy = (#[62, 61] : Array UInt8).toList := hsy.symm
  subst hq
  have a2 : ∀ W : World, (Op.stringOp .add (name ++ { data := #[32] }) { data := #[62, 61] }).run Tryz.prog W = .ok (.string (name ++ { data := #[32] } ++ { data := #[62, 61] })) W := fun W => run_string_add_sum _ _ _ (by have := HL.out; simp only [ByteArray.size_append', ByteArray.size_mk'] at this ⊢; show name.size + 1 + #[62, 61].size ≤ _; simp; omega)
  have a3 : ∀ W : World, (Op.stringOp .add (name ++ { data := #[32] } ++ { data := #[62, 61] }) { data := #[32] }).run Tryz.prog W = .ok (.string (name ++ { data := #[32] } ++ { data := #[62, 61] } ++ { data := #[32] })) W := fun W => run_string_add_sum _ _ _ (by have := HL.out; simp only [ByteArray.size_append', ByteArray.size_mk'] at this ⊢; show name.size + 1 + #[62, 61].size + 1 ≤ _; simp; omega)
  have a4 : ∀ W : World, (Op.stringOp .add (name ++ { data := #[32] } ++ { data := #[62, 61] } ++ { data := #[32] }) { data := it.toArray }).run Tryz.prog W = .ok (.string (name ++ { data := #[32] } ++ { data := #[62, 61] } ++ { data := #[32] } ++ { data := it.toArray })) W := fun W => run_string_add_sum _ _ _ (by have := HL.out; simp only [ByteArray.size_append', ByteArray.size_mk'] at this ⊢; show name.size + 1 + #[62, 61].size + 1 + it.toArray.size ≤ _; simp; omega)
  clear hc1 hc2 hsyl hsy
  have ai := sym_at6
  go_enter Tryz.func52, Tryz.ntmps52
  go_wp2_with fail
  have hT1 : Tab K (w.alloc (.cells #[.int .i64 3, .string name, .int .i64 6, .int .i64 n, .slice A len c] 24 (0, 0))).drew := ⟨(hT.below (below_alloc (Below.refl w.heap.size w) (.cells #[.int .i64 3, .string name, .int .i64 6, .int .i64 n, .slice A len c] 24 (0, 0))) (Nat.le_refl _)).tab⟩
  have hB1 : Below w.heap.size w (w.alloc (.cells #[.int .i64 3, .string name, .int .i64 6, .int .i64 n, .slice A len c] 24 (0, 0))).drew := ((Same.of_below (S := fun _ => False) (below_alloc (Below.refl w.heap.size w) (.cells #[.int .i64 3, .string name, .int .i64 6, .int .i64 n, .slice A len c] 24 (0, 0)))).drew).below0
  go_region_held3 (fun w' => w'.cell? ⟨w.heap.size, 1, none⟩ = some (.string name) ∧ w'.cell? ⟨w.heap.size, 2, none⟩ = some (.int .i64 6) ∧ w'.cell? ⟨w.heap.size, 3, none⟩ = some (.int .i64 n) ∧ Tab K w' ∧ Below w.heap.size w w')
   (first | (exact keepH (by assumption) (by assumption)) | (refine keepT (by assumption) ?_ ?_ ?_ ?_ ?_ <;> first | assumption | (simp; done)) | (refine ⟨?_, ?_, ?_, hT1, hB1⟩ <;> simp [*]) | go_keep)
   (first
    | (go_at_call 72; refine (symbols_calls _).mono ?_; rintro e w' ⟨rfl, hb⟩)
    | (go_at_call 73; refine (itoa_calls n K _ (by have := H0.out; omega) (by have := H1.out; omega) HK.out (tab_of (by assumption))).mono ?_; rintro e w' ⟨rfl, hb⟩; rw [HIT.out]))
  all_goals
   rename_i hH
   have HBf := hH.2.2.2.2
   have HE := Aside0.mk (show name ++ { data := #[32] } ++ { data := #[62, 61] } ++ { data := #[32] } ++ { data := it.toArray } = (⟨t.toArray⟩ : ByteArray) from by
    refine bytes_of ?_
    rw [HX.out]
    simp [ByteArray.data_append, sym, symL])
   clear hH a1 a2 a3 a4 ai hT1 hB1
   try go_wp2
   go_ret
   exact ⟨by rw [HE.out]; rfl, HBf⟩
end Go.Proofs.YtkgmempifggajaaGreatDoor.P
/- formula.text. -/
namespace Go.Proofs.YtkgmempifggajaaGreatDoor.P
open Go.RowKit Go.Proofs.YtkgmempifggajaaGreatDoorW.PrintWords Go.Proofs.YtkgmempifggajaaGreatDoorW.PrintLast Go.Proofs.YtkgmempifggajaaGreatDoorW.PrintMore
set_option linter.unusedVariables false
set_option linter.unusedSimpArgs false
def ba (l : List UInt8) : ByteArray := ⟨l.toArray⟩
theorem ba_toList (l : List UInt8) : (ba l).data.toList = l := by simp [ba]
theorem ba_size (l : List UInt8) : (ba l).size = l.length := by simp [ba, ByteArray.size]
theorem ba_append (l m : List UInt8) : ba l ++ ba m = ba (l ++ m) := bytes_of (by simp [ba, ByteArray.data_append])
theorem bad_of (x : Fm) (h : firstE badNode x = 0) : badNode x = 0 ∧ firstEs badNode x.f4 = 0 := by
 rw [firstE_eq] at h
 by_cases hb : badNode x = 0
 ·rw [if_pos hb] at h; exact ⟨hb, h⟩
 ·rw [if_neg hb] at h; exact absurd h hb
theorem firstEs_mem (g : Fm → Int) (l : List Fm) (h : firstEs g l = 0) (k : Nat) (hk : k < l.length) : firstE g l[k] = 0 := by
 induction l generalizing k with
 | nil => simp at hk
 | cons a l ih =>
  simp only [firstEs] at h
  by_cases ha : firstE g a = 0
  ·rw [if_pos ha] at h
   cases k with
   | zero => simpa using ha
   | succ k => simp only [List.length_cons] at hk; simpa using ih h k (by omega)
  ·rw [if_neg ha] at h; exact absurd h ha
theorem bad_node_of (x : Fm) (h : badNode x = 0) : formedB x = true ∧ (x.f0 = 3 → 0 ≤ x.f3 ∧ x.f3 ≤ 1000000 ∧ isKey x.f1 = false) := by
 unfold badNode at h
 cases hf : formedB x
 ·rw [if_pos hf] at h; exact absurd h (by decide)
 ·refine ⟨rfl, fun h3 => ?_⟩
  rw [if_neg (by rw [hf]; decide)] at h
  by_cases hb : x.f0 = 3 ∧ (x.f3 < 0 ∨ 1000000 < x.f3 ∨ isKey x.f1 = true)
  ·rw [if_pos hb] at h; exact absurd h (by decide)
  ·refine ⟨?_, ?_, ?_⟩
   ·rcases Int.lt_or_le x.f3 0 with h' | h'
    ·exact absurd ⟨h3, .inl h'⟩ hb
    ·exact h'
   ·rcases Int.lt_or_le 1000000 x.f3 with h' | h'
    ·exact absurd ⟨h3, .inr (.inl h')⟩ hb
    ·exact h'
   ·cases hk : isKey x.f1
    ·rfl
    ·exact absurd ⟨h3, .inr (.inr hk)⟩ hb
theorem formed_op (x : Fm) (h : formedB x = true) (h3 : x.f0 ≠ 3) : x.f0 = 1 ∨ x.f0 = 2 ∨ (x.f0 = 4 ∧ x.f4.length = 1) ∨ (x.f0 = 5 ∧ 2 ≤ x.f4.length) ∨ (x.f0 = 6 ∧ 2 ≤ x.f4.length) := by
 unfold formedB at h
 rw [if_neg h3] at h
 simp only [Bool.and_eq_true] at h
 have h := h.2
 split at h
 ·rename_i h'; rcases h' with h' | h'
  ·exact .inl h'
  ·exact .inr (.inl h')
 ·split at h
  ·rename_i h'; exact .inr (.inr (.inl ⟨h', by simpa using h⟩))
  ·simp at h
   rcases h with ⟨h1 | h1, h2⟩
   ·exact .inr (.inr (.inr (.inl ⟨h1, h2⟩)))
   ·exact .inr (.inr (.inr (.inr ⟨h1, h2⟩)))
theorem formed_test_of (x : Fm) (h : formedB x = true) (h3 : x.f0 = 3) : x.f4.length = 0 ∧ 1 ≤ x.f2 ∧ x.f2 ≤ 6 ∧ isName x.f1.data.toList = true ∧ isKey x.f1 = false := by
 unfold formedB at h
 rw [if_pos h3] at h
 simpa [and_assoc] using h
theorem join_len (l : List (List UInt8)) (sep : List UInt8) (k : Nat) (s : List UInt8) (h : l[k]? = some s) : s.length ≤ (Lib.join l sep).length := by
 induction l generalizing k with
 | nil => simp at h
 | cons a l ih =>
  cases l with
  | nil =>
   cases k with
   | zero => simp at h; subst h; simp [Lib.join]
   | succ k => simp at h
  | cons b l =>
   cases k with
   | zero => simp at h; subst h; simp [Lib.join]
   | succ k => have := ih k (by simpa using h); simp [Lib.join] at this ⊢; omega
theorem wrap_len (op : Int) (k : Fm) (s : List UInt8) : s.length ≤ (wrap op k s).length ∧ (wrap op k s).length ≤ s.length + 2 := by
 unfold wrap; split <;> simp <;> omega
theorem kid_len (x : Fm) (h : formedB x = true) (h3 : x.f0 ≠ 3) (k : Nat) (hk : k < x.f4.length) (h12 : x.f0 ≠ 1) (h2 : x.f0 ≠ 2) : (wrap x.f0 x.f4[k] (textL x.f4[k])).length ≤ (textL x).length := by
 have hg := textsL_get x.f0 x.f4 k hk
 rw [textL_eq x, if_neg h12, if_neg h2, if_neg h3]
 split
 ·rename_i h4
  rcases formed_op x h h3 with h' | h' | ⟨_, h'⟩ | ⟨h', _⟩ | ⟨h', _⟩
  all_goals try omega
  obtain rfl : k = 0 := by omega
  have e : (textsL x.f0 x.f4).headD [] = wrap x.f0 x.f4[0] (textL x.f4[0]) := by
   cases hl : textsL x.f0 x.f4 with
   | nil => rw [hl] at hg; simp at hg
   | cons a l => rw [hl] at hg; simpa using hg
  rw [e]; simp
 ·split
  ·exact join_len _ _ k _ hg
  ·exact join_len _ _ k _ hg
def kStr : Kd ByteArray := Kd.string
theorem sizes_len (l : List Fm) : l.length ≤ sizes l := by
 induction l with
 | nil => simp [sizes]
 | cons a l ih => have := size_pos a; simp [sizes]; omega
theorem paren_eq (t : List UInt8) : ({ data := #[40] } : ByteArray) ++ ba t ++ { data := #[41] } = ba (40 :: t ++ [41]) := bytes_of (by simp [ba, ByteArray.data_append])
theorem info_str : (Tryz.prog.info? 9).map (fun i => (i.zero, i.size, i.bytes)) = some (some (.string ⟨#[]⟩), 1, 16) := by kernel_rfl
theorem str_own {e : Nat} {w : World} {base : Nat} {ok : Nat → Prop} {v : Value} {xs : List ByteArray} (h : Kd.R kStr e w base ok v xs) (hx : 0 < xs.length) :
  ∃ g c, v = .slice (some ⟨g, 0, none⟩) xs.length c ∧ g < w.heap.size ∧ xs.length ≤ c ∧ ∀ (j : Nat) x, xs[j]? = some x → w.cell? ⟨g, 0 + j, none⟩ = some (.string x) := by
 obtain ⟨A, c, rfl, hc, hC⟩ := Kd.R_reads h
 obtain ⟨inner, ho⟩ := Kd.R_own h
 rcases ho.2 with ⟨e1, e2⟩ | ⟨g, cap, cur, e1, _, hb, _⟩
 ·omega
 ·injection e1 with e1 _ e3
  subst e1
  refine ⟨g, c, rfl, lt_of_block hb, hc, fun j x hj => ?_⟩
  obtain ⟨hj1, rfl⟩ := List.getElem?_eq_some_iff.1 hj
  obtain ⟨ad, e4, h4⟩ := scal_at (enc := Value.string) (h1 := fun _ => rfl) hC j hj1
  injection e4 with e4
  subst e4
  rw [Nat.zero_add]
  cases j with
  | zero => simpa [Addr.add] using h4
  | succ j => simpa [Addr.add] using h4
def numNode (K : Int) (x : Fm) : Int := if x.f3 ≤ K then 0 else 1
theorem num_of (K : Int) (x : Fm) (h : firstE (numNode K) x = 0) : x.f3 ≤ K ∧ firstEs (numNode K) x.f4 = 0 := by
 rw [firstE_eq] at h
 unfold numNode at h
 by_cases hb : x.f3 ≤ K
 ·rw [if_pos (by rw [if_pos hb])] at h; exact ⟨hb, h⟩
 ·rw [if_neg (by rw [if_neg hb]; decide), if_neg hb] at h; exact absurd h (by decide)
set_option maxHeartbeats 1000000 in
set_option maxRecDepth 100000 in
theorem text_calls (K : Int) (N : Nat) : ∀ (x : Fm) (A : Option Addr) (c : Nat) (w : World), size x ≤ N → firstE badNode x = 0 → firstE (numNode K) x = 0 → (textL x).length ≤ 8000000 → Tab K w → Kd.C kFm w A x.f4.length x.f4 → x.f4.length ≤ c → N ≤ 1000000 →
  Calls Tryz.prog 52 #[.agg #[.int .i64 x.f0, .string x.f1, .int .i64 x.f2, .int .i64 x.f3, .slice A x.f4.length c]] w fun e w' => e = .returned (.string (ba (textL x))) ∧ Below w.heap.size w w' := by
 induction N with
 | zero => intro x; intros; have := size_pos x; omega
 | succ N ih =>
 intro x A c w hN hbad hnum hlen hT hC hc hm1
 obtain ⟨hnK, hnkids⟩ := num_of K x hnum
 obtain ⟨hb0, hkids⟩ := bad_of x hbad
 obtain ⟨hf, hn3⟩ := bad_node_of x hb0
 have hm : x.f4.length ≤ 9223372036854775807 := hC.2.1
 by_cases h3 : x.f0 = 3
 ·obtain ⟨_, h1, h2, _⟩ := formed_test_of x hf h3
  exact text_test x A c w K hT hnK h3 h1 h2 (hn3 h3).1 (hn3 h3).2.1 hlen
 have HC := Aside0.mk hC
 have HN := Aside0.mk hN
 have HT := Aside0.mk hT
 have IH := Aside0.mk ih
 have HL := Aside0.mk hlen
 have HF := Aside0.mk hf
 have HK := Aside0.mk hkids
 have HKN := Aside0.mk hnkids
 have hop := formed_op x hf h3
 clear hC hN ih hT hlen hn3 hb0 hbad hkids hf hnum hnK hnkids
 by_cases h1 : x.f0 = 1
 ·have HX := Aside0.mk (show textL x = tTrue by rw [textL_eq, if_pos h1])
  rw [h1]
  clear hop h3
  go_enter Tryz.func52, Tryz.ntmps52
  go_wp2
  go_ret
  exact ⟨by rw [HX.out]; rfl, below_alloc (Below.refl _ _) _⟩
 by_cases h2 : x.f0 = 2
 ·have HX := Aside0.mk (show textL x = tFalse by rw [textL_eq, if_neg h1, if_pos h2])
  rw [h2]
  clear hop h3
  go_enter Tryz.func52, Tryz.ntmps52
  go_wp2
  go_ret
  exact ⟨by rw [HX.out]; rfl, below_alloc (Below.refl _ _) _⟩
 have hop2 : (x.f0 = 4 ∧ x.f4.length = 1) ∨ (x.f0 = 5 ∧ 2 ≤ x.f4.length) ∨ (x.f0 = 6 ∧ 2 ≤ x.f4.length) := by rcases hop with h | h | h | h | h <;> first | omega | simp [h] | exact .inr (.inl h)
 have HO := Aside0.mk hop2
 have HKL := Aside0.mk (fun k hk => kid_len x HF.out h3 k hk h1 h2)
 clear hop hop2
 have b1 : (x.f0 == 1) = false := by simpa using h1
 have b2 : (x.f0 == 2) = false := by simpa using h2
 have b3 : (x.f0 == 3) = false := by simpa using h3
 have H3 := Aside0.mk h3
 have H12 := Aside0.mk (And.intro h1 h2)
 clear h1 h2 h3
 go_enter Tryz.func52, Tryz.ntmps52
 go_wp2
 go_loopw [3, 31] (fun v3 v31 wr => ∃ k : Nat, k ≤ x.f4.length ∧ v31 = .int .i64 k ∧ Aside0 (Kd.R kStr 9 wr w.heap.size (fun q => q ≠ w.heap.size) v3 ((textsL x.f0 (x.f4.take k)).map ba)) ∧ Aside0 (Below w.heap.size w wr) ∧ Aside0 (wr.heap[w.heap.size]? = some (.cells #[.int .i64 x.f0, .string x.f1, .int .i64 x.f2, .int .i64 x.f3, .slice A x.f4.length c] 24 (0, 0)))) (fun _ v31 _ => x.f4.length - (intOf v31).toNat)
 case atStart => exact ⟨0, Nat.zero_le _, rfl, ⟨Kd.R_nil _ _ _ _ _⟩, ⟨below_alloc (Below.refl _ _) _⟩, ⟨by (repeat (first | (refine blk_new _ _ ?_; first | rfl | (simp; done)) | refine blk_alloc_old ?_ _ | refine blk_drew_old ?_ | refine blk_drewN_old ?_ _ | assumption))⟩⟩
 case round =>
  obtain ⟨k, hk, rfl, HR, HB, HBK⟩ := hrel
  by_cases hlt : k < x.f4.length
  ·obtain ⟨ad, A4, c4, rfl, k0, k1, k2, k3, k4, l4, C4⟩ := fm_atC (Kd.C_below HC.out HB.out) k hlt
   have HC4 := Aside0.mk C4
   clear C4
   have hz : w.heap.size < wr.heap.size := lt_of_block HBK.out
   obtain ⟨ls, hls⟩ : ∃ ls, (textsL x.f0 (x.f4.take k)).map ba = ls := ⟨_, rfl⟩
   have hll : ls.length = k := by rw [← hls, List.length_map, textsL_len, List.length_take]; omega
   rw [hls] at HR
   have HLS := Aside0.mk hls
   have HLL := Aside0.mk hll
   clear hls hll
   obtain ⟨A0, c0, rfl⟩ := Kd.R_slice HR.out
   have HSZ := Aside0.mk (size_mem x.f4 k hlt)
   have HSX := Aside0.mk (size_eq x)
   have hkl := HKL.out k hlt
   have hwl := wrap_len x.f0 x.f4[k] (textL x.f4[k])
   have hfl := size_eq x.f4[k]
   have hfl2 := sizes_len x.f4[k].f4
   have h8 := HL.out
   have hnk : x.f4[k].f4.length ≤ 1000000 := by have := HSZ.out; have := HSX.out; have := HN.out; omega
   have HN1 := Aside0.mk hm1
   have HLK := Aside0.mk (show (wrap x.f0 x.f4[k] (textL x.f4[k])).length ≤ 8000000 by omega)
   have HLT := Aside0.mk (show (textL x.f4[k]).length ≤ 8000000 by omega)
   clear hkl hwl hfl hfl2 h8
   go_wp2_with fail
   refine (IH.out x.f4[k] A4 c4 _ (by have := HSZ.out; have := HSX.out; have := HN.out; omega) (firstEs_mem _ _ HK.out k hlt) (firstEs_mem _ _ HKN.out k hlt) HLT.out ((HT.out.below HB.out (Nat.le_refl _)).below (below_alloc (Below.refl _ _) _) (Nat.le_refl _)) (Kd.C_below HC4.out (below_alloc (Below.refl _ _) _)) l4 (by have := HN1.out; omega)).mono ?_
   rintro e w2 ⟨rfl, hb⟩
   have hz2 : wr.heap.size < w2.heap.size := by have := hb.size; simp at this; omega
   have HBa := Aside0.mk (below_then (below_alloc (Below.refl wr.heap.size wr) _) (by simp) hb)
   have HB2 := Aside0.mk (HB.out.trans (HBa.out.mono HB.out.size))
   have HR2 := Aside0.mk (Kd.R_below HR.out HBa.out)
   have HBK2 := Aside0.mk ((HBa.out.block _ hz).trans HBK.out)
   have HKD2 := Aside0.mk (show w2.heap[wr.heap.size]? = some (.cells #[.int .i64 x.f4[k].f0, .string x.f4[k].f1, .int .i64 x.f4[k].f2, .int .i64 x.f4[k].f3, .slice A4 x.f4[k].f4.length c4] 24 (0, 0)) by rw [hb.block _ (by simp)]; (repeat (first | (refine blk_new _ _ ?_; first | rfl | (simp; done)) | refine blk_alloc_old ?_ _ | refine blk_drew_old ?_ | refine blk_drewN_old ?_ _ | assumption)))
   clear hb HBa HR HBK
   have hc0 := blk_cell HBK2.out 0
   have hk0 := blk_cell HKD2.out 0
   obtain ⟨t, ht⟩ : ∃ t, textL x.f4[k] = t := ⟨_, rfl⟩
   obtain ⟨s, hs⟩ : ∃ s, wrap x.f0 x.f4[k] (textL x.f4[k]) = s := ⟨_, rfl⟩
   have HSN := Aside0.mk (textsL_snoc x.f0 x.f4 k hlt)
   rw [hs] at HLK HSN
   rw [ht] at HLT hs ⊢
   clear ht
   obtain ⟨q, hq⟩ : ∃ q, x.f4[k].f0 = q := ⟨_, rfl⟩
   rw [hq] at hk0
   have HD : (q = 6 ∧ s = 40 :: t ++ [41]) ∨ (q ≠ 6 ∧ q = 5 ∧ x.f0 ≠ 6 ∧ s = 40 :: t ++ [41]) ∨ (q ≠ 6 ∧ q = 5 ∧ x.f0 = 6 ∧ s = t) ∨ (q ≠ 6 ∧ q ≠ 5 ∧ s = t) := by
    rw [← hs]
    unfold wrap
    rw [hq]
    by_cases h6 : q = 6
    ·exact .inl ⟨h6, if_pos (.inl h6)⟩
    by_cases h5 : q = 5
    ·by_cases h7 : x.f0 = 6
     ·exact .inr (.inr (.inl ⟨h6, h5, h7, if_neg (fun h => h.elim h6 (fun h => h.2 h7))⟩))
     ·exact .inr (.inl ⟨h6, h5, h7, if_pos (.inr ⟨h5, h7⟩)⟩)
    ·exact .inr (.inr (.inr ⟨h6, h5, if_neg (fun h => h.elim h6 (fun h => h5 h.1))⟩))
   have a1 : ∀ W : World, (Op.stringOp .add { data := #[40] } (ba t)).run Tryz.prog W = .ok (.string ({ data := #[40] } ++ ba t)) W := fun W => run_string_add_sum _ _ _ (by have := HLT.out; rw [ba_size]; show 1 + t.length ≤ _; omega)
   have a2 : ∀ W : World, (Op.stringOp .add ({ data := #[40] } ++ ba t) { data := #[41] }).run Tryz.prog W = .ok (.string (ba (40 :: t ++ [41]))) W := fun W => (run_string_add_sum _ _ _ (by have := HLT.out; rw [ByteArray.size_append', ba_size]; show 1 + t.length + 1 ≤ _; omega)).trans (by rw [paren_eq])
   clear hs
   have hll2 : ls.length ≤ 1000000 := by
    have := HLL.out; have := HSX.out; have := sizes_len x.f4; have := HN.out; have := HN1.out; omega
   have hbase : w.heap.size ≤ w2.heap.size := by omega
   rcases HD with ⟨h6, hs⟩ | ⟨h6, h5, h7, hs⟩ | ⟨h6, h5, h7, hs⟩ | ⟨h6, h5, hs⟩
   ·have b6 : (q == 6) = true := by simpa using h6
    rw [← hs] at a2
    have HE : True := trivial
    clear hs h6
    go_wp2_with (at_builtin; go_loud (refine Kd.R_append kStr w.heap.size rfl _ _ 86 9 _ 16 rfl Tryz.underlying86 info_str rfl (by decide) (by decide) (.slice A0 ls.length c0) ls (ba s) [.string (ba s)] (fun q => q ≠ w.heap.size) (fun _ => False) rfl (by simp [Act.eval]) rfl (fun _ h => h.elim) (fun q hq => by omega) HR2.out HB2.out hbase (by omega) ?_); intro v1 w4 hR hBB hG hat)
    have HR4 := Aside0.mk hR
    have HB4 := Aside0.mk hBB
    have HBK4 := Aside0.mk ((hG.block _ (by omega) (fun e => HR2.out.1 _ e.symm rfl)).trans HBK2.out)
    clear hR hBB hG hat
    go_wp2
    go_roundw
    case rel =>
     refine ⟨k + 1, by omega, by go_num, ⟨?_⟩, HB4, HBK4⟩
     rw [HSN.out, List.map_append, HLS.out]
     exact HR4.out
    case measure => simp [intOf]; omega
   ·have b6 : (q == 6) = false := by simpa using h6
    have b5 : (q == 5) = true := by simpa using h5
    have b7 : (x.f0 != 6) = true := by simpa using h7
    rw [← hs] at a2
    clear hs h6 h5 h7
    go_wp2_with (at_builtin; go_loud (refine Kd.R_append kStr w.heap.size rfl _ _ 86 9 _ 16 rfl Tryz.underlying86 info_str rfl (by decide) (by decide) (.slice A0 ls.length c0) ls (ba s) [.string (ba s)] (fun q => q ≠ w.heap.size) (fun _ => False) rfl (by simp [Act.eval]) rfl (fun _ h => h.elim) (fun q hq => by omega) HR2.out HB2.out hbase (by omega) ?_); intro v1 w4 hR hBB hG hat)
    have HR4 := Aside0.mk hR
    have HB4 := Aside0.mk hBB
    have HBK4 := Aside0.mk ((hG.block _ (by omega) (fun e => HR2.out.1 _ e.symm rfl)).trans HBK2.out)
    clear hR hBB hG hat
    go_wp2
    go_roundw
    case rel =>
     refine ⟨k + 1, by omega, by go_num, ⟨?_⟩, HB4, HBK4⟩
     rw [HSN.out, List.map_append, HLS.out]
     exact HR4.out
    case measure => simp [intOf]; omega
   ·have b6 : (q == 6) = false := by simpa using h6
    have b5 : (q == 5) = true := by simpa using h5
    have b7 : (x.f0 != 6) = false := by simpa using h7
    rw [← hs]
    clear hs h6 h5 h7 a1 a2
    go_wp2_with (at_builtin; go_loud (refine Kd.R_append kStr w.heap.size rfl _ _ 86 9 _ 16 rfl Tryz.underlying86 info_str rfl (by decide) (by decide) (.slice A0 ls.length c0) ls (ba s) [.string (ba s)] (fun q => q ≠ w.heap.size) (fun _ => False) rfl (by simp [Act.eval]) rfl (fun _ h => h.elim) (fun q hq => by omega) HR2.out HB2.out hbase (by omega) ?_); intro v1 w4 hR hBB hG hat)
    have HR4 := Aside0.mk hR
    have HB4 := Aside0.mk hBB
    have HBK4 := Aside0.mk ((hG.block _ (by omega) (fun e => HR2.out.1 _ e.symm rfl)).trans HBK2.out)
    clear hR hBB hG hat
    go_wp2
    go_roundw
    case rel =>
     refine ⟨k + 1, by omega, by go_num, ⟨?_⟩, HB4, HBK4⟩
     rw [HSN.out, List.map_append, HLS.out]
     exact HR4.out
    case measure => simp [intOf]; omega
   ·have b6 : (q == 6) = false := by simpa using h6
    have b5 : (q == 5) = false := by simpa using h5
    rw [← hs]
    clear hs h6 h5 a1 a2
    go_wp2_with (at_builtin; go_loud (refine Kd.R_append kStr w.heap.size rfl _ _ 86 9 _ 16 rfl Tryz.underlying86 info_str rfl (by decide) (by decide) (.slice A0 ls.length c0) ls (ba s) [.string (ba s)] (fun q => q ≠ w.heap.size) (fun _ => False) rfl (by simp [Act.eval]) rfl (fun _ h => h.elim) (fun q hq => by omega) HR2.out HB2.out hbase (by omega) ?_); intro v1 w4 hR hBB hG hat)
    have HR4 := Aside0.mk hR
    have HB4 := Aside0.mk hBB
    have HBK4 := Aside0.mk ((hG.block _ (by omega) (fun e => HR2.out.1 _ e.symm rfl)).trans HBK2.out)
    clear hR hBB hG hat
    go_wp2
    go_roundw
    case rel =>
     refine ⟨k + 1, by omega, by go_num, ⟨?_⟩, HB4, HBK4⟩
     rw [HSN.out, List.map_append, HLS.out]
     exact HR4.out
    case measure => simp [intOf]; omega
  ·obtain rfl : k = x.f4.length := by omega
   rw [List.take_of_length_le (Nat.le_refl _)] at HR
   have hc0 := blk_cell HBK.out 0
   have hpos : 0 < ((textsL x.f0 x.f4).map ba).length := by
    rw [List.length_map, textsL_len]; rcases HO.out with h | h | h <;> omega
   obtain ⟨g, c0, rfl, hg, hlc, hcell⟩ := str_own HR.out hpos
   have hcell' : ∀ (j : Nat) y, ((textsL x.f0 x.f4).map ba)[j]? = some y → wr.cell? ⟨g, 0 + j, none⟩ = some (.string y) := hcell
   have hX := textL_eq x
   rw [if_neg H12.out.1, if_neg H12.out.2, if_neg H3.out] at hX
   have hml : ((textsL x.f0 x.f4).map ba).map (·.data.toList) = textsL x.f0 x.f4 := by
    rw [List.map_map]; exact (List.map_congr_left (fun a _ => ba_toList a)).trans (List.map_id _)
   have h8 := HL.out
   have hsl := sizes_len x.f4
   have hsx := size_eq x
   have hlN : x.f4.length ≤ 1000000 := by have := HN.out; omega
   rcases HO.out with ⟨h4, hl1⟩ | ⟨h5, _⟩ | ⟨h6, _⟩
   ·rw [if_pos h4] at hX
    obtain ⟨s, hs⟩ : ∃ s, textsL x.f0 x.f4 = [s] := by
     have := textsL_len x.f0 x.f4
     match hq : textsL x.f0 x.f4, this with
     | [], h => simp at h; omega
     | [s], _ => exact ⟨s, rfl⟩
     | a :: b :: l, h => simp at h; omega
    rw [hs] at hX hcell hlc hml
    have HX := Aside0.mk (show textL x = tNot ++ s from hX)
    rw [HX.out] at h8
    have hk0 : wr.cell? ⟨g, 0, none⟩ = some (.string (ba s)) := hcell 0 (ba s) rfl
    have a1 : ∀ W : World, (Op.stringOp .add { data := #[110, 111, 116, 32] } (ba s)).run Tryz.prog W = .ok (.string (ba (tNot ++ s))) W := fun W => (run_string_add_sum _ _ _ (by rw [ba_size]; simp [tNot] at h8; show 4 + s.length ≤ _; omega)).trans (by rw [← ba_append]; rfl)
    rw [hs]
    rw [h4] at hc0 ⊢
    clear hcell' hlc hX hml h8 hcell HR hsl hsx hs
    go_wp2
    go_ret
    exact ⟨by rw [HX.out]; rfl, HB.out⟩
   ·rw [if_neg (by omega), if_pos h5] at hX
    have HX := Aside0.mk hX
    have HM := Aside0.mk hml
    rw [hX] at h8
    have h47 : (Lib.join (((textsL x.f0 x.f4).map ba).map (·.data.toList)) ({ data := #[32, 97, 110, 100, 32] } : ByteArray).data.toList).length ≤ 140737488355328 := by
     rw [hml]; exact Nat.le_trans h8 (by decide)
    have hN47 : ((textsL x.f0 x.f4).map ba).length ≤ 140737488355328 := by rw [List.length_map, textsL_len]; omega
    obtain ⟨ls, hls⟩ : ∃ ls, (textsL x.f0 x.f4).map ba = ls := ⟨_, rfl⟩
    rw [hls] at HM h47 hN47 hcell' hcell hlc hpos ⊢
    have HC2 := Aside0.mk hcell
    have H47 := Aside0.mk h47
    have H48 := Aside0.mk hN47
    rw [h5] at hc0 ⊢
    clear hcell' hX hml h8 hcell HR hsl hsx hls h47 hN47
    go_wp2_with fail
    refine (Tryz.strings_Join g 0 c0 ls _ wr HC2.out hg H48.out hlc H47.out).mono ?_
    rintro e w2 ⟨rfl, hb⟩
    rw [HM.out]
    have HB2 := Aside0.mk (HB.out.trans (hb.mono HB.out.size))
    clear hb
    go_wp2
    go_ret
    exact ⟨by rw [HX.out, h5]; rfl, HB2.out⟩
   ·rw [if_neg (by omega), if_neg (by omega)] at hX
    have HX := Aside0.mk hX
    have HM := Aside0.mk hml
    rw [hX] at h8
    have h47 : (Lib.join (((textsL x.f0 x.f4).map ba).map (·.data.toList)) ({ data := #[32, 111, 114, 32] } : ByteArray).data.toList).length ≤ 140737488355328 := by
     rw [hml]; exact Nat.le_trans h8 (by decide)
    have hN47 : ((textsL x.f0 x.f4).map ba).length ≤ 140737488355328 := by rw [List.length_map, textsL_len]; omega
    obtain ⟨ls, hls⟩ : ∃ ls, (textsL x.f0 x.f4).map ba = ls := ⟨_, rfl⟩
    rw [hls] at HM h47 hN47 hcell' hcell hlc hpos ⊢
    have HC2 := Aside0.mk hcell
    have H47 := Aside0.mk h47
    have H48 := Aside0.mk hN47
    rw [h6] at hc0 ⊢
    clear hcell' hX hml h8 hcell HR hsl hsx hls h47 hN47
    go_wp2_with fail
    refine (Tryz.strings_Join g 0 c0 ls _ wr HC2.out hg H48.out hlc H47.out).mono ?_
    rintro e w2 ⟨rfl, hb⟩
    rw [HM.out]
    have HB2 := Aside0.mk (HB.out.trans (hb.mono HB.out.size))
    clear hb
    go_wp2
    go_ret
    exact ⟨by rw [HX.out, h6]; rfl, HB2.out⟩
end Go.Proofs.YtkgmempifggajaaGreatDoor.P
/- formula.Text. -/
namespace Go.Proofs.YtkgmempifggajaaGreatDoor.P
open Go.RowKit Go.Proofs.YtkgmempifggajaaGreatDoorW.PrintWords Go.Proofs.YtkgmempifggajaaGreatDoorW.PrintLast Go.Proofs.YtkgmempifggajaaGreatDoorW.PrintMore
set_option linter.unusedVariables false
set_option linter.unusedSimpArgs false
def textF (x : Fm) : List UInt8 × Int := if isLarge x = true then ([], 1) else if firstE badNode x = 0 then (textL x, 0) else ([], 1)
theorem text_top (K : Int) (x : Fm) (A : Option Addr) (c : Nat) (w : World) (hC : Kd.C kFm w A x.f4.length x.f4) (hc : x.f4.length ≤ c) (hs : size x ≤ 1000000) (hlen : (textL x).length ≤ 8000000) (hT : Tab K w) (hnum : firstE (numNode K) x = 0) :
  Calls Tryz.prog 24 #[.agg #[.int .i64 x.f0, .string x.f1, .int .i64 x.f2, .int .i64 x.f3, .slice A x.f4.length c]] w fun e w' => e = .returned (.tuple #[.string (ba (textF x).1), .int .i64 (textF x).2]) ∧ Below w.heap.size w w' := by
 have HC := Aside0.mk hC
 have HS := Aside0.mk hs
 have HT := Aside0.mk hT
 have HNM := Aside0.mk hnum
 have HL := Aside0.mk hlen
 clear hC hs hT hlen hnum
 go_enter Tryz.func24, Tryz.ntmps24
 go_wp2_with fail
 refine (large_calls x A c _ (Kd.C_below HC.out (below_alloc (Below.refl _ _) _)) hc (by have := HS.out; omega)).mono ?_
 rintro e w1 ⟨rfl, hb⟩
 have hz : w.heap.size < w1.heap.size := by have := hb.size; simp at this; omega
 have HB := Aside0.mk (below_then (below_alloc (Below.refl w.heap.size w) _) (by simp) hb)
 have HBK := Aside0.mk (show w1.heap[w.heap.size]? = some (.cells #[.int .i64 x.f0, .string x.f1, .int .i64 x.f2, .int .i64 x.f3, .slice A x.f4.length c] 24 (0, 0)) by rw [hb.block _ (by simp)]; (repeat (first | (refine blk_new _ _ ?_; first | rfl | (simp; done)) | refine blk_alloc_old ?_ _ | refine blk_drew_old ?_ | refine blk_drewN_old ?_ _ | assumption)))
 clear hb
 have hc0 := blk_cell HBK.out 0
 have hc1 := blk_cell HBK.out 1
 have hc2 := blk_cell HBK.out 2
 have hc3 := blk_cell HBK.out 3
 have hc4 := blk_cell HBK.out 4
 cases hL : isLarge x
 ·go_wp2_with fail
  refine (first_bad (size x) x A c w1 (Nat.le_refl _) ⟨trivial⟩ (Kd.C_below HC.out HB.out) hc).mono ?_
  rintro e w2 ⟨rfl, hb⟩
  have HB2 := Aside0.mk (HB.out.trans (hb.mono HB.out.size))
  have HBK2 := Aside0.mk ((hb.block _ hz).trans HBK.out)
  clear hb HBK hc0 hc1 hc2 hc3 hc4
  have hc0 := blk_cell HBK2.out 0
  have hc1 := blk_cell HBK2.out 1
  have hc2 := blk_cell HBK2.out 2
  have hc3 := blk_cell HBK2.out 3
  have hc4 := blk_cell HBK2.out 4
  by_cases h0 : firstE badNode x = 0
  ·have HF := Aside0.mk (show textF x = (textL x, 0) by unfold textF; rw [if_neg (by rw [hL]; decide), if_pos h0])
   have H0 := Aside0.mk h0
   have b0 : (firstE badNode x != 0) = false := by simpa using h0
   clear h0
   go_wp2_with fail
   refine (text_calls K (size x) x A c w2 (Nat.le_refl _) H0.out HNM.out HL.out (HT.out.below HB2.out (Nat.le_refl _)) (Kd.C_below HC.out HB2.out) hc HS.out).mono ?_
   rintro e w3 ⟨rfl, hb⟩
   have HB3 := Aside0.mk (HB2.out.trans (hb.mono HB2.out.size))
   clear hb
   go_wp2
   go_ret2
   exact ⟨by rw [HF.out]; rfl, HB3.out⟩
  ·have HF := Aside0.mk (show textF x = ([], 1) by unfold textF; rw [if_neg (by rw [hL]; decide), if_neg h0])
   have b0 : (firstE badNode x != 0) = true := by simpa using h0
   clear h0
   go_wp2
   go_ret2
   exact ⟨by rw [HF.out]; rfl, HB2.out⟩
 ·have HF := Aside0.mk (show textF x = ([], 1) by unfold textF; rw [if_pos hL])
  go_wp2
  go_ret2
  exact ⟨by rw [HF.out]; rfl, HB.out⟩
end Go.Proofs.YtkgmempifggajaaGreatDoor.P
/- formula.Same. -/
namespace Go.Proofs.YtkgmempifggajaaGreatDoor.P
open Go.RowKit Go.Proofs.YtkgmempifggajaaGreatDoorW.PrintWords Go.Proofs.YtkgmempifggajaaGreatDoorW.PrintLast Go.Proofs.YtkgmempifggajaaGreatDoorW.PrintMore
set_option linter.unusedVariables false
set_option linter.unusedSimpArgs false
mutual
def sameB : Fm → Fm → Bool
 | ⟨a, b, c, d, k⟩, y => a == y.f0 && (b.toList == y.f1.toList) && c == y.f2 && d == y.f3 && k.length == y.f4.length && samesB k y.f4
def samesB : List Fm → List Fm → Bool
 | [], _ => true
 | _ :: _, [] => true
 | a :: l, b :: m => sameB a b && samesB l m
end
theorem sameB_eq (x y : Fm) : sameB x y = (x.f0 == y.f0 && (x.f1.toList == y.f1.toList) && x.f2 == y.f2 && x.f3 == y.f3 && x.f4.length == y.f4.length && samesB x.f4 y.f4) := by cases x; simp [sameB]
theorem samesB_snoc (l m : List Fm) (k : Nat) (h : k < l.length) (h2 : k < m.length) : samesB (l.take (k + 1)) (m.take (k + 1)) = (samesB (l.take k) (m.take k) && sameB l[k] m[k]) := by
 induction l generalizing m k with
 | nil => simp at h
 | cons a l ih =>
  cases m with
  | nil => simp at h2
  | cons b m =>
   cases k with
   | zero => simp [samesB]
   | succ k =>
    simp only [List.length_cons] at h h2
    simp [samesB, ih m k (by omega) (by omega), Bool.and_assoc]
theorem samesB_false (l m : List Fm) (k : Nat) (h : samesB (l.take k) (m.take k) = false) (hl : l.length = m.length) : samesB l m = false := by
 induction l generalizing m k with
 | nil => simp [samesB] at h
 | cons a l ih =>
  cases m with
  | nil => simp at hl
  | cons b m =>
   cases k with
   | zero => simp [samesB] at h
   | succ k =>
    simp only [List.take_succ_cons, samesB, Bool.and_eq_false_iff] at h
    simp only [samesB, Bool.and_eq_false_iff]
    rcases h with h | h
    ·exact .inl h
    ·exact .inr (ih m k h (by simpa using hl))
def SameAt (x y : Fm) : Prop := ∀ (A B : Option Addr) (c d : Nat) (w : World), Kd.C kFm w A x.f4.length x.f4 → Kd.C kFm w B y.f4.length y.f4 → x.f4.length ≤ c → y.f4.length ≤ d →
  Calls Tryz.prog 22 #[.agg #[.int .i64 x.f0, .string x.f1, .int .i64 x.f2, .int .i64 x.f3, .slice A x.f4.length c], .agg #[.int .i64 y.f0, .string y.f1, .int .i64 y.f2, .int .i64 y.f3, .slice B y.f4.length d]] w fun e w' => e = .returned (.bool (sameB x y)) ∧ Below w.heap.size w w'
set_option maxRecDepth 100000 in
theorem equal_func (l m : List Fm) (A B : Option Addr) (c d : Nat) (w : World) (hA : Kd.C kFm w A l.length l) (hB : Kd.C kFm w B m.length m) (hc : l.length ≤ c) (hd : m.length ≤ d) (ih : ∀ k (h : k < l.length), ∀ y, SameAt l[k] y) :
  Calls Tryz.prog 49 #[.slice A l.length c, .slice B m.length d, .func (.func 22) #[] #[]] w fun e w' => e = .returned (.bool (l.length == m.length && samesB l m)) ∧ Below w.heap.size w w' := by
 have hm1 : l.length ≤ 9223372036854775807 := hA.2.1
 have hm2 : m.length ≤ 9223372036854775807 := hB.2.1
 have HA := Aside0.mk hA
 have HB := Aside0.mk hB
 have IH := Aside0.mk ih
 clear hA hB ih
 by_cases hl : l.length = m.length
 ·have bl : ((l.length : Int) != (m.length : Int)) = false := by simp [hl]
  have HE := Aside0.mk (show (l.length == l.length && samesB l m) = samesB l m by simp)
  have HL := Aside0.mk hl
  rw [← hl] at hm2 hd bl ⊢
  clear hl
  go_enter Tryz.func49, Tryz.ntmps49
  go_wp2
  go_loopw [17] (fun i wr => ∃ k : Nat, k ≤ l.length ∧ i = .int .i64 k ∧ Aside0 (samesB (l.take k) (m.take k) = true) ∧ Aside0 (Below w.heap.size w wr)) (fun i _ => l.length - (intOf i).toNat)
  case atStart => exact ⟨0, Nat.zero_le _, rfl, ⟨by simp [samesB]⟩, ⟨Below.refl _ _⟩⟩
  case round =>
   obtain ⟨k, hk, rfl, HN, HW⟩ := hrel
   by_cases hlt : k < l.length
   ·have hlt2 : k < m.length := by have := HL.out; omega
    obtain ⟨ad, A4, c4, rfl, k0, k1, k2, k3, k4, l4, C4⟩ := fm_atC (Kd.C_below HA.out HW.out) k hlt
    obtain ⟨bd, B4, d4, rfl, j0, j1, j2, j3, j4, m4, D4⟩ := fm_atC (Kd.C_below HB.out HW.out) k hlt2
    have HC4 := Aside0.mk C4
    have HD4 := Aside0.mk D4
    have HS := Aside0.mk (samesB_snoc l m k hlt hlt2)
    have hnw1 : (ad.add (k * 5)).block < wr.heap.size := lt_of_cell k0
    have hnw2 : (bd.add (k * 5)).block < wr.heap.size := lt_of_cell j0
    clear C4 D4
    go_wp2_with fail
    refine (IH.out k hlt m[k] A4 B4 c4 d4 _ (Kd.C_below HC4.out (below_alloc (below_alloc (Below.refl _ _) _) _)) (Kd.C_below HD4.out (below_alloc (below_alloc (Below.refl _ _) _) _)) l4 m4).mono ?_
    rintro e w1 ⟨rfl, hb⟩
    have HW2 := Aside0.mk (HW.out.trans ((below_then (below_alloc (below_alloc (Below.refl wr.heap.size wr) _) _) (by simp; omega) hb).mono HW.out.size))
    clear hb
    cases hs : sameB l[k] m[k]
    ·have HF := Aside0.mk (show samesB l m = false from samesB_false l m (k + 1) (by rw [HS.out, hs, Bool.and_false]) HL.out)
     go_wp2
     go_ret
     exact ⟨by rw [HE.out, HF.out]; rfl, HW2.out⟩
    ·have HT := Aside0.mk (show samesB (l.take (k + 1)) (m.take (k + 1)) = true by rw [HS.out, hs, HN.out]; rfl)
     go_wp2
     go_roundw
     case rel => exact ⟨k + 1, by omega, by go_num, HT, HW2⟩
     case measure => simp [intOf]; omega
   ·obtain rfl : k = l.length := by omega
    have HF := Aside0.mk (show samesB l m = true by
     have := HN.out; rwa [List.take_of_length_le (Nat.le_refl _), HL.out, List.take_of_length_le (Nat.le_refl _)] at this)
    go_wp2
    go_ret
    exact ⟨by rw [HE.out, HF.out]; rfl, HW.out⟩
 ·have bl : ((l.length : Int) != (m.length : Int)) = true := by simpa using by omega
  have HE := Aside0.mk (show (l.length == m.length && samesB l m) = false by simp [hl])
  go_enter Tryz.func49, Tryz.ntmps49
  go_wp2
  go_ret
  exact ⟨by rw [HE.out]; rfl, Below.refl _ _⟩
set_option maxRecDepth 100000 in
theorem same_all (N : Nat) : ∀ x y : Fm, size x ≤ N → SameAt x y := by
 induction N with
 | zero => intro x y h; have := size_pos x; omega
 | succ N ih =>
 intro x y hN A B c d w hA hB hc hd
 have HA := Aside0.mk hA
 have HB := Aside0.mk hB
 have IH := Aside0.mk (fun k (h : k < x.f4.length) y => ih x.f4[k] y (by have := size_mem x.f4 k h; have := size_eq x; omega))
 have HE := Aside0.mk (sameB_eq x y)
 clear ih hN hA hB
 cases h0 : x.f0 == y.f0
 ·have HF := Aside0.mk (show sameB x y = false by rw [HE.out, h0]; rfl)
  go_enter Tryz.func22, Tryz.ntmps22
  go_wp2
  go_ret
  exact ⟨by rw [HF.out]; rfl, below_alloc (below_alloc (Below.refl _ _) _) _⟩
 cases h1 : x.f1.toList == y.f1.toList
 ·have HF := Aside0.mk (show sameB x y = false by rw [HE.out, h0, h1]; rfl)
  go_enter Tryz.func22, Tryz.ntmps22
  go_wp2
  go_ret
  exact ⟨by rw [HF.out]; rfl, below_alloc (below_alloc (Below.refl _ _) _) _⟩
 cases h2 : x.f2 == y.f2
 ·have HF := Aside0.mk (show sameB x y = false by rw [HE.out, h0, h1, h2]; rfl)
  go_enter Tryz.func22, Tryz.ntmps22
  go_wp2
  go_ret
  exact ⟨by rw [HF.out]; rfl, below_alloc (below_alloc (Below.refl _ _) _) _⟩
 cases h3 : x.f3 == y.f3
 ·have HF := Aside0.mk (show sameB x y = false by rw [HE.out, h0, h1, h2, h3]; rfl)
  go_enter Tryz.func22, Tryz.ntmps22
  go_wp2
  go_ret
  exact ⟨by rw [HF.out]; rfl, below_alloc (below_alloc (Below.refl _ _) _) _⟩
 have HF := Aside0.mk (show sameB x y = (x.f4.length == y.f4.length && samesB x.f4 y.f4) by rw [HE.out, h0, h1, h2, h3]; simp)
 go_enter Tryz.func22, Tryz.ntmps22
 go_wp2_with fail
 refine (equal_func x.f4 y.f4 A B c d _ (Kd.C_below HA.out (below_alloc (below_alloc (Below.refl _ _) _) _)) (Kd.C_below HB.out (below_alloc (below_alloc (Below.refl _ _) _) _)) hc hd IH.out).mono ?_
 rintro e w1 ⟨rfl, hb⟩
 have HW2 := Aside0.mk (below_then (below_alloc (below_alloc (Below.refl w.heap.size w) _) _) (by simp; omega) hb)
 clear hb
 obtain ⟨q, hq⟩ : ∃ q, (x.f4.length == y.f4.length && samesB x.f4 y.f4) = q := ⟨_, rfl⟩
 rw [hq] at HF ⊢
 clear hq
 go_wp2
 go_ret
 exact ⟨by rw [HF.out]; rfl, HW2.out⟩
theorem same_calls (x y : Fm) (A B : Option Addr) (c d : Nat) (w : World) (hA : Kd.C kFm w A x.f4.length x.f4) (hB : Kd.C kFm w B y.f4.length y.f4) (hc : x.f4.length ≤ c) (hd : y.f4.length ≤ d) :
  Calls Tryz.prog 22 #[.agg #[.int .i64 x.f0, .string x.f1, .int .i64 x.f2, .int .i64 x.f3, .slice A x.f4.length c], .agg #[.int .i64 y.f0, .string y.f1, .int .i64 y.f2, .int .i64 y.f3, .slice B y.f4.length d]] w fun e w' => e = .returned (.bool (sameB x y)) ∧ Below w.heap.size w w' := same_all (size x) x y (Nat.le_refl _) A B c d w hA hB hc hd
end Go.Proofs.YtkgmempifggajaaGreatDoor.P
/- fact.isName. -/
namespace Go.Proofs.YtkgmempifggajaaGreatDoor.P
open Go.RowKit Go.Proofs.YtkgmempifggajaaGreatDoorW.PrintWords Go.Proofs.YtkgmempifggajaaGreatDoorW.PrintLast Go.Proofs.YtkgmempifggajaaGreatDoorW.PrintMore
set_option linter.unusedVariables false
set_option linter.unusedSimpArgs false
def letterB (b : UInt8) : Bool := (decide (97 ≤ (b.toNat : Int)) && decide ((b.toNat : Int) ≤ 122)) || (decide (65 ≤ (b.toNat : Int)) && decide ((b.toNat : Int) ≤ 90))
def digitB (b : UInt8) : Bool := (decide (48 ≤ (b.toNat : Int)) && decide ((b.toNat : Int) ≤ 57)) || decide ((b.toNat : Int) = 95)
def nameAt (i : Nat) (b : UInt8) : Bool := letterB b || (decide (i ≠ 0) && digitB b)
def nameOk (s : ByteArray) : Bool := decide (s.size ≠ 0) && decide (s.size ≤ 24) && (List.range s.size).all (fun i => nameAt i (s.data.toList.getD i 0))
theorem toList_size (s : ByteArray) : s.toList.length = s.size := by rw [ByteArray.toList_eq]; exact Array.length_toList
theorem toList_nil {s : ByteArray} (h : s.size = 0) : s.toList = [] := List.eq_nil_of_length_eq_zero ((toList_size s).trans h)
theorem toList_some {s : ByteArray} (h : ¬ s.size = 0) : (s.toList == []) = false := by
 cases hq : s.toList with
 | nil => exact absurd (by rw [← toList_size, hq]; rfl) h
 | cons a l => rfl
theorem nameOk_false (s : ByteArray) (k : Nat) (hk : k < s.size) (h : nameAt k (s.data.toList.getD k 0) = false) : nameOk s = false := by
 unfold nameOk
 have : (List.range s.size).all (fun i => nameAt i (s.data.toList.getD i 0)) = false := by
  rw [List.all_eq_false]; exact ⟨k, List.mem_range.2 hk, by rw [h]; decide⟩
 rw [this, Bool.and_false]
set_option maxHeartbeats 4000000 in
set_option maxRecDepth 100000 in
theorem isName_calls (s : ByteArray) (w : World) (hs : s.size ≤ 9223372036854775807) :
  Calls Tryz.prog 86 #[.string s] w fun e w' => e = .returned (.bool (nameOk s)) ∧ w = w' := by
 go_enter Tryz.func86, Tryz.ntmps86
 go_wp2
 go_loop [9] (fun i => ∃ k : Nat, k ≤ s.size ∧ i = .int .i64 k ∧ Aside0 (∀ j (hj : j < k) (hl : j < s.size), nameAt j (s.data.toList.getD j 0) = true)) (fun i => s.size - (intOf i).toNat)
 case atStart => exact ⟨0, Nat.zero_le _, rfl, ⟨fun j hj => absurd hj (by omega)⟩⟩
 case round =>
  obtain ⟨k, hk, rfl, HN⟩ := hrel
  by_cases hlt : k < s.size
  ·have hget : s.data.toList.getD k 0 = s[k] := by
    have hk2 : k < s.data.toList.length := by simpa using hlt
    rw [List.getD_eq_getElem?_getD, List.getElem?_eq_getElem hk2]
    simp [ByteArray.getElem_eq_getElem_data]
   have hlb : letterB s[k] = ((decide (97 ≤ (s[k].toNat : Int)) && decide ((s[k].toNat : Int) ≤ 122)) || (decide (65 ≤ (s[k].toNat : Int)) && decide ((s[k].toNat : Int) ≤ 90))) := rfl
   have hdb : digitB s[k] = ((decide (48 ≤ (s[k].toNat : Int)) && decide ((s[k].toNat : Int) ≤ 57)) || decide ((s[k].toNat : Int) = 95)) := rfl
   have hNA : nameAt k s[k] = (letterB s[k] || (decide (k ≠ 0) && digitB s[k])) := rfl
   rw [hlb, hdb] at hNA
   clear hlb hdb
   obtain ⟨b, hb⟩ : ∃ b : Int, (s[k].toNat : Int) = b := ⟨_, rfl⟩
   rw [hb] at hNA
   have HG := Aside0.mk hget
   clear hget
   have hk0 : k = 0 ∨ k ≠ 0 := by omega
   rcases (show b < 48 ∨ (48 ≤ b ∧ b ≤ 57) ∨ (58 ≤ b ∧ b ≤ 64) ∨ (65 ≤ b ∧ b ≤ 90) ∨ (91 ≤ b ∧ b ≤ 94) ∨ b = 95 ∨ b = 96 ∨ (97 ≤ b ∧ b ≤ 122) ∨ 123 ≤ b by omega) with h | h | h | h | h | h | h | h | h
   all_goals
    rcases hk0 with hk0 | hk0
    all_goals
     (first | (have f0 : ((k : Int) == 0) = true := by simp; omega) | (have f0 : ((k : Int) == 0) = false := by simp; omega))
     (first | (have f1 : (97 : Int) ≤ s[k].toNat := by omega) | (have f1 : ¬ (97 : Int) ≤ s[k].toNat := by omega))
     (first | (have f2 : (s[k].toNat : Int) ≤ 122 := by omega) | (have f2 : ¬ (s[k].toNat : Int) ≤ 122 := by omega))
     (first | (have f3 : (65 : Int) ≤ s[k].toNat := by omega) | (have f3 : ¬ (65 : Int) ≤ s[k].toNat := by omega))
     (first | (have f4 : (s[k].toNat : Int) ≤ 90 := by omega) | (have f4 : ¬ (s[k].toNat : Int) ≤ 90 := by omega))
     (first | (have f5 : (48 : Int) ≤ s[k].toNat := by omega) | (have f5 : ¬ (48 : Int) ≤ s[k].toNat := by omega))
     (first | (have f6 : (s[k].toNat : Int) ≤ 57 := by omega) | (have f6 : ¬ (s[k].toNat : Int) ≤ 57 := by omega))
     (first | (have f7 : ((s[k].toNat : Int) == 95) = true := by simp; omega) | (have f7 : ((s[k].toNat : Int) == 95) = false := by simp; omega))
     first
     | (
      have HT := Aside0.mk (show nameAt k s[k] = true by rw [hNA]; simp; omega)
      clear hNA hb h hk0
      go_wp2
      go_round
      case rel => exact ⟨k + 1, by omega, by go_num, ⟨fun j hj hl => by
       by_cases e : j = k
       ·subst e; rw [HG.out]; exact HT.out
       ·exact HN.out j (by omega) hl⟩⟩
      case measure => simp [intOf]; omega)
     | (
      have HF := Aside0.mk (show nameOk s = false from nameOk_false s k hlt (by rw [HG.out, hNA]; simp; omega))
      clear hNA hb h hk0
      go_wp2
      go_ret
      exact ⟨by rw [HF.out]; rfl, rfl⟩)
  ·obtain rfl : k = s.size := by omega
   have HA : (List.range s.size).all (fun i => nameAt i (s.data.toList.getD i 0)) = true := by
    rw [List.all_eq_true]; intro j hj; have := List.mem_range.1 hj; exact HN.out j this this
   have HE := Aside0.mk (show nameOk s = (decide (s.size ≠ 0) && decide (s.size ≤ 24)) by unfold nameOk; rw [HA, Bool.and_true])
   clear HA HN
   by_cases h0 : s.size = 0
   ·have hl0 : s.toList = [] := toList_nil h0
    have HF := Aside0.mk (show nameOk s = false by rw [HE.out, h0]; rfl)
    go_wp2
    go_ret
    exact ⟨by rw [HF.out]; rfl, rfl⟩
   ·have hl1 : (s.toList == []) = false := toList_some h0
    by_cases h24 : (s.size : Int) ≤ 24
    ·have HF := Aside0.mk (show nameOk s = true by rw [HE.out]; simp [h0]; omega)
     clear h0
     go_wp2
     go_ret
     exact ⟨by rw [HF.out]; rfl, rfl⟩
    ·have HF := Aside0.mk (show nameOk s = false by rw [HE.out]; simp [h0]; omega)
     clear h0
     go_wp2
     go_ret
     exact ⟨by rw [HF.out]; rfl, rfl⟩
end Go.Proofs.YtkgmempifggajaaGreatDoor.P
/- Formulas that are the same: reflexive, symmetric; the same size and depth. -/
namespace Go.Proofs.YtkgmempifggajaaGreatDoor.P
open Go.RowKit
set_option linter.unusedVariables false
set_option linter.unusedSimpArgs false
theorem samesB_refl (l : List Fm) (h : ∀ k (hk : k < l.length), sameB l[k] l[k] = true) : samesB l l = true := by
 induction l with
 | nil => rfl
 | cons a l ih =>
  simp only [samesB, Bool.and_eq_true]
  exact ⟨h 0 (by simp), ih (fun k hk => h (k + 1) (by simpa using hk))⟩
theorem sameB_refl_all (N : Nat) : ∀ x : Fm, size x ≤ N → sameB x x = true := by
 induction N with
 | zero => intro x h; have := size_pos x; omega
 | succ N ih =>
  intro x hx
  have hs := size_eq x
  rw [sameB_eq, samesB_refl x.f4 (fun k hk => ih _ (by have := size_mem x.f4 k hk; omega))]
  simp
theorem sameB_refl (x : Fm) : sameB x x = true := sameB_refl_all (size x) x (Nat.le_refl _)
end Go.Proofs.YtkgmempifggajaaGreatDoor.P
/- The tokens of a formula's canonical text. -/
namespace Go.Proofs.YtkgmempifggajaaGreatDoor.P
set_option linter.unusedVariables false
set_option linter.unusedSimpArgs false
def say (t : Tok) : Int × List UInt8 × Int := (t.f0, t.f3.data.toList, t.f2)
abbrev Pat := List (Int × List UInt8 × Int)
def pNot : List UInt8 := [110, 111, 116]
def pAnd : List UInt8 := [97, 110, 100]
def pOr : List UInt8 := [111, 114]
def tailP (w : Int × List UInt8 × Int) (ps : List Pat) : Pat := (ps.map (w :: ·)).flatten
def joinP (w : Int × List UInt8 × Int) : List Pat → Pat
 | [] => []
 | p :: ps => p ++ tailP w ps
def wrapP (op : Int) (k : Fm) (p : Pat) : Pat := if k.f0 = 6 ∨ (k.f0 = 5 ∧ op ≠ 6) then (4, [40], 0) :: (p ++ [(4, [41], 0)]) else p
mutual
def pats : Fm → Pat
 | ⟨op, name, cmp, n, kids⟩ =>
  if op = 1 then [(1, tTrue, 0)] else if op = 2 then [(1, tFalse, 0)] else if op = 3 then [(1, name.data.toList, 0), (4, sym cmp, 0), (2, Lib.itoa n, n)]
  else if op = 4 then (1, pNot, 0) :: (patsL op kids).headD [] else if op = 5 then joinP (1, pAnd, 0) (patsL op kids) else joinP (1, pOr, 0) (patsL op kids)
def patsL (op : Int) : List Fm → List Pat
 | [] => []
 | k :: ks => wrapP op k (pats k) :: patsL op ks
end
theorem pats_eq (x : Fm) : pats x = if x.f0 = 1 then [(1, tTrue, 0)] else if x.f0 = 2 then [(1, tFalse, 0)] else if x.f0 = 3 then [(1, x.f1.data.toList, 0), (4, sym x.f2, 0), (2, Lib.itoa x.f3, x.f3)]
  else if x.f0 = 4 then (1, pNot, 0) :: (patsL x.f0 x.f4).headD [] else if x.f0 = 5 then joinP (1, pAnd, 0) (patsL x.f0 x.f4) else joinP (1, pOr, 0) (patsL x.f0 x.f4) := by cases x; simp [pats]
theorem patsL_len (op : Int) (l : List Fm) : (patsL op l).length = l.length := by
 induction l with
 | nil => rfl
 | cons a l ih => simp [patsL, ih]
theorem patsL_at (op : Int) (l : List Fm) (k : Nat) (h : k < l.length) (h2 : k < (patsL op l).length) : (patsL op l)[k] = wrapP op l[k] (pats l[k]) := by
 induction l generalizing k with
 | nil => simp at h
 | cons a l ih =>
  cases k with
  | zero => rfl
  | succ k => simp only [patsL, List.getElem_cons_succ]; exact ih k (by simpa using h) (by simpa [patsL] using h2)
end Go.Proofs.YtkgmempifggajaaGreatDoor.P
