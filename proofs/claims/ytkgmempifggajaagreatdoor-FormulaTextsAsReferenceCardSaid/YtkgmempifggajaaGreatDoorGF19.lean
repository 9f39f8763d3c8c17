/- What the statement's proof builds on: PureCountFormulaTextsAsReference, PureShortFormulaTextsAsReference. -/
import Derived.Test.YtkgmempifggajaaGreatDoorGF16
import Derived.Test.YtkgmempifggajaaGreatDoorGF6
/- customhouseref25.Small tells whether a formula has at most so many nodes. -/
namespace Go.Proofs.YtkgmempifggajaaGreatDoor.PLawFormulaTextsAsReference
open Go.RowKit Go.Proofs.YtkgmempifggajaaGreatDoorW.PrintWords Go.Proofs.YtkgmempifggajaaGreatDoorW.PrintLast Go.Proofs.YtkgmempifggajaaGreatDoorW.PrintMore
open Go.Proofs.YtkgmempifggajaaGreatDoor.P
set_option linter.unusedVariables false
set_option linter.unusedSimpArgs false
theorem rd_at (l : List S24) (i : Nat) (h : i < l.length) : rd_T24 l (i : Int) = l[i] := by
 simp [rd_T24, List.getD_eq_getElem?_getD, List.getElem?_eq_getElem h]
theorem wrap_id (n : Int) (h0 : -9223372036854775808 ≤ n) (h1 : n ≤ 9223372036854775807) : wrap64 n = n := by unfold wrap64; omega
def CountAt (x : S24) : Prop := ∀ m : Int, 0 ≤ m → m ≤ 1000000 → ∃ k0 r, (∀ k, k0 ≤ k → customhouseref25_count.f k x.f0 x.f1 x.f2 x.f3 x.f4 m = some r) ∧ 1 ≤ r ∧ r ≤ m + 1 ∧ (r ≤ m → r = size x) ∧ ((size x : Int) ≤ m → r ≤ m)
theorem count_loop (most : Int) (h0 : 0 ≤ most) (hm : most ≤ 1000000) (op : Int) (nm : ByteArray) (c n : Int) (l : List S24) (hl : l.length ≤ 9223372036854775807)
  (ih : ∀ j (hj : j < l.length), CountAt l[j]) :
  ∀ d i : Nat, i + d = l.length → ∀ acc : Int, 1 ≤ acc → acc ≤ most + 1 → (acc ≤ most → acc = 1 + sizes (l.take i)) → (most < acc → most < 1 + (sizes l : Int)) →
   ∃ k0 r, (∀ k, k0 ≤ k → customhouseref25_count.l0 k most acc i op nm c n l = some r) ∧ 1 ≤ r ∧ r ≤ most + 1 ∧ (r ≤ most → r = 1 + sizes l) ∧ (1 + (sizes l : Int) ≤ most → r ≤ most) := by
 intro d
 induction d with
 | zero =>
  intro i hi acc h1 h2 h3 h4
  refine ⟨1, acc, fun k hk => ?_, h1, h2, fun h => ?_, fun h => ?_⟩
  ·obtain ⟨k, rfl⟩ : ∃ q, k = q + 1 := ⟨k - 1, by omega⟩
   simp only [customhouseref25_count.l0]
   rw [if_neg (by omega)]
  ·rw [h3 h, show i = l.length by omega, List.take_length]
  ·rcases Int.lt_or_le most acc with hh | hh
   ·have := h4 hh; omega
   ·exact hh
 | succ d ihd =>
  intro i hi acc h1 h2 h3 h4
  have hlt : i < l.length := by omega
  by_cases ha : acc ≤ most
  ·obtain ⟨k1, r1, g1, g2, g3, g4, g5⟩ := ih i hlt (most - acc) (by omega) (by omega)
   have hsn := sizes_snoc l i hlt
   have hle := sizes_take_le l (i + 1)
   have e3 := h3 ha
   obtain ⟨k2, r, f1, f2, f3, f4, f5⟩ := ihd (i + 1) (by omega) (acc + r1) (by omega) (by omega) (fun h => by have := g4 (by omega); omega) (fun h => by
    rcases Int.lt_or_le (most - acc) (size l[i]) with hh | hh
    ·omega
    ·have := g5 hh; omega)
   refine ⟨max k1 k2 + 1, r, fun k hk => ?_, f2, f3, f4, f5⟩
   obtain ⟨k, rfl⟩ : ∃ q, k = q + 1 := ⟨k - 1, by omega⟩
   simp only [customhouseref25_count.l0]
   rw [if_pos (by omega), if_pos ha, if_pos (by omega), rd_at l i hlt, wrap_id (most - acc) (by omega) (by omega), g1 k (by omega)]
   simp only [Option.bind_some]
   rw [wrap_id (acc + r1) (by omega) (by omega), wrap_id ((i : Int) + 1) (by omega) (by omega)]
   have := f1 k (by omega)
   push_cast at this
   exact this
  ·refine ⟨1, acc, fun k hk => ?_, h1, h2, fun h => absurd h ha, fun h => by have := h4 (by omega); omega⟩
   obtain ⟨k, rfl⟩ : ∃ q, k = q + 1 := ⟨k - 1, by omega⟩
   simp only [customhouseref25_count.l0]
   rw [if_pos (by omega), if_neg ha]
theorem count_all {x : S24} (h : Low x) : CountAt x := by
 induction h with
 | mk x hl _ ih =>
  intro m h0 h1
  have hs := size_eq x
  obtain ⟨k0, r, g1, g2, g3, g4, g5⟩ := count_loop m h0 h1 x.f0 x.f1 x.f2 x.f3 x.f4 hl ih x.f4.length 0 (by omega) 1 (by omega) (by omega) (fun _ => by simp [sizes]) (fun h => by omega)
  refine ⟨k0 + 1, r, fun k hk => ?_, g2, g3, fun h => by have := g4 h; omega, fun h => g5 (by omega)⟩
  obtain ⟨k, rfl⟩ : ∃ q, k = q + 1 := ⟨k - 1, by omega⟩
  simp only [customhouseref25_count.f]
  exact g1 k (by omega)
theorem small_tells (x : S24) (hx : Low x) (m : Int) (h0 : 0 ≤ m) (h1 : m ≤ 1000000) : ∃ k0, ∀ k, k0 ≤ k → customhouseref25_Small.f k x.f0 x.f1 x.f2 x.f3 x.f4 m = some (decide ((size x : Int) ≤ m)) := by
 obtain ⟨k0, r, g1, g2, g3, g4, g5⟩ := count_all hx m h0 h1
 refine ⟨k0, fun k hk => ?_⟩
 unfold customhouseref25_Small.f
 rw [g1 k hk]
 simp only [Option.bind_some, Option.some.injEq]
 rw [decide_eq_decide]
 exact ⟨fun h => by have := g4 h; omega, g5⟩
end Go.Proofs.YtkgmempifggajaaGreatDoor.PLawFormulaTextsAsReference
/- short tells whether all names of a formula have at most 60 bytes. -/
namespace Go.Proofs.YtkgmempifggajaaGreatDoor.PLawFormulaTextsAsReference
open Go.RowKit Go.Proofs.YtkgmempifggajaaGreatDoorW.PrintWords Go.Proofs.YtkgmempifggajaaGreatDoorW.PrintLast Go.Proofs.YtkgmempifggajaaGreatDoorW.PrintMore
open Go.Proofs.YtkgmempifggajaaGreatDoor.P
set_option linter.unusedVariables false
set_option linter.unusedSimpArgs false
def ShortAt (x : S24) : Prop := ∃ k0 b, ∀ k, k0 ≤ k → customhouselaw25_short.f k x.f0 x.f1 x.f2 x.f3 x.f4 = some b
theorem short_loop (op : Int) (nm : ByteArray) (c n : Int) (l : List S24) (hl : l.length ≤ 9223372036854775807) (ih : ∀ j (hj : j < l.length), ShortAt l[j]) :
  ∀ d i : Nat, i + d = l.length → ∃ k0 b, ∀ k, k0 ≤ k → customhouselaw25_short.l0 k i op nm c n l = some b := by
 intro d
 induction d with
 | zero =>
  intro i hi
  refine ⟨1, decide ((nm.size : Int) ≤ 60), fun k hk => ?_⟩
  obtain ⟨k, rfl⟩ : ∃ q, k = q + 1 := ⟨k - 1, by omega⟩
  simp only [customhouselaw25_short.l0]
  rw [if_neg (by omega)]
 | succ d ihd =>
  intro i hi
  have hlt : i < l.length := by omega
  obtain ⟨k1, b1, g1⟩ := ih i hlt
  obtain ⟨k2, b2, g2⟩ := ihd (i + 1) (by omega)
  refine ⟨max k1 k2 + 1, if b1 = true then b2 else false, fun k hk => ?_⟩
  obtain ⟨k, rfl⟩ : ∃ q, k = q + 1 := ⟨k - 1, by omega⟩
  simp only [customhouselaw25_short.l0]
  rw [if_pos (by omega), if_pos (by omega), rd_at l i hlt, g1 k (by omega)]
  simp only [Option.bind_some]
  rw [wrap_id ((i : Int) + 1) (by omega) (by omega)]
  have := g2 k (by omega)
  push_cast at this
  cases b1
  ·simp
  ·simp [this]
theorem short_all {x : S24} (h : Low x) : ShortAt x := by
 induction h with
 | mk x hl _ ih =>
  obtain ⟨k0, b, g⟩ := short_loop x.f0 x.f1 x.f2 x.f3 x.f4 hl ih x.f4.length 0 (by omega)
  refine ⟨k0 + 1, b, fun k hk => ?_⟩
  obtain ⟨k, rfl⟩ : ∃ q, k = q + 1 := ⟨k - 1, by omega⟩
  simp only [customhouselaw25_short.f]
  exact g k (by omega)
end Go.Proofs.YtkgmempifggajaaGreatDoor.PLawFormulaTextsAsReference
