/- What the statement's proof builds on: TextA. -/
import Derived.Test.YtkgmempifggajaaGreatDoorGC8
import Derived.Lib.SmallJoins
-- the text YtkgmempifggajaaGreatDoorTextA
/- formula's symbols; strconv.Itoa. -/
namespace Go.Proofs.YtkgmempifggajaaGreatDoor.P
open Go.RowKit Go.Proofs.YtkgmempifggajaaGreatDoorW.PrintWords Go.Proofs.YtkgmempifggajaaGreatDoorW.PrintLast Go.Proofs.YtkgmempifggajaaGreatDoorW.PrintMore
set_option linter.unusedVariables false
set_option linter.unusedSimpArgs false

/-- The symbols of comparisons. -/
def symL : List (List UInt8) := [[], [61], [33, 61], [60], [60, 61], [62], [62, 61]]
theorem symbols_calls (w : World) :
    Calls Tryz.prog 72 #[] w fun e w' => e = .returned (.agg #[.string ⟨#[]⟩, .string ⟨#[61]⟩, .string ⟨#[33, 61]⟩, .string ⟨#[60]⟩, .string ⟨#[60, 61]⟩, .string ⟨#[62]⟩, .string ⟨#[62, 61]⟩]) ∧ Below w.heap.size w w' := by
  go_enter Tryz.func72, Tryz.ntmps72
  go_wp2
  refine bodyPost_ret (results_cell_row rfl _ _ w.heap.size 87 _ (0,0) _ rfl (by (repeat (first | (refine blk_new _ _ ?_; first | rfl | (simp; done)) | refine blk_alloc_old ?_ _ | refine blk_drew_old ?_ | refine blk_drewN_old ?_ _ | assumption))) Tryz.underlying87 rfl (by kernel_rfl)) rfl ?_
  exact ⟨rfl, below_alloc (Below.refl _ _) _⟩

/-- The table that Itoa reads, where numbers up to B may have three digits. -/
structure Tab (B : Int) (w : World) : Prop where
  tab : 100 ≤ B → Lib.TabIs Tryz.prog w "internal/strconv.uint64pow10" .u64 Lib.pow10Tab
theorem Tab.small (w : World) : Tab 99 w := ⟨fun h => absurd h (by decide)⟩
theorem tab_named : ∃ g, Tryz.prog.globalNamed "internal/strconv.uint64pow10" = some g := by
  exact Option.isSome_iff_exists.1 (by kernel_rfl)
theorem Tab.below {K : Int} {w w1 : World} {B : Nat} (h : Tab K w) (hb : Below B w w1) (hB : w.heap.size ≤ B) : Tab K w1 := by
  obtain ⟨g, hg⟩ := tab_named
  exact ⟨fun hk => Go.Joins.tab_stays hg (h.tab hk) hb hB⟩
theorem below_grow (w : World) (os : Array Obj) : Below w.heap.size w (Go.Sort.grow w os) :=
  ⟨rfl, rfl, rfl, by simp, fun j hj => Go.Sort.heap_grow_old w os hj⟩
theorem itoa_nat (i : Nat) : Lib.itoa (i : Int) = Lib.decDigits i := by
  unfold Lib.itoa
  rw [if_neg (by omega)]
  simp
theorem itoa_calls (n : Int) (K : Int) (w : World) (h0 : 0 ≤ n) (h1 : n ≤ 1000000) (hK : n ≤ K) (hT : Tab K w) :
    Calls Tryz.prog 73 #[.int .i64 n] w fun e w' => e = .returned (.string ⟨(Lib.itoa n).toArray⟩) ∧ Below w.heap.size w w' := by
  by_cases h : n < 100
  · obtain ⟨i, rfl⟩ := Int.eq_ofNat_of_zero_le h0
    refine (Tryz.strconv_Itoa_small i (by omega) w).mono ?_
    rintro e w' ⟨rfl, rfl⟩
    exact ⟨by rw [itoa_nat], Below.refl _ _⟩
  · refine (Tryz.strconv_Itoa n (by omega) (by omega) w (hT.tab (by omega))).mono ?_
    rintro e w' ⟨rfl, k, os, rfl⟩
    exact ⟨rfl, ⟨rfl, rfl, rfl, by simp, fun j hj => (below_grow (w.drewN k) os).block j hj⟩⟩
end Go.Proofs.YtkgmempifggajaaGreatDoor.P
